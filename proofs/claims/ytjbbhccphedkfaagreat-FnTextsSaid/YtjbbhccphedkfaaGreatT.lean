/- The types' table. No condition. -/
import Derived.Test.YtjbbhccphedkfaaGreatProg
import Derived.KernelRfl
import Derived.Test.YtjbbhccphedkfaaGreatL1
set_option linter.unusedSimpArgs false
set_option linter.unusedVariables false
set_option linter.unnecessarySimpa false
set_option linter.unusedSectionVars false
namespace Am
open Go Go.Proofs
def TryzT:Am.Ty:=[
  (2,⟨.int .i64,1,8,[.c (.int .i64 0)],false⟩),
  (3,⟨.int .i64,1,8,[.c (.int .i64 0)],false⟩),
  (4,⟨.bool,1,1,[.c (.bool false)],false⟩),
  (5,⟨.int .u8,1,1,[.c (.int .u8 0)],false⟩),
  (6,⟨.int .u8,1,1,[.c (.int .u8 0)],false⟩),
  (7,⟨.struct [(0,2),(1,3),(2,4),(3,6)],4,24,[.c (.int .i64 0),.c (.int .i64 0),.c (.bool false),.c (.int .u8 0)],true⟩),
  (8,⟨.struct [(0,2),(1,3),(2,4),(3,6)],4,24,[.c (.int .i64 0),.c (.int .i64 0),.c (.bool false),.c (.int .u8 0)],true⟩),
  (9,⟨.str,1,16,[.c (.str ⟨#[]⟩)],false⟩),
  (10,⟨.str,1,16,[.c (.str ⟨#[]⟩)],false⟩),
  (11,⟨.str,1,16,[.c (.str ⟨#[]⟩)],false⟩),
  (12,⟨.int .u64,1,8,[.c (.int .u64 0)],false⟩),
  (13,⟨.struct [(0,9),(1,12)],2,24,[.c (.str ⟨#[]⟩),.c (.int .u64 0)],false⟩),
  (14,⟨.struct [(0,9),(1,12)],2,24,[.c (.str ⟨#[]⟩),.c (.int .u64 0)],false⟩),
  (21,⟨.int .i32,1,4,[.c (.int .i32 0)],false⟩),
  (22,⟨.slice 5,1,24,[.nil],false⟩),
  (24,⟨.slice 3,1,24,[.nil],false⟩),
  (25,⟨.slice 104,1,24,[.nil],false⟩),
  (26,⟨.slice 98,1,24,[.nil],false⟩),
  (27,⟨.slice 100,1,24,[.nil],false⟩),
  (28,⟨.struct [(0,24),(1,25),(2,26),(3,27)],4,96,[.nil,.nil,.nil,.nil],false⟩),
  (29,⟨.struct [(0,24),(1,25),(2,26),(3,27)],4,96,[.nil,.nil,.nil,.nil],false⟩),
  (35,⟨.slice 60,1,24,[.nil],false⟩),
  (36,⟨.struct [(0,24),(1,24),(2,25),(3,26),(4,35),(5,27)],6,144,[.nil,.nil,.nil,.nil,.nil,.nil],false⟩),
  (37,⟨.struct [(0,24),(1,24),(2,25),(3,26),(4,35),(5,27)],6,144,[.nil,.nil,.nil,.nil,.nil,.nil],false⟩),
  (48,⟨.slice 62,1,24,[.nil],false⟩),
  (49,⟨.struct [(0,48),(1,3)],2,32,[.nil,.c (.int .i64 0)],false⟩),
  (50,⟨.struct [(0,48),(1,3)],2,32,[.nil,.c (.int .i64 0)],false⟩),
  (59,⟨.struct [(0,3),(1,3)],2,16,[.c (.int .i64 0),.c (.int .i64 0)],true⟩),
  (60,⟨.struct [(0,3),(1,3)],2,16,[.c (.int .i64 0),.c (.int .i64 0)],true⟩),
  (61,⟨.struct [(0,60),(2,24),(3,29)],7,136,[.c (.int .i64 0),.c (.int .i64 0),.nil,.nil,.nil,.nil,.nil],false⟩),
  (62,⟨.struct [(0,60),(2,24),(3,29)],7,136,[.c (.int .i64 0),.c (.int .i64 0),.nil,.nil,.nil,.nil,.nil],false⟩),
  (76,⟨.struct [(0,9),(1,3),(2,4)],3,32,[.c (.str ⟨#[]⟩),.c (.int .i64 0),.c (.bool false)],true⟩),
  (77,⟨.struct [(0,9),(1,3),(2,4)],3,32,[.c (.str ⟨#[]⟩),.c (.int .i64 0),.c (.bool false)],true⟩),
  (89,⟨.struct [(0,9),(1,3),(2,4)],3,32,[.c (.str ⟨#[]⟩),.c (.int .i64 0),.c (.bool false)],true⟩),
  (90,⟨.struct [(0,9),(1,3),(2,4)],3,32,[.c (.str ⟨#[]⟩),.c (.int .i64 0),.c (.bool false)],true⟩),
  (97,⟨.struct [(0,4),(1,9),(2,9),(3,3),(4,60)],6,64,[.c (.bool false),.c (.str ⟨#[]⟩),.c (.str ⟨#[]⟩),.c (.int .i64 0),.c (.int .i64 0),.c (.int .i64 0)],true⟩),
  (98,⟨.struct [(0,4),(1,9),(2,9),(3,3),(4,60)],6,64,[.c (.bool false),.c (.str ⟨#[]⟩),.c (.str ⟨#[]⟩),.c (.int .i64 0),.c (.int .i64 0),.c (.int .i64 0)],true⟩),
  (99,⟨.struct [(0,9),(1,60),(3,3),(4,60),(6,3),(7,4)],8,72,[.c (.str ⟨#[]⟩),.c (.int .i64 0),.c (.int .i64 0),.c (.int .i64 0),.c (.int .i64 0),.c (.int .i64 0),.c (.int .i64 0),.c (.bool false)],true⟩),
  (100,⟨.struct [(0,9),(1,60),(3,3),(4,60),(6,3),(7,4)],8,72,[.c (.str ⟨#[]⟩),.c (.int .i64 0),.c (.int .i64 0),.c (.int .i64 0),.c (.int .i64 0),.c (.int .i64 0),.c (.int .i64 0),.c (.bool false)],true⟩),
  (103,⟨.struct [(0,9),(1,3),(2,3)],3,32,[.c (.str ⟨#[]⟩),.c (.int .i64 0),.c (.int .i64 0)],true⟩),
  (104,⟨.struct [(0,9),(1,3),(2,3)],3,32,[.c (.str ⟨#[]⟩),.c (.int .i64 0),.c (.int .i64 0)],true⟩),
  (117,⟨.slice 4,1,24,[.nil],false⟩),
  (125,⟨.struct [(0,22),(1,3),(2,3)],3,40,[.nil,.c (.int .i64 0),.c (.int .i64 0)],false⟩),
  (126,⟨.struct [(0,22),(1,3),(2,3)],3,40,[.nil,.c (.int .i64 0),.c (.int .i64 0)],false⟩),
  (130,⟨.int .u32,1,4,[.c (.int .u32 0)],false⟩),
  (144,⟨.int .u64,1,8,[.c (.int .u64 0)],false⟩),
  (148,⟨.slice 50,1,24,[.nil],false⟩),
  (149,⟨.slice 29,1,24,[.nil],false⟩),
  (168,⟨.slice 9,1,24,[.nil],false⟩),
  (180,⟨.struct [(0,60),(2,3),(3,24),(4,3),(5,9),(6,9),(7,3),(8,60)],10,112,[.c (.int .i64 0),.c (.int .i64 0),.c (.int .i64 0),.nil,.c (.int .i64 0),.c (.str ⟨#[]⟩),.c (.str ⟨#[]⟩),.c (.int .i64 0),.c (.int .i64 0),.c (.int .i64 0)],false⟩),
  (181,⟨.struct [(0,60),(2,3),(3,24),(4,3),(5,9),(6,9),(7,3),(8,60)],10,112,[.c (.int .i64 0),.c (.int .i64 0),.c (.int .i64 0),.nil,.c (.int .i64 0),.c (.str ⟨#[]⟩),.c (.str ⟨#[]⟩),.c (.int .i64 0),.c (.int .i64 0),.c (.int .i64 0)],false⟩),
  (185,⟨.struct [(0,3),(1,9),(2,9),(3,3),(4,3)],5,56,[.c (.int .i64 0),.c (.str ⟨#[]⟩),.c (.str ⟨#[]⟩),.c (.int .i64 0),.c (.int .i64 0)],true⟩),
  (186,⟨.struct [(0,3),(1,9),(2,9),(3,3),(4,3)],5,56,[.c (.int .i64 0),.c (.str ⟨#[]⟩),.c (.str ⟨#[]⟩),.c (.int .i64 0),.c (.int .i64 0)],true⟩),
  (191,⟨.int .i64,1,8,[.c (.int .i64 0)],false⟩),
  (200,⟨.int .u64,1,8,[.c (.int .u64 0)],false⟩),
  (215,⟨.int .u64,1,8,[.c (.int .u64 0)],false⟩),
  (264,⟨.struct [(0,263)],0,0,[],false⟩),
  (265,⟨.struct [(0,263)],0,0,[],false⟩),
  (266,⟨.int .u8,1,1,[.c (.int .u8 0)],false⟩),
  (267,⟨.int .u8,1,1,[.c (.int .u8 0)],false⟩),
  (270,⟨.int .i32,1,4,[.c (.int .i32 0)],false⟩),
  (271,⟨.int .i32,1,4,[.c (.int .i32 0)],false⟩)]
theorem TryzT_ok:TyOK Tryz.prog TryzT:=⟨by kernel_rfl,by kernel_rfl⟩
@[simp] theorem TryzT_2:List.lookup 2 TryzT = some ⟨.int .i64,1,8,[.c (.int .i64 0)],false⟩:=by kernel_rfl
@[simp] theorem TryzT_3:List.lookup 3 TryzT = some ⟨.int .i64,1,8,[.c (.int .i64 0)],false⟩:=by kernel_rfl
@[simp] theorem TryzT_4:List.lookup 4 TryzT = some ⟨.bool,1,1,[.c (.bool false)],false⟩:=by kernel_rfl
@[simp] theorem TryzT_5:List.lookup 5 TryzT = some ⟨.int .u8,1,1,[.c (.int .u8 0)],false⟩:=by kernel_rfl
@[simp] theorem TryzT_6:List.lookup 6 TryzT = some ⟨.int .u8,1,1,[.c (.int .u8 0)],false⟩:=by kernel_rfl
@[simp] theorem TryzT_7:List.lookup 7 TryzT = some ⟨.struct [(0,2),(1,3),(2,4),(3,6)],4,24,[.c (.int .i64 0),.c (.int .i64 0),.c (.bool false),.c (.int .u8 0)],true⟩:=by kernel_rfl
@[simp] theorem TryzT_8:List.lookup 8 TryzT = some ⟨.struct [(0,2),(1,3),(2,4),(3,6)],4,24,[.c (.int .i64 0),.c (.int .i64 0),.c (.bool false),.c (.int .u8 0)],true⟩:=by kernel_rfl
@[simp] theorem TryzT_9:List.lookup 9 TryzT = some ⟨.str,1,16,[.c (.str ⟨#[]⟩)],false⟩:=by kernel_rfl
@[simp] theorem TryzT_10:List.lookup 10 TryzT = some ⟨.str,1,16,[.c (.str ⟨#[]⟩)],false⟩:=by kernel_rfl
@[simp] theorem TryzT_11:List.lookup 11 TryzT = some ⟨.str,1,16,[.c (.str ⟨#[]⟩)],false⟩:=by kernel_rfl
@[simp] theorem TryzT_12:List.lookup 12 TryzT = some ⟨.int .u64,1,8,[.c (.int .u64 0)],false⟩:=by kernel_rfl
@[simp] theorem TryzT_13:List.lookup 13 TryzT = some ⟨.struct [(0,9),(1,12)],2,24,[.c (.str ⟨#[]⟩),.c (.int .u64 0)],false⟩:=by kernel_rfl
@[simp] theorem TryzT_14:List.lookup 14 TryzT = some ⟨.struct [(0,9),(1,12)],2,24,[.c (.str ⟨#[]⟩),.c (.int .u64 0)],false⟩:=by kernel_rfl
@[simp] theorem TryzT_21:List.lookup 21 TryzT = some ⟨.int .i32,1,4,[.c (.int .i32 0)],false⟩:=by kernel_rfl
@[simp] theorem TryzT_22:List.lookup 22 TryzT = some ⟨.slice 5,1,24,[.nil],false⟩:=by kernel_rfl
@[simp] theorem TryzT_24:List.lookup 24 TryzT = some ⟨.slice 3,1,24,[.nil],false⟩:=by kernel_rfl
@[simp] theorem TryzT_25:List.lookup 25 TryzT = some ⟨.slice 104,1,24,[.nil],false⟩:=by kernel_rfl
@[simp] theorem TryzT_26:List.lookup 26 TryzT = some ⟨.slice 98,1,24,[.nil],false⟩:=by kernel_rfl
@[simp] theorem TryzT_27:List.lookup 27 TryzT = some ⟨.slice 100,1,24,[.nil],false⟩:=by kernel_rfl
@[simp] theorem TryzT_28:List.lookup 28 TryzT = some ⟨.struct [(0,24),(1,25),(2,26),(3,27)],4,96,[.nil,.nil,.nil,.nil],false⟩:=by kernel_rfl
@[simp] theorem TryzT_29:List.lookup 29 TryzT = some ⟨.struct [(0,24),(1,25),(2,26),(3,27)],4,96,[.nil,.nil,.nil,.nil],false⟩:=by kernel_rfl
@[simp] theorem TryzT_35:List.lookup 35 TryzT = some ⟨.slice 60,1,24,[.nil],false⟩:=by kernel_rfl
@[simp] theorem TryzT_36:List.lookup 36 TryzT = some ⟨.struct [(0,24),(1,24),(2,25),(3,26),(4,35),(5,27)],6,144,[.nil,.nil,.nil,.nil,.nil,.nil],false⟩:=by kernel_rfl
@[simp] theorem TryzT_37:List.lookup 37 TryzT = some ⟨.struct [(0,24),(1,24),(2,25),(3,26),(4,35),(5,27)],6,144,[.nil,.nil,.nil,.nil,.nil,.nil],false⟩:=by kernel_rfl
@[simp] theorem TryzT_48:List.lookup 48 TryzT = some ⟨.slice 62,1,24,[.nil],false⟩:=by kernel_rfl
@[simp] theorem TryzT_49:List.lookup 49 TryzT = some ⟨.struct [(0,48),(1,3)],2,32,[.nil,.c (.int .i64 0)],false⟩:=by kernel_rfl
@[simp] theorem TryzT_50:List.lookup 50 TryzT = some ⟨.struct [(0,48),(1,3)],2,32,[.nil,.c (.int .i64 0)],false⟩:=by kernel_rfl
@[simp] theorem TryzT_59:List.lookup 59 TryzT = some ⟨.struct [(0,3),(1,3)],2,16,[.c (.int .i64 0),.c (.int .i64 0)],true⟩:=by kernel_rfl
@[simp] theorem TryzT_60:List.lookup 60 TryzT = some ⟨.struct [(0,3),(1,3)],2,16,[.c (.int .i64 0),.c (.int .i64 0)],true⟩:=by kernel_rfl
@[simp] theorem TryzT_61:List.lookup 61 TryzT = some ⟨.struct [(0,60),(2,24),(3,29)],7,136,[.c (.int .i64 0),.c (.int .i64 0),.nil,.nil,.nil,.nil,.nil],false⟩:=by kernel_rfl
@[simp] theorem TryzT_62:List.lookup 62 TryzT = some ⟨.struct [(0,60),(2,24),(3,29)],7,136,[.c (.int .i64 0),.c (.int .i64 0),.nil,.nil,.nil,.nil,.nil],false⟩:=by kernel_rfl
@[simp] theorem TryzT_76:List.lookup 76 TryzT = some ⟨.struct [(0,9),(1,3),(2,4)],3,32,[.c (.str ⟨#[]⟩),.c (.int .i64 0),.c (.bool false)],true⟩:=by kernel_rfl
@[simp] theorem TryzT_77:List.lookup 77 TryzT = some ⟨.struct [(0,9),(1,3),(2,4)],3,32,[.c (.str ⟨#[]⟩),.c (.int .i64 0),.c (.bool false)],true⟩:=by kernel_rfl
@[simp] theorem TryzT_89:List.lookup 89 TryzT = some ⟨.struct [(0,9),(1,3),(2,4)],3,32,[.c (.str ⟨#[]⟩),.c (.int .i64 0),.c (.bool false)],true⟩:=by kernel_rfl
@[simp] theorem TryzT_90:List.lookup 90 TryzT = some ⟨.struct [(0,9),(1,3),(2,4)],3,32,[.c (.str ⟨#[]⟩),.c (.int .i64 0),.c (.bool false)],true⟩:=by kernel_rfl
@[simp] theorem TryzT_97:List.lookup 97 TryzT = some ⟨.struct [(0,4),(1,9),(2,9),(3,3),(4,60)],6,64,[.c (.bool false),.c (.str ⟨#[]⟩),.c (.str ⟨#[]⟩),.c (.int .i64 0),.c (.int .i64 0),.c (.int .i64 0)],true⟩:=by kernel_rfl
@[simp] theorem TryzT_98:List.lookup 98 TryzT = some ⟨.struct [(0,4),(1,9),(2,9),(3,3),(4,60)],6,64,[.c (.bool false),.c (.str ⟨#[]⟩),.c (.str ⟨#[]⟩),.c (.int .i64 0),.c (.int .i64 0),.c (.int .i64 0)],true⟩:=by kernel_rfl
@[simp] theorem TryzT_99:List.lookup 99 TryzT = some ⟨.struct [(0,9),(1,60),(3,3),(4,60),(6,3),(7,4)],8,72,[.c (.str ⟨#[]⟩),.c (.int .i64 0),.c (.int .i64 0),.c (.int .i64 0),.c (.int .i64 0),.c (.int .i64 0),.c (.int .i64 0),.c (.bool false)],true⟩:=by kernel_rfl
@[simp] theorem TryzT_100:List.lookup 100 TryzT = some ⟨.struct [(0,9),(1,60),(3,3),(4,60),(6,3),(7,4)],8,72,[.c (.str ⟨#[]⟩),.c (.int .i64 0),.c (.int .i64 0),.c (.int .i64 0),.c (.int .i64 0),.c (.int .i64 0),.c (.int .i64 0),.c (.bool false)],true⟩:=by kernel_rfl
@[simp] theorem TryzT_103:List.lookup 103 TryzT = some ⟨.struct [(0,9),(1,3),(2,3)],3,32,[.c (.str ⟨#[]⟩),.c (.int .i64 0),.c (.int .i64 0)],true⟩:=by kernel_rfl
@[simp] theorem TryzT_104:List.lookup 104 TryzT = some ⟨.struct [(0,9),(1,3),(2,3)],3,32,[.c (.str ⟨#[]⟩),.c (.int .i64 0),.c (.int .i64 0)],true⟩:=by kernel_rfl
@[simp] theorem TryzT_117:List.lookup 117 TryzT = some ⟨.slice 4,1,24,[.nil],false⟩:=by kernel_rfl
@[simp] theorem TryzT_125:List.lookup 125 TryzT = some ⟨.struct [(0,22),(1,3),(2,3)],3,40,[.nil,.c (.int .i64 0),.c (.int .i64 0)],false⟩:=by kernel_rfl
@[simp] theorem TryzT_126:List.lookup 126 TryzT = some ⟨.struct [(0,22),(1,3),(2,3)],3,40,[.nil,.c (.int .i64 0),.c (.int .i64 0)],false⟩:=by kernel_rfl
@[simp] theorem TryzT_130:List.lookup 130 TryzT = some ⟨.int .u32,1,4,[.c (.int .u32 0)],false⟩:=by kernel_rfl
@[simp] theorem TryzT_144:List.lookup 144 TryzT = some ⟨.int .u64,1,8,[.c (.int .u64 0)],false⟩:=by kernel_rfl
@[simp] theorem TryzT_148:List.lookup 148 TryzT = some ⟨.slice 50,1,24,[.nil],false⟩:=by kernel_rfl
@[simp] theorem TryzT_149:List.lookup 149 TryzT = some ⟨.slice 29,1,24,[.nil],false⟩:=by kernel_rfl
@[simp] theorem TryzT_168:List.lookup 168 TryzT = some ⟨.slice 9,1,24,[.nil],false⟩:=by kernel_rfl
@[simp] theorem TryzT_180:List.lookup 180 TryzT = some ⟨.struct [(0,60),(2,3),(3,24),(4,3),(5,9),(6,9),(7,3),(8,60)],10,112,[.c (.int .i64 0),.c (.int .i64 0),.c (.int .i64 0),.nil,.c (.int .i64 0),.c (.str ⟨#[]⟩),.c (.str ⟨#[]⟩),.c (.int .i64 0),.c (.int .i64 0),.c (.int .i64 0)],false⟩:=by kernel_rfl
@[simp] theorem TryzT_181:List.lookup 181 TryzT = some ⟨.struct [(0,60),(2,3),(3,24),(4,3),(5,9),(6,9),(7,3),(8,60)],10,112,[.c (.int .i64 0),.c (.int .i64 0),.c (.int .i64 0),.nil,.c (.int .i64 0),.c (.str ⟨#[]⟩),.c (.str ⟨#[]⟩),.c (.int .i64 0),.c (.int .i64 0),.c (.int .i64 0)],false⟩:=by kernel_rfl
@[simp] theorem TryzT_185:List.lookup 185 TryzT = some ⟨.struct [(0,3),(1,9),(2,9),(3,3),(4,3)],5,56,[.c (.int .i64 0),.c (.str ⟨#[]⟩),.c (.str ⟨#[]⟩),.c (.int .i64 0),.c (.int .i64 0)],true⟩:=by kernel_rfl
@[simp] theorem TryzT_186:List.lookup 186 TryzT = some ⟨.struct [(0,3),(1,9),(2,9),(3,3),(4,3)],5,56,[.c (.int .i64 0),.c (.str ⟨#[]⟩),.c (.str ⟨#[]⟩),.c (.int .i64 0),.c (.int .i64 0)],true⟩:=by kernel_rfl
@[simp] theorem TryzT_191:List.lookup 191 TryzT = some ⟨.int .i64,1,8,[.c (.int .i64 0)],false⟩:=by kernel_rfl
@[simp] theorem TryzT_200:List.lookup 200 TryzT = some ⟨.int .u64,1,8,[.c (.int .u64 0)],false⟩:=by kernel_rfl
@[simp] theorem TryzT_215:List.lookup 215 TryzT = some ⟨.int .u64,1,8,[.c (.int .u64 0)],false⟩:=by kernel_rfl
@[simp] theorem TryzT_264:List.lookup 264 TryzT = some ⟨.struct [(0,263)],0,0,[],false⟩:=by kernel_rfl
@[simp] theorem TryzT_265:List.lookup 265 TryzT = some ⟨.struct [(0,263)],0,0,[],false⟩:=by kernel_rfl
@[simp] theorem TryzT_266:List.lookup 266 TryzT = some ⟨.int .u8,1,1,[.c (.int .u8 0)],false⟩:=by kernel_rfl
@[simp] theorem TryzT_267:List.lookup 267 TryzT = some ⟨.int .u8,1,1,[.c (.int .u8 0)],false⟩:=by kernel_rfl
@[simp] theorem TryzT_270:List.lookup 270 TryzT = some ⟨.int .i32,1,4,[.c (.int .i32 0)],false⟩:=by kernel_rfl
@[simp] theorem TryzT_271:List.lookup 271 TryzT = some ⟨.int .i32,1,4,[.c (.int .i32 0)],false⟩:=by kernel_rfl
end Am
