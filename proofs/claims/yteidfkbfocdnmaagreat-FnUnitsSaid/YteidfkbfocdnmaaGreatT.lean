/- The types' table. No condition. -/
import Derived.Test.YteidfkbfocdnmaaGreatProg
import Derived.KernelRfl
import Derived.Test.YteidfkbfocdnmaaGreatL1
set_option linter.unusedSimpArgs false
set_option linter.unusedVariables false
set_option linter.unnecessarySimpa false
set_option linter.unusedSectionVars false
namespace Am
open Go Go.Proofs
def TryzT:Am.Ty:=[
  (2,⟨.int .i64,1,8,[.c (.int .i64 0)],false⟩),
  (3,⟨.int .i64,1,8,[.c (.int .i64 0)],false⟩),
  (4,⟨.bool,1,1,[.c (.bool false)],false⟩),
  (5,⟨.int .u8,1,1,[.c (.int .u8 0)],false⟩),
  (6,⟨.int .u8,1,1,[.c (.int .u8 0)],false⟩),
  (7,⟨.struct [(0,2),(1,3),(2,4),(3,6)],4,24,[.c (.int .i64 0),.c (.int .i64 0),.c (.bool false),.c (.int .u8 0)],true⟩),
  (8,⟨.struct [(0,2),(1,3),(2,4),(3,6)],4,24,[.c (.int .i64 0),.c (.int .i64 0),.c (.bool false),.c (.int .u8 0)],true⟩),
  (9,⟨.str,1,16,[.c (.str ⟨#[]⟩)],false⟩),
  (10,⟨.str,1,16,[.c (.str ⟨#[]⟩)],false⟩),
  (11,⟨.str,1,16,[.c (.str ⟨#[]⟩)],false⟩),
  (12,⟨.int .u64,1,8,[.c (.int .u64 0)],false⟩),
  (13,⟨.struct [(0,9),(1,12)],2,24,[.c (.str ⟨#[]⟩),.c (.int .u64 0)],false⟩),
  (14,⟨.struct [(0,9),(1,12)],2,24,[.c (.str ⟨#[]⟩),.c (.int .u64 0)],false⟩),
  (21,⟨.int .i32,1,4,[.c (.int .i32 0)],false⟩),
  (22,⟨.slice 5,1,24,[.nil],false⟩),
  (24,⟨.slice 31,1,24,[.nil],false⟩),
  (26,⟨.slice 3,1,24,[.nil],false⟩),
  (28,⟨.struct [(0,3),(1,3)],2,16,[.c (.int .i64 0),.c (.int .i64 0)],true⟩),
  (29,⟨.struct [(0,3),(1,3)],2,16,[.c (.int .i64 0),.c (.int .i64 0)],true⟩),
  (30,⟨.struct [(0,29),(2,3),(3,26),(4,3),(5,9),(6,9),(7,3),(8,29)],10,112,[.c (.int .i64 0),.c (.int .i64 0),.c (.int .i64 0),.nil,.c (.int .i64 0),.c (.str ⟨#[]⟩),.c (.str ⟨#[]⟩),.c (.int .i64 0),.c (.int .i64 0),.c (.int .i64 0)],false⟩),
  (31,⟨.struct [(0,29),(2,3),(3,26),(4,3),(5,9),(6,9),(7,3),(8,29)],10,112,[.c (.int .i64 0),.c (.int .i64 0),.c (.int .i64 0),.nil,.c (.int .i64 0),.c (.str ⟨#[]⟩),.c (.str ⟨#[]⟩),.c (.int .i64 0),.c (.int .i64 0),.c (.int .i64 0)],false⟩),
  (32,⟨.slice 179,1,24,[.nil],false⟩),
  (33,⟨.slice 159,1,24,[.nil],false⟩),
  (34,⟨.slice 72,1,24,[.nil],false⟩),
  (35,⟨.struct [(0,26),(1,32),(2,33),(3,34)],4,96,[.nil,.nil,.nil,.nil],false⟩),
  (36,⟨.struct [(0,26),(1,32),(2,33),(3,34)],4,96,[.nil,.nil,.nil,.nil],false⟩),
  (45,⟨.slice 48,1,24,[.nil],false⟩),
  (47,⟨.struct [(0,9),(1,9)],2,32,[.c (.str ⟨#[]⟩),.c (.str ⟨#[]⟩)],true⟩),
  (48,⟨.struct [(0,9),(1,9)],2,32,[.c (.str ⟨#[]⟩),.c (.str ⟨#[]⟩)],true⟩),
  (51,⟨.struct [(0,3),(1,9),(2,9),(3,3),(4,3)],5,56,[.c (.int .i64 0),.c (.str ⟨#[]⟩),.c (.str ⟨#[]⟩),.c (.int .i64 0),.c (.int .i64 0)],true⟩),
  (52,⟨.struct [(0,3),(1,9),(2,9),(3,3),(4,3)],5,56,[.c (.int .i64 0),.c (.str ⟨#[]⟩),.c (.str ⟨#[]⟩),.c (.int .i64 0),.c (.int .i64 0)],true⟩),
  (67,⟨.slice 9,1,24,[.nil],false⟩),
  (68,⟨.slice 29,1,24,[.nil],false⟩),
  (71,⟨.struct [(0,9),(1,29),(3,3),(4,29),(6,3),(7,4)],8,72,[.c (.str ⟨#[]⟩),.c (.int .i64 0),.c (.int .i64 0),.c (.int .i64 0),.c (.int .i64 0),.c (.int .i64 0),.c (.int .i64 0),.c (.bool false)],true⟩),
  (72,⟨.struct [(0,9),(1,29),(3,3),(4,29),(6,3),(7,4)],8,72,[.c (.str ⟨#[]⟩),.c (.int .i64 0),.c (.int .i64 0),.c (.int .i64 0),.c (.int .i64 0),.c (.int .i64 0),.c (.int .i64 0),.c (.bool false)],true⟩),
  (88,⟨.struct [(0,26),(1,26),(2,32),(3,33),(4,68),(5,34)],6,144,[.nil,.nil,.nil,.nil,.nil,.nil],false⟩),
  (89,⟨.struct [(0,26),(1,26),(2,32),(3,33),(4,68),(5,34)],6,144,[.nil,.nil,.nil,.nil,.nil,.nil],false⟩),
  (98,⟨.struct [(0,4),(1,31),(11,89)],17,264,[.c (.bool false),.c (.int .i64 0),.c (.int .i64 0),.c (.int .i64 0),.nil,.c (.int .i64 0),.c (.str ⟨#[]⟩),.c (.str ⟨#[]⟩),.c (.int .i64 0),.c (.int .i64 0),.c (.int .i64 0),.nil,.nil,.nil,.nil,.nil,.nil],false⟩),
  (99,⟨.struct [(0,4),(1,31),(11,89)],17,264,[.c (.bool false),.c (.int .i64 0),.c (.int .i64 0),.c (.int .i64 0),.nil,.c (.int .i64 0),.c (.str ⟨#[]⟩),.c (.str ⟨#[]⟩),.c (.int .i64 0),.c (.int .i64 0),.c (.int .i64 0),.nil,.nil,.nil,.nil,.nil,.nil],false⟩),
  (104,⟨.slice 99,1,24,[.nil],false⟩),
  (105,⟨.struct [(0,3),(1,3),(2,36),(6,104),(7,104)],8,160,[.c (.int .i64 0),.c (.int .i64 0),.nil,.nil,.nil,.nil,.nil,.nil],false⟩),
  (106,⟨.struct [(0,3),(1,3),(2,36),(6,104),(7,104)],8,160,[.c (.int .i64 0),.c (.int .i64 0),.nil,.nil,.nil,.nil,.nil,.nil],false⟩),
  (113,⟨.slice 106,1,24,[.nil],false⟩),
  (132,⟨.slice 144,1,24,[.nil],false⟩),
  (133,⟨.struct [(0,132),(1,3)],2,32,[.nil,.c (.int .i64 0)],false⟩),
  (134,⟨.struct [(0,132),(1,3)],2,32,[.nil,.c (.int .i64 0)],false⟩),
  (143,⟨.struct [(0,29),(2,26),(3,36)],7,136,[.c (.int .i64 0),.c (.int .i64 0),.nil,.nil,.nil,.nil,.nil],false⟩),
  (144,⟨.struct [(0,29),(2,26),(3,36)],7,136,[.c (.int .i64 0),.c (.int .i64 0),.nil,.nil,.nil,.nil,.nil],false⟩),
  (158,⟨.struct [(0,4),(1,9),(2,9),(3,3),(4,29)],6,64,[.c (.bool false),.c (.str ⟨#[]⟩),.c (.str ⟨#[]⟩),.c (.int .i64 0),.c (.int .i64 0),.c (.int .i64 0)],true⟩),
  (159,⟨.struct [(0,4),(1,9),(2,9),(3,3),(4,29)],6,64,[.c (.bool false),.c (.str ⟨#[]⟩),.c (.str ⟨#[]⟩),.c (.int .i64 0),.c (.int .i64 0),.c (.int .i64 0)],true⟩),
  (178,⟨.struct [(0,9),(1,3),(2,3)],3,32,[.c (.str ⟨#[]⟩),.c (.int .i64 0),.c (.int .i64 0)],true⟩),
  (179,⟨.struct [(0,9),(1,3),(2,3)],3,32,[.c (.str ⟨#[]⟩),.c (.int .i64 0),.c (.int .i64 0)],true⟩),
  (204,⟨.struct [(0,9),(1,3),(2,4)],3,32,[.c (.str ⟨#[]⟩),.c (.int .i64 0),.c (.bool false)],true⟩),
  (205,⟨.struct [(0,9),(1,3),(2,4)],3,32,[.c (.str ⟨#[]⟩),.c (.int .i64 0),.c (.bool false)],true⟩),
  (216,⟨.struct [(0,9),(1,3),(2,4)],3,32,[.c (.str ⟨#[]⟩),.c (.int .i64 0),.c (.bool false)],true⟩),
  (217,⟨.struct [(0,9),(1,3),(2,4)],3,32,[.c (.str ⟨#[]⟩),.c (.int .i64 0),.c (.bool false)],true⟩),
  (254,⟨.slice 4,1,24,[.nil],false⟩),
  (256,⟨.slice 36,1,24,[.nil],false⟩),
  (259,⟨.struct [(0,22),(1,3),(2,3)],3,40,[.nil,.c (.int .i64 0),.c (.int .i64 0)],false⟩),
  (260,⟨.struct [(0,22),(1,3),(2,3)],3,40,[.nil,.c (.int .i64 0),.c (.int .i64 0)],false⟩),
  (261,⟨.int .u64,1,8,[.c (.int .u64 0)],false⟩),
  (291,⟨.int .u32,1,4,[.c (.int .u32 0)],false⟩),
  (314,⟨.slice 134,1,24,[.nil],false⟩),
  (322,⟨.int .i64,1,8,[.c (.int .i64 0)],false⟩),
  (330,⟨.int .u64,1,8,[.c (.int .u64 0)],false⟩),
  (359,⟨.int .u64,1,8,[.c (.int .u64 0)],false⟩),
  (393,⟨.struct [(0,392)],0,0,[],false⟩),
  (394,⟨.struct [(0,392)],0,0,[],false⟩),
  (395,⟨.int .u8,1,1,[.c (.int .u8 0)],false⟩),
  (396,⟨.int .u8,1,1,[.c (.int .u8 0)],false⟩),
  (399,⟨.int .i32,1,4,[.c (.int .i32 0)],false⟩),
  (400,⟨.int .i32,1,4,[.c (.int .i32 0)],false⟩)]
theorem TryzT_ok:TyOK Tryz.prog TryzT:=⟨by kernel_rfl,by kernel_rfl⟩
@[simp] theorem TryzT_2:List.lookup 2 TryzT = some ⟨.int .i64,1,8,[.c (.int .i64 0)],false⟩:=by kernel_rfl
@[simp] theorem TryzT_3:List.lookup 3 TryzT = some ⟨.int .i64,1,8,[.c (.int .i64 0)],false⟩:=by kernel_rfl
@[simp] theorem TryzT_4:List.lookup 4 TryzT = some ⟨.bool,1,1,[.c (.bool false)],false⟩:=by kernel_rfl
@[simp] theorem TryzT_5:List.lookup 5 TryzT = some ⟨.int .u8,1,1,[.c (.int .u8 0)],false⟩:=by kernel_rfl
@[simp] theorem TryzT_6:List.lookup 6 TryzT = some ⟨.int .u8,1,1,[.c (.int .u8 0)],false⟩:=by kernel_rfl
@[simp] theorem TryzT_7:List.lookup 7 TryzT = some ⟨.struct [(0,2),(1,3),(2,4),(3,6)],4,24,[.c (.int .i64 0),.c (.int .i64 0),.c (.bool false),.c (.int .u8 0)],true⟩:=by kernel_rfl
@[simp] theorem TryzT_8:List.lookup 8 TryzT = some ⟨.struct [(0,2),(1,3),(2,4),(3,6)],4,24,[.c (.int .i64 0),.c (.int .i64 0),.c (.bool false),.c (.int .u8 0)],true⟩:=by kernel_rfl
@[simp] theorem TryzT_9:List.lookup 9 TryzT = some ⟨.str,1,16,[.c (.str ⟨#[]⟩)],false⟩:=by kernel_rfl
@[simp] theorem TryzT_10:List.lookup 10 TryzT = some ⟨.str,1,16,[.c (.str ⟨#[]⟩)],false⟩:=by kernel_rfl
@[simp] theorem TryzT_11:List.lookup 11 TryzT = some ⟨.str,1,16,[.c (.str ⟨#[]⟩)],false⟩:=by kernel_rfl
@[simp] theorem TryzT_12:List.lookup 12 TryzT = some ⟨.int .u64,1,8,[.c (.int .u64 0)],false⟩:=by kernel_rfl
@[simp] theorem TryzT_13:List.lookup 13 TryzT = some ⟨.struct [(0,9),(1,12)],2,24,[.c (.str ⟨#[]⟩),.c (.int .u64 0)],false⟩:=by kernel_rfl
@[simp] theorem TryzT_14:List.lookup 14 TryzT = some ⟨.struct [(0,9),(1,12)],2,24,[.c (.str ⟨#[]⟩),.c (.int .u64 0)],false⟩:=by kernel_rfl
@[simp] theorem TryzT_21:List.lookup 21 TryzT = some ⟨.int .i32,1,4,[.c (.int .i32 0)],false⟩:=by kernel_rfl
@[simp] theorem TryzT_22:List.lookup 22 TryzT = some ⟨.slice 5,1,24,[.nil],false⟩:=by kernel_rfl
@[simp] theorem TryzT_24:List.lookup 24 TryzT = some ⟨.slice 31,1,24,[.nil],false⟩:=by kernel_rfl
@[simp] theorem TryzT_26:List.lookup 26 TryzT = some ⟨.slice 3,1,24,[.nil],false⟩:=by kernel_rfl
@[simp] theorem TryzT_28:List.lookup 28 TryzT = some ⟨.struct [(0,3),(1,3)],2,16,[.c (.int .i64 0),.c (.int .i64 0)],true⟩:=by kernel_rfl
@[simp] theorem TryzT_29:List.lookup 29 TryzT = some ⟨.struct [(0,3),(1,3)],2,16,[.c (.int .i64 0),.c (.int .i64 0)],true⟩:=by kernel_rfl
@[simp] theorem TryzT_30:List.lookup 30 TryzT = some ⟨.struct [(0,29),(2,3),(3,26),(4,3),(5,9),(6,9),(7,3),(8,29)],10,112,[.c (.int .i64 0),.c (.int .i64 0),.c (.int .i64 0),.nil,.c (.int .i64 0),.c (.str ⟨#[]⟩),.c (.str ⟨#[]⟩),.c (.int .i64 0),.c (.int .i64 0),.c (.int .i64 0)],false⟩:=by kernel_rfl
@[simp] theorem TryzT_31:List.lookup 31 TryzT = some ⟨.struct [(0,29),(2,3),(3,26),(4,3),(5,9),(6,9),(7,3),(8,29)],10,112,[.c (.int .i64 0),.c (.int .i64 0),.c (.int .i64 0),.nil,.c (.int .i64 0),.c (.str ⟨#[]⟩),.c (.str ⟨#[]⟩),.c (.int .i64 0),.c (.int .i64 0),.c (.int .i64 0)],false⟩:=by kernel_rfl
@[simp] theorem TryzT_32:List.lookup 32 TryzT = some ⟨.slice 179,1,24,[.nil],false⟩:=by kernel_rfl
@[simp] theorem TryzT_33:List.lookup 33 TryzT = some ⟨.slice 159,1,24,[.nil],false⟩:=by kernel_rfl
@[simp] theorem TryzT_34:List.lookup 34 TryzT = some ⟨.slice 72,1,24,[.nil],false⟩:=by kernel_rfl
@[simp] theorem TryzT_35:List.lookup 35 TryzT = some ⟨.struct [(0,26),(1,32),(2,33),(3,34)],4,96,[.nil,.nil,.nil,.nil],false⟩:=by kernel_rfl
@[simp] theorem TryzT_36:List.lookup 36 TryzT = some ⟨.struct [(0,26),(1,32),(2,33),(3,34)],4,96,[.nil,.nil,.nil,.nil],false⟩:=by kernel_rfl
@[simp] theorem TryzT_45:List.lookup 45 TryzT = some ⟨.slice 48,1,24,[.nil],false⟩:=by kernel_rfl
@[simp] theorem TryzT_47:List.lookup 47 TryzT = some ⟨.struct [(0,9),(1,9)],2,32,[.c (.str ⟨#[]⟩),.c (.str ⟨#[]⟩)],true⟩:=by kernel_rfl
@[simp] theorem TryzT_48:List.lookup 48 TryzT = some ⟨.struct [(0,9),(1,9)],2,32,[.c (.str ⟨#[]⟩),.c (.str ⟨#[]⟩)],true⟩:=by kernel_rfl
@[simp] theorem TryzT_51:List.lookup 51 TryzT = some ⟨.struct [(0,3),(1,9),(2,9),(3,3),(4,3)],5,56,[.c (.int .i64 0),.c (.str ⟨#[]⟩),.c (.str ⟨#[]⟩),.c (.int .i64 0),.c (.int .i64 0)],true⟩:=by kernel_rfl
@[simp] theorem TryzT_52:List.lookup 52 TryzT = some ⟨.struct [(0,3),(1,9),(2,9),(3,3),(4,3)],5,56,[.c (.int .i64 0),.c (.str ⟨#[]⟩),.c (.str ⟨#[]⟩),.c (.int .i64 0),.c (.int .i64 0)],true⟩:=by kernel_rfl
@[simp] theorem TryzT_67:List.lookup 67 TryzT = some ⟨.slice 9,1,24,[.nil],false⟩:=by kernel_rfl
@[simp] theorem TryzT_68:List.lookup 68 TryzT = some ⟨.slice 29,1,24,[.nil],false⟩:=by kernel_rfl
@[simp] theorem TryzT_71:List.lookup 71 TryzT = some ⟨.struct [(0,9),(1,29),(3,3),(4,29),(6,3),(7,4)],8,72,[.c (.str ⟨#[]⟩),.c (.int .i64 0),.c (.int .i64 0),.c (.int .i64 0),.c (.int .i64 0),.c (.int .i64 0),.c (.int .i64 0),.c (.bool false)],true⟩:=by kernel_rfl
@[simp] theorem TryzT_72:List.lookup 72 TryzT = some ⟨.struct [(0,9),(1,29),(3,3),(4,29),(6,3),(7,4)],8,72,[.c (.str ⟨#[]⟩),.c (.int .i64 0),.c (.int .i64 0),.c (.int .i64 0),.c (.int .i64 0),.c (.int .i64 0),.c (.int .i64 0),.c (.bool false)],true⟩:=by kernel_rfl
@[simp] theorem TryzT_88:List.lookup 88 TryzT = some ⟨.struct [(0,26),(1,26),(2,32),(3,33),(4,68),(5,34)],6,144,[.nil,.nil,.nil,.nil,.nil,.nil],false⟩:=by kernel_rfl
@[simp] theorem TryzT_89:List.lookup 89 TryzT = some ⟨.struct [(0,26),(1,26),(2,32),(3,33),(4,68),(5,34)],6,144,[.nil,.nil,.nil,.nil,.nil,.nil],false⟩:=by kernel_rfl
@[simp] theorem TryzT_98:List.lookup 98 TryzT = some ⟨.struct [(0,4),(1,31),(11,89)],17,264,[.c (.bool false),.c (.int .i64 0),.c (.int .i64 0),.c (.int .i64 0),.nil,.c (.int .i64 0),.c (.str ⟨#[]⟩),.c (.str ⟨#[]⟩),.c (.int .i64 0),.c (.int .i64 0),.c (.int .i64 0),.nil,.nil,.nil,.nil,.nil,.nil],false⟩:=by kernel_rfl
@[simp] theorem TryzT_99:List.lookup 99 TryzT = some ⟨.struct [(0,4),(1,31),(11,89)],17,264,[.c (.bool false),.c (.int .i64 0),.c (.int .i64 0),.c (.int .i64 0),.nil,.c (.int .i64 0),.c (.str ⟨#[]⟩),.c (.str ⟨#[]⟩),.c (.int .i64 0),.c (.int .i64 0),.c (.int .i64 0),.nil,.nil,.nil,.nil,.nil,.nil],false⟩:=by kernel_rfl
@[simp] theorem TryzT_104:List.lookup 104 TryzT = some ⟨.slice 99,1,24,[.nil],false⟩:=by kernel_rfl
@[simp] theorem TryzT_105:List.lookup 105 TryzT = some ⟨.struct [(0,3),(1,3),(2,36),(6,104),(7,104)],8,160,[.c (.int .i64 0),.c (.int .i64 0),.nil,.nil,.nil,.nil,.nil,.nil],false⟩:=by kernel_rfl
@[simp] theorem TryzT_106:List.lookup 106 TryzT = some ⟨.struct [(0,3),(1,3),(2,36),(6,104),(7,104)],8,160,[.c (.int .i64 0),.c (.int .i64 0),.nil,.nil,.nil,.nil,.nil,.nil],false⟩:=by kernel_rfl
@[simp] theorem TryzT_113:List.lookup 113 TryzT = some ⟨.slice 106,1,24,[.nil],false⟩:=by kernel_rfl
@[simp] theorem TryzT_132:List.lookup 132 TryzT = some ⟨.slice 144,1,24,[.nil],false⟩:=by kernel_rfl
@[simp] theorem TryzT_133:List.lookup 133 TryzT = some ⟨.struct [(0,132),(1,3)],2,32,[.nil,.c (.int .i64 0)],false⟩:=by kernel_rfl
@[simp] theorem TryzT_134:List.lookup 134 TryzT = some ⟨.struct [(0,132),(1,3)],2,32,[.nil,.c (.int .i64 0)],false⟩:=by kernel_rfl
@[simp] theorem TryzT_143:List.lookup 143 TryzT = some ⟨.struct [(0,29),(2,26),(3,36)],7,136,[.c (.int .i64 0),.c (.int .i64 0),.nil,.nil,.nil,.nil,.nil],false⟩:=by kernel_rfl
@[simp] theorem TryzT_144:List.lookup 144 TryzT = some ⟨.struct [(0,29),(2,26),(3,36)],7,136,[.c (.int .i64 0),.c (.int .i64 0),.nil,.nil,.nil,.nil,.nil],false⟩:=by kernel_rfl
@[simp] theorem TryzT_158:List.lookup 158 TryzT = some ⟨.struct [(0,4),(1,9),(2,9),(3,3),(4,29)],6,64,[.c (.bool false),.c (.str ⟨#[]⟩),.c (.str ⟨#[]⟩),.c (.int .i64 0),.c (.int .i64 0),.c (.int .i64 0)],true⟩:=by kernel_rfl
@[simp] theorem TryzT_159:List.lookup 159 TryzT = some ⟨.struct [(0,4),(1,9),(2,9),(3,3),(4,29)],6,64,[.c (.bool false),.c (.str ⟨#[]⟩),.c (.str ⟨#[]⟩),.c (.int .i64 0),.c (.int .i64 0),.c (.int .i64 0)],true⟩:=by kernel_rfl
@[simp] theorem TryzT_178:List.lookup 178 TryzT = some ⟨.struct [(0,9),(1,3),(2,3)],3,32,[.c (.str ⟨#[]⟩),.c (.int .i64 0),.c (.int .i64 0)],true⟩:=by kernel_rfl
@[simp] theorem TryzT_179:List.lookup 179 TryzT = some ⟨.struct [(0,9),(1,3),(2,3)],3,32,[.c (.str ⟨#[]⟩),.c (.int .i64 0),.c (.int .i64 0)],true⟩:=by kernel_rfl
@[simp] theorem TryzT_204:List.lookup 204 TryzT = some ⟨.struct [(0,9),(1,3),(2,4)],3,32,[.c (.str ⟨#[]⟩),.c (.int .i64 0),.c (.bool false)],true⟩:=by kernel_rfl
@[simp] theorem TryzT_205:List.lookup 205 TryzT = some ⟨.struct [(0,9),(1,3),(2,4)],3,32,[.c (.str ⟨#[]⟩),.c (.int .i64 0),.c (.bool false)],true⟩:=by kernel_rfl
@[simp] theorem TryzT_216:List.lookup 216 TryzT = some ⟨.struct [(0,9),(1,3),(2,4)],3,32,[.c (.str ⟨#[]⟩),.c (.int .i64 0),.c (.bool false)],true⟩:=by kernel_rfl
@[simp] theorem TryzT_217:List.lookup 217 TryzT = some ⟨.struct [(0,9),(1,3),(2,4)],3,32,[.c (.str ⟨#[]⟩),.c (.int .i64 0),.c (.bool false)],true⟩:=by kernel_rfl
@[simp] theorem TryzT_254:List.lookup 254 TryzT = some ⟨.slice 4,1,24,[.nil],false⟩:=by kernel_rfl
@[simp] theorem TryzT_256:List.lookup 256 TryzT = some ⟨.slice 36,1,24,[.nil],false⟩:=by kernel_rfl
@[simp] theorem TryzT_259:List.lookup 259 TryzT = some ⟨.struct [(0,22),(1,3),(2,3)],3,40,[.nil,.c (.int .i64 0),.c (.int .i64 0)],false⟩:=by kernel_rfl
@[simp] theorem TryzT_260:List.lookup 260 TryzT = some ⟨.struct [(0,22),(1,3),(2,3)],3,40,[.nil,.c (.int .i64 0),.c (.int .i64 0)],false⟩:=by kernel_rfl
@[simp] theorem TryzT_261:List.lookup 261 TryzT = some ⟨.int .u64,1,8,[.c (.int .u64 0)],false⟩:=by kernel_rfl
@[simp] theorem TryzT_291:List.lookup 291 TryzT = some ⟨.int .u32,1,4,[.c (.int .u32 0)],false⟩:=by kernel_rfl
@[simp] theorem TryzT_314:List.lookup 314 TryzT = some ⟨.slice 134,1,24,[.nil],false⟩:=by kernel_rfl
@[simp] theorem TryzT_322:List.lookup 322 TryzT = some ⟨.int .i64,1,8,[.c (.int .i64 0)],false⟩:=by kernel_rfl
@[simp] theorem TryzT_330:List.lookup 330 TryzT = some ⟨.int .u64,1,8,[.c (.int .u64 0)],false⟩:=by kernel_rfl
@[simp] theorem TryzT_359:List.lookup 359 TryzT = some ⟨.int .u64,1,8,[.c (.int .u64 0)],false⟩:=by kernel_rfl
@[simp] theorem TryzT_393:List.lookup 393 TryzT = some ⟨.struct [(0,392)],0,0,[],false⟩:=by kernel_rfl
@[simp] theorem TryzT_394:List.lookup 394 TryzT = some ⟨.struct [(0,392)],0,0,[],false⟩:=by kernel_rfl
@[simp] theorem TryzT_395:List.lookup 395 TryzT = some ⟨.int .u8,1,1,[.c (.int .u8 0)],false⟩:=by kernel_rfl
@[simp] theorem TryzT_396:List.lookup 396 TryzT = some ⟨.int .u8,1,1,[.c (.int .u8 0)],false⟩:=by kernel_rfl
@[simp] theorem TryzT_399:List.lookup 399 TryzT = some ⟨.int .i32,1,4,[.c (.int .i32 0)],false⟩:=by kernel_rfl
@[simp] theorem TryzT_400:List.lookup 400 TryzT = some ⟨.int .i32,1,4,[.c (.int .i32 0)],false⟩:=by kernel_rfl
end Am
