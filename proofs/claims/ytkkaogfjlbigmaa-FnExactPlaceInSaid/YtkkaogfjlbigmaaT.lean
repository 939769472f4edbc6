/- The types' table. No condition. -/
import Derived.Test.YtkkaogfjlbigmaaProg
import Derived.KernelRfl
import Derived.Test.YtkkaogfjlbigmaaL1
namespace Am
open Go Go.Proofs
def TryT : Am.Ty := [
  (2, ⟨.int .i64, 1, 8, [.c (.int .i64 0)], false⟩),
  (3, ⟨.int .i64, 1, 8, [.c (.int .i64 0)], false⟩),
  (4, ⟨.bool, 1, 1, [.c (.bool false)], false⟩),
  (5, ⟨.int .u8, 1, 1, [.c (.int .u8 0)], false⟩),
  (6, ⟨.int .u8, 1, 1, [.c (.int .u8 0)], false⟩),
  (7, ⟨.struct [(0, 2), (1, 3), (2, 4), (3, 6)], 4, 24, [.c (.int .i64 0), .c (.int .i64 0), .c (.bool false), .c (.int .u8 0)], true⟩),
  (8, ⟨.struct [(0, 2), (1, 3), (2, 4), (3, 6)], 4, 24, [.c (.int .i64 0), .c (.int .i64 0), .c (.bool false), .c (.int .u8 0)], true⟩),
  (9, ⟨.str, 1, 16, [.c (.str ⟨#[]⟩)], false⟩),
  (10, ⟨.str, 1, 16, [.c (.str ⟨#[]⟩)], false⟩),
  (11, ⟨.str, 1, 16, [.c (.str ⟨#[]⟩)], false⟩),
  (12, ⟨.int .u64, 1, 8, [.c (.int .u64 0)], false⟩),
  (13, ⟨.struct [(0, 9), (1, 12)], 2, 24, [.c (.str ⟨#[]⟩), .c (.int .u64 0)], false⟩),
  (14, ⟨.struct [(0, 9), (1, 12)], 2, 24, [.c (.str ⟨#[]⟩), .c (.int .u64 0)], false⟩),
  (21, ⟨.int .i32, 1, 4, [.c (.int .i32 0)], false⟩),
  (22, ⟨.slice 3, 1, 24, [.nil], false⟩),
  (23, ⟨.slice 73, 1, 24, [.nil], false⟩),
  (24, ⟨.slice 77, 1, 24, [.nil], false⟩),
  (25, ⟨.slice 80, 1, 24, [.nil], false⟩),
  (26, ⟨.struct [(0, 22), (1, 23), (2, 24), (3, 25)], 4, 96, [.nil, .nil, .nil, .nil], false⟩),
  (27, ⟨.struct [(0, 22), (1, 23), (2, 24), (3, 25)], 4, 96, [.nil, .nil, .nil, .nil], false⟩),
  (29, ⟨.struct [(0, 3), (1, 3)], 2, 16, [.c (.int .i64 0), .c (.int .i64 0)], true⟩),
  (30, ⟨.struct [(0, 3), (1, 3)], 2, 16, [.c (.int .i64 0), .c (.int .i64 0)], true⟩),
  (33, ⟨.slice 90, 1, 24, [.nil], false⟩),
  (34, ⟨.slice 87, 1, 24, [.nil], false⟩),
  (35, ⟨.slice 57, 1, 24, [.nil], false⟩),
  (36, ⟨.struct [(0, 22), (1, 33), (2, 34), (3, 35)], 4, 96, [.nil, .nil, .nil, .nil], false⟩),
  (37, ⟨.struct [(0, 22), (1, 33), (2, 34), (3, 35)], 4, 96, [.nil, .nil, .nil, .nil], false⟩),
  (42, ⟨.slice 30, 1, 24, [.nil], false⟩),
  (56, ⟨.struct [(0, 9), (1, 30), (3, 3), (4, 30), (6, 3), (7, 4)], 8, 72, [.c (.str ⟨#[]⟩), .c (.int .i64 0), .c (.int .i64 0), .c (.int .i64 0), .c (.int .i64 0), .c (.int .i64 0), .c (.int .i64 0), .c (.bool false)], true⟩),
  (57, ⟨.struct [(0, 9), (1, 30), (3, 3), (4, 30), (6, 3), (7, 4)], 8, 72, [.c (.str ⟨#[]⟩), .c (.int .i64 0), .c (.int .i64 0), .c (.int .i64 0), .c (.int .i64 0), .c (.int .i64 0), .c (.int .i64 0), .c (.bool false)], true⟩),
  (72, ⟨.struct [(0, 9), (1, 3), (2, 3)], 3, 32, [.c (.str ⟨#[]⟩), .c (.int .i64 0), .c (.int .i64 0)], true⟩),
  (73, ⟨.struct [(0, 9), (1, 3), (2, 3)], 3, 32, [.c (.str ⟨#[]⟩), .c (.int .i64 0), .c (.int .i64 0)], true⟩),
  (75, ⟨.struct [(0, 3), (1, 3)], 2, 16, [.c (.int .i64 0), .c (.int .i64 0)], true⟩),
  (76, ⟨.struct [(0, 4), (1, 9), (2, 9), (3, 3), (4, 75)], 6, 64, [.c (.bool false), .c (.str ⟨#[]⟩), .c (.str ⟨#[]⟩), .c (.int .i64 0), .c (.int .i64 0), .c (.int .i64 0)], true⟩),
  (77, ⟨.struct [(0, 4), (1, 9), (2, 9), (3, 3), (4, 75)], 6, 64, [.c (.bool false), .c (.str ⟨#[]⟩), .c (.str ⟨#[]⟩), .c (.int .i64 0), .c (.int .i64 0), .c (.int .i64 0)], true⟩),
  (79, ⟨.struct [(0, 9), (1, 75), (3, 3), (4, 75), (6, 3), (7, 4)], 8, 72, [.c (.str ⟨#[]⟩), .c (.int .i64 0), .c (.int .i64 0), .c (.int .i64 0), .c (.int .i64 0), .c (.int .i64 0), .c (.int .i64 0), .c (.bool false)], true⟩),
  (80, ⟨.struct [(0, 9), (1, 75), (3, 3), (4, 75), (6, 3), (7, 4)], 8, 72, [.c (.str ⟨#[]⟩), .c (.int .i64 0), .c (.int .i64 0), .c (.int .i64 0), .c (.int .i64 0), .c (.int .i64 0), .c (.int .i64 0), .c (.bool false)], true⟩),
  (86, ⟨.struct [(0, 4), (1, 9), (2, 9), (3, 3), (4, 30)], 6, 64, [.c (.bool false), .c (.str ⟨#[]⟩), .c (.str ⟨#[]⟩), .c (.int .i64 0), .c (.int .i64 0), .c (.int .i64 0)], true⟩),
  (87, ⟨.struct [(0, 4), (1, 9), (2, 9), (3, 3), (4, 30)], 6, 64, [.c (.bool false), .c (.str ⟨#[]⟩), .c (.str ⟨#[]⟩), .c (.int .i64 0), .c (.int .i64 0), .c (.int .i64 0)], true⟩),
  (90, ⟨.struct [(0, 9), (1, 3), (2, 3)], 3, 32, [.c (.str ⟨#[]⟩), .c (.int .i64 0), .c (.int .i64 0)], true⟩),
  (101, ⟨.int .u64, 1, 8, [.c (.int .u64 0)], false⟩),
  (115, ⟨.int .i64, 1, 8, [.c (.int .i64 0)], false⟩),
  (122, ⟨.int .u32, 1, 4, [.c (.int .u32 0)], false⟩),
  (124, ⟨.int .u64, 1, 8, [.c (.int .u64 0)], false⟩),
  (126, ⟨.slice 5, 1, 24, [.nil], false⟩),
  (128, ⟨.int .u64, 1, 8, [.c (.int .u64 0)], false⟩),
  (141, ⟨.struct [(0, 140)], 0, 0, [], false⟩),
  (142, ⟨.struct [(0, 140)], 0, 0, [], false⟩),
  (144, ⟨.int .u8, 1, 1, [.c (.int .u8 0)], false⟩),
  (145, ⟨.int .u8, 1, 1, [.c (.int .u8 0)], false⟩),
  (148, ⟨.int .i32, 1, 4, [.c (.int .i32 0)], false⟩),
  (149, ⟨.int .i32, 1, 4, [.c (.int .i32 0)], false⟩)]
theorem TryT_ok : TyOK Try.prog TryT := ⟨by kernel_rfl, by kernel_rfl⟩
@[simp] theorem TryT_2 : List.lookup 2 TryT = some ⟨.int .i64, 1, 8, [.c (.int .i64 0)], false⟩ := by kernel_rfl
@[simp] theorem TryT_3 : List.lookup 3 TryT = some ⟨.int .i64, 1, 8, [.c (.int .i64 0)], false⟩ := by kernel_rfl
@[simp] theorem TryT_4 : List.lookup 4 TryT = some ⟨.bool, 1, 1, [.c (.bool false)], false⟩ := by kernel_rfl
@[simp] theorem TryT_5 : List.lookup 5 TryT = some ⟨.int .u8, 1, 1, [.c (.int .u8 0)], false⟩ := by kernel_rfl
@[simp] theorem TryT_6 : List.lookup 6 TryT = some ⟨.int .u8, 1, 1, [.c (.int .u8 0)], false⟩ := by kernel_rfl
@[simp] theorem TryT_7 : List.lookup 7 TryT = some ⟨.struct [(0, 2), (1, 3), (2, 4), (3, 6)], 4, 24, [.c (.int .i64 0), .c (.int .i64 0), .c (.bool false), .c (.int .u8 0)], true⟩ := by kernel_rfl
@[simp] theorem TryT_8 : List.lookup 8 TryT = some ⟨.struct [(0, 2), (1, 3), (2, 4), (3, 6)], 4, 24, [.c (.int .i64 0), .c (.int .i64 0), .c (.bool false), .c (.int .u8 0)], true⟩ := by kernel_rfl
@[simp] theorem TryT_9 : List.lookup 9 TryT = some ⟨.str, 1, 16, [.c (.str ⟨#[]⟩)], false⟩ := by kernel_rfl
@[simp] theorem TryT_10 : List.lookup 10 TryT = some ⟨.str, 1, 16, [.c (.str ⟨#[]⟩)], false⟩ := by kernel_rfl
@[simp] theorem TryT_11 : List.lookup 11 TryT = some ⟨.str, 1, 16, [.c (.str ⟨#[]⟩)], false⟩ := by kernel_rfl
@[simp] theorem TryT_12 : List.lookup 12 TryT = some ⟨.int .u64, 1, 8, [.c (.int .u64 0)], false⟩ := by kernel_rfl
@[simp] theorem TryT_13 : List.lookup 13 TryT = some ⟨.struct [(0, 9), (1, 12)], 2, 24, [.c (.str ⟨#[]⟩), .c (.int .u64 0)], false⟩ := by kernel_rfl
@[simp] theorem TryT_14 : List.lookup 14 TryT = some ⟨.struct [(0, 9), (1, 12)], 2, 24, [.c (.str ⟨#[]⟩), .c (.int .u64 0)], false⟩ := by kernel_rfl
@[simp] theorem TryT_21 : List.lookup 21 TryT = some ⟨.int .i32, 1, 4, [.c (.int .i32 0)], false⟩ := by kernel_rfl
@[simp] theorem TryT_22 : List.lookup 22 TryT = some ⟨.slice 3, 1, 24, [.nil], false⟩ := by kernel_rfl
@[simp] theorem TryT_23 : List.lookup 23 TryT = some ⟨.slice 73, 1, 24, [.nil], false⟩ := by kernel_rfl
@[simp] theorem TryT_24 : List.lookup 24 TryT = some ⟨.slice 77, 1, 24, [.nil], false⟩ := by kernel_rfl
@[simp] theorem TryT_25 : List.lookup 25 TryT = some ⟨.slice 80, 1, 24, [.nil], false⟩ := by kernel_rfl
@[simp] theorem TryT_26 : List.lookup 26 TryT = some ⟨.struct [(0, 22), (1, 23), (2, 24), (3, 25)], 4, 96, [.nil, .nil, .nil, .nil], false⟩ := by kernel_rfl
@[simp] theorem TryT_27 : List.lookup 27 TryT = some ⟨.struct [(0, 22), (1, 23), (2, 24), (3, 25)], 4, 96, [.nil, .nil, .nil, .nil], false⟩ := by kernel_rfl
@[simp] theorem TryT_29 : List.lookup 29 TryT = some ⟨.struct [(0, 3), (1, 3)], 2, 16, [.c (.int .i64 0), .c (.int .i64 0)], true⟩ := by kernel_rfl
@[simp] theorem TryT_30 : List.lookup 30 TryT = some ⟨.struct [(0, 3), (1, 3)], 2, 16, [.c (.int .i64 0), .c (.int .i64 0)], true⟩ := by kernel_rfl
@[simp] theorem TryT_33 : List.lookup 33 TryT = some ⟨.slice 90, 1, 24, [.nil], false⟩ := by kernel_rfl
@[simp] theorem TryT_34 : List.lookup 34 TryT = some ⟨.slice 87, 1, 24, [.nil], false⟩ := by kernel_rfl
@[simp] theorem TryT_35 : List.lookup 35 TryT = some ⟨.slice 57, 1, 24, [.nil], false⟩ := by kernel_rfl
@[simp] theorem TryT_36 : List.lookup 36 TryT = some ⟨.struct [(0, 22), (1, 33), (2, 34), (3, 35)], 4, 96, [.nil, .nil, .nil, .nil], false⟩ := by kernel_rfl
@[simp] theorem TryT_37 : List.lookup 37 TryT = some ⟨.struct [(0, 22), (1, 33), (2, 34), (3, 35)], 4, 96, [.nil, .nil, .nil, .nil], false⟩ := by kernel_rfl
@[simp] theorem TryT_42 : List.lookup 42 TryT = some ⟨.slice 30, 1, 24, [.nil], false⟩ := by kernel_rfl
@[simp] theorem TryT_56 : List.lookup 56 TryT = some ⟨.struct [(0, 9), (1, 30), (3, 3), (4, 30), (6, 3), (7, 4)], 8, 72, [.c (.str ⟨#[]⟩), .c (.int .i64 0), .c (.int .i64 0), .c (.int .i64 0), .c (.int .i64 0), .c (.int .i64 0), .c (.int .i64 0), .c (.bool false)], true⟩ := by kernel_rfl
@[simp] theorem TryT_57 : List.lookup 57 TryT = some ⟨.struct [(0, 9), (1, 30), (3, 3), (4, 30), (6, 3), (7, 4)], 8, 72, [.c (.str ⟨#[]⟩), .c (.int .i64 0), .c (.int .i64 0), .c (.int .i64 0), .c (.int .i64 0), .c (.int .i64 0), .c (.int .i64 0), .c (.bool false)], true⟩ := by kernel_rfl
@[simp] theorem TryT_72 : List.lookup 72 TryT = some ⟨.struct [(0, 9), (1, 3), (2, 3)], 3, 32, [.c (.str ⟨#[]⟩), .c (.int .i64 0), .c (.int .i64 0)], true⟩ := by kernel_rfl
@[simp] theorem TryT_73 : List.lookup 73 TryT = some ⟨.struct [(0, 9), (1, 3), (2, 3)], 3, 32, [.c (.str ⟨#[]⟩), .c (.int .i64 0), .c (.int .i64 0)], true⟩ := by kernel_rfl
@[simp] theorem TryT_75 : List.lookup 75 TryT = some ⟨.struct [(0, 3), (1, 3)], 2, 16, [.c (.int .i64 0), .c (.int .i64 0)], true⟩ := by kernel_rfl
@[simp] theorem TryT_76 : List.lookup 76 TryT = some ⟨.struct [(0, 4), (1, 9), (2, 9), (3, 3), (4, 75)], 6, 64, [.c (.bool false), .c (.str ⟨#[]⟩), .c (.str ⟨#[]⟩), .c (.int .i64 0), .c (.int .i64 0), .c (.int .i64 0)], true⟩ := by kernel_rfl
@[simp] theorem TryT_77 : List.lookup 77 TryT = some ⟨.struct [(0, 4), (1, 9), (2, 9), (3, 3), (4, 75)], 6, 64, [.c (.bool false), .c (.str ⟨#[]⟩), .c (.str ⟨#[]⟩), .c (.int .i64 0), .c (.int .i64 0), .c (.int .i64 0)], true⟩ := by kernel_rfl
@[simp] theorem TryT_79 : List.lookup 79 TryT = some ⟨.struct [(0, 9), (1, 75), (3, 3), (4, 75), (6, 3), (7, 4)], 8, 72, [.c (.str ⟨#[]⟩), .c (.int .i64 0), .c (.int .i64 0), .c (.int .i64 0), .c (.int .i64 0), .c (.int .i64 0), .c (.int .i64 0), .c (.bool false)], true⟩ := by kernel_rfl
@[simp] theorem TryT_80 : List.lookup 80 TryT = some ⟨.struct [(0, 9), (1, 75), (3, 3), (4, 75), (6, 3), (7, 4)], 8, 72, [.c (.str ⟨#[]⟩), .c (.int .i64 0), .c (.int .i64 0), .c (.int .i64 0), .c (.int .i64 0), .c (.int .i64 0), .c (.int .i64 0), .c (.bool false)], true⟩ := by kernel_rfl
@[simp] theorem TryT_86 : List.lookup 86 TryT = some ⟨.struct [(0, 4), (1, 9), (2, 9), (3, 3), (4, 30)], 6, 64, [.c (.bool false), .c (.str ⟨#[]⟩), .c (.str ⟨#[]⟩), .c (.int .i64 0), .c (.int .i64 0), .c (.int .i64 0)], true⟩ := by kernel_rfl
@[simp] theorem TryT_87 : List.lookup 87 TryT = some ⟨.struct [(0, 4), (1, 9), (2, 9), (3, 3), (4, 30)], 6, 64, [.c (.bool false), .c (.str ⟨#[]⟩), .c (.str ⟨#[]⟩), .c (.int .i64 0), .c (.int .i64 0), .c (.int .i64 0)], true⟩ := by kernel_rfl
@[simp] theorem TryT_90 : List.lookup 90 TryT = some ⟨.struct [(0, 9), (1, 3), (2, 3)], 3, 32, [.c (.str ⟨#[]⟩), .c (.int .i64 0), .c (.int .i64 0)], true⟩ := by kernel_rfl
@[simp] theorem TryT_101 : List.lookup 101 TryT = some ⟨.int .u64, 1, 8, [.c (.int .u64 0)], false⟩ := by kernel_rfl
@[simp] theorem TryT_115 : List.lookup 115 TryT = some ⟨.int .i64, 1, 8, [.c (.int .i64 0)], false⟩ := by kernel_rfl
@[simp] theorem TryT_122 : List.lookup 122 TryT = some ⟨.int .u32, 1, 4, [.c (.int .u32 0)], false⟩ := by kernel_rfl
@[simp] theorem TryT_124 : List.lookup 124 TryT = some ⟨.int .u64, 1, 8, [.c (.int .u64 0)], false⟩ := by kernel_rfl
@[simp] theorem TryT_126 : List.lookup 126 TryT = some ⟨.slice 5, 1, 24, [.nil], false⟩ := by kernel_rfl
@[simp] theorem TryT_128 : List.lookup 128 TryT = some ⟨.int .u64, 1, 8, [.c (.int .u64 0)], false⟩ := by kernel_rfl
@[simp] theorem TryT_141 : List.lookup 141 TryT = some ⟨.struct [(0, 140)], 0, 0, [], false⟩ := by kernel_rfl
@[simp] theorem TryT_142 : List.lookup 142 TryT = some ⟨.struct [(0, 140)], 0, 0, [], false⟩ := by kernel_rfl
@[simp] theorem TryT_144 : List.lookup 144 TryT = some ⟨.int .u8, 1, 1, [.c (.int .u8 0)], false⟩ := by kernel_rfl
@[simp] theorem TryT_145 : List.lookup 145 TryT = some ⟨.int .u8, 1, 1, [.c (.int .u8 0)], false⟩ := by kernel_rfl
@[simp] theorem TryT_148 : List.lookup 148 TryT = some ⟨.int .i32, 1, 4, [.c (.int .i32 0)], false⟩ := by kernel_rfl
@[simp] theorem TryT_149 : List.lookup 149 TryT = some ⟨.int .i32, 1, 4, [.c (.int .i32 0)], false⟩ := by kernel_rfl
end Am
