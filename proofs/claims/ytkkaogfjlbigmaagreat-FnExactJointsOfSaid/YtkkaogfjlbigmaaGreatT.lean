/- The types' table. No condition. -/
import Derived.Test.YtkkaogfjlbigmaaGreatProg
import Derived.KernelRfl
import Derived.Test.YtkkaogfjlbigmaaGreatL1
namespace Am
open Go Go.Proofs
def TryzT : Am.Ty := [
  (2, ⟨.int .i64, 1, 8, [.c (.int .i64 0)], false⟩),
  (3, ⟨.int .i64, 1, 8, [.c (.int .i64 0)], false⟩),
  (4, ⟨.bool, 1, 1, [.c (.bool false)], false⟩),
  (5, ⟨.int .u8, 1, 1, [.c (.int .u8 0)], false⟩),
  (6, ⟨.int .u8, 1, 1, [.c (.int .u8 0)], false⟩),
  (7, ⟨.struct [(0, 2), (1, 3), (2, 4), (3, 6)], 4, 24, [.c (.int .i64 0), .c (.int .i64 0), .c (.bool false), .c (.int .u8 0)], true⟩),
  (8, ⟨.struct [(0, 2), (1, 3), (2, 4), (3, 6)], 4, 24, [.c (.int .i64 0), .c (.int .i64 0), .c (.bool false), .c (.int .u8 0)], true⟩),
  (9, ⟨.str, 1, 16, [.c (.str ⟨#[]⟩)], false⟩),
  (10, ⟨.str, 1, 16, [.c (.str ⟨#[]⟩)], false⟩),
  (11, ⟨.str, 1, 16, [.c (.str ⟨#[]⟩)], false⟩),
  (12, ⟨.int .u64, 1, 8, [.c (.int .u64 0)], false⟩),
  (13, ⟨.struct [(0, 9), (1, 12)], 2, 24, [.c (.str ⟨#[]⟩), .c (.int .u64 0)], false⟩),
  (14, ⟨.struct [(0, 9), (1, 12)], 2, 24, [.c (.str ⟨#[]⟩), .c (.int .u64 0)], false⟩),
  (21, ⟨.int .i32, 1, 4, [.c (.int .i32 0)], false⟩),
  (22, ⟨.slice 3, 1, 24, [.nil], false⟩),
  (23, ⟨.slice 100, 1, 24, [.nil], false⟩),
  (24, ⟨.slice 104, 1, 24, [.nil], false⟩),
  (25, ⟨.slice 107, 1, 24, [.nil], false⟩),
  (26, ⟨.struct [(0, 22), (1, 23), (2, 24), (3, 25)], 4, 96, [.nil, .nil, .nil, .nil], false⟩),
  (27, ⟨.struct [(0, 22), (1, 23), (2, 24), (3, 25)], 4, 96, [.nil, .nil, .nil, .nil], false⟩),
  (28, ⟨.struct [(0, 3), (1, 9), (2, 9), (3, 3), (4, 3)], 5, 56, [.c (.int .i64 0), .c (.str ⟨#[]⟩), .c (.str ⟨#[]⟩), .c (.int .i64 0), .c (.int .i64 0)], true⟩),
  (29, ⟨.struct [(0, 3), (1, 9), (2, 9), (3, 3), (4, 3)], 5, 56, [.c (.int .i64 0), .c (.str ⟨#[]⟩), .c (.str ⟨#[]⟩), .c (.int .i64 0), .c (.int .i64 0)], true⟩),
  (32, ⟨.struct [(0, 3), (1, 3)], 2, 16, [.c (.int .i64 0), .c (.int .i64 0)], true⟩),
  (33, ⟨.struct [(0, 3), (1, 3)], 2, 16, [.c (.int .i64 0), .c (.int .i64 0)], true⟩),
  (34, ⟨.struct [(0, 33), (2, 3), (3, 22), (4, 3), (5, 9), (6, 9), (7, 3), (8, 33)], 10, 112, [.c (.int .i64 0), .c (.int .i64 0), .c (.int .i64 0), .nil, .c (.int .i64 0), .c (.str ⟨#[]⟩), .c (.str ⟨#[]⟩), .c (.int .i64 0), .c (.int .i64 0), .c (.int .i64 0)], false⟩),
  (35, ⟨.struct [(0, 33), (2, 3), (3, 22), (4, 3), (5, 9), (6, 9), (7, 3), (8, 33)], 10, 112, [.c (.int .i64 0), .c (.int .i64 0), .c (.int .i64 0), .nil, .c (.int .i64 0), .c (.str ⟨#[]⟩), .c (.str ⟨#[]⟩), .c (.int .i64 0), .c (.int .i64 0), .c (.int .i64 0)], false⟩),
  (38, ⟨.slice 120, 1, 24, [.nil], false⟩),
  (39, ⟨.slice 114, 1, 24, [.nil], false⟩),
  (40, ⟨.slice 116, 1, 24, [.nil], false⟩),
  (41, ⟨.struct [(0, 22), (1, 38), (2, 39), (3, 40)], 4, 96, [.nil, .nil, .nil, .nil], false⟩),
  (42, ⟨.struct [(0, 22), (1, 38), (2, 39), (3, 40)], 4, 96, [.nil, .nil, .nil, .nil], false⟩),
  (44, ⟨.struct [(0, 3), (1, 9), (2, 9), (3, 3), (4, 3)], 5, 56, [.c (.int .i64 0), .c (.str ⟨#[]⟩), .c (.str ⟨#[]⟩), .c (.int .i64 0), .c (.int .i64 0)], true⟩),
  (51, ⟨.slice 132, 1, 24, [.nil], false⟩),
  (52, ⟨.struct [(0, 51), (1, 3)], 2, 32, [.nil, .c (.int .i64 0)], false⟩),
  (53, ⟨.struct [(0, 51), (1, 3)], 2, 32, [.nil, .c (.int .i64 0)], false⟩),
  (56, ⟨.slice 134, 1, 24, [.nil], false⟩),
  (57, ⟨.struct [(0, 56), (1, 3)], 2, 32, [.nil, .c (.int .i64 0)], false⟩),
  (58, ⟨.struct [(0, 56), (1, 3)], 2, 32, [.nil, .c (.int .i64 0)], false⟩),
  (91, ⟨.slice 4, 1, 24, [.nil], false⟩),
  (99, ⟨.struct [(0, 9), (1, 3), (2, 3)], 3, 32, [.c (.str ⟨#[]⟩), .c (.int .i64 0), .c (.int .i64 0)], true⟩),
  (100, ⟨.struct [(0, 9), (1, 3), (2, 3)], 3, 32, [.c (.str ⟨#[]⟩), .c (.int .i64 0), .c (.int .i64 0)], true⟩),
  (102, ⟨.struct [(0, 3), (1, 3)], 2, 16, [.c (.int .i64 0), .c (.int .i64 0)], true⟩),
  (103, ⟨.struct [(0, 4), (1, 9), (2, 9), (3, 3), (4, 102)], 6, 64, [.c (.bool false), .c (.str ⟨#[]⟩), .c (.str ⟨#[]⟩), .c (.int .i64 0), .c (.int .i64 0), .c (.int .i64 0)], true⟩),
  (104, ⟨.struct [(0, 4), (1, 9), (2, 9), (3, 3), (4, 102)], 6, 64, [.c (.bool false), .c (.str ⟨#[]⟩), .c (.str ⟨#[]⟩), .c (.int .i64 0), .c (.int .i64 0), .c (.int .i64 0)], true⟩),
  (106, ⟨.struct [(0, 9), (1, 102), (3, 3), (4, 102), (6, 3), (7, 4)], 8, 72, [.c (.str ⟨#[]⟩), .c (.int .i64 0), .c (.int .i64 0), .c (.int .i64 0), .c (.int .i64 0), .c (.int .i64 0), .c (.int .i64 0), .c (.bool false)], true⟩),
  (107, ⟨.struct [(0, 9), (1, 102), (3, 3), (4, 102), (6, 3), (7, 4)], 8, 72, [.c (.str ⟨#[]⟩), .c (.int .i64 0), .c (.int .i64 0), .c (.int .i64 0), .c (.int .i64 0), .c (.int .i64 0), .c (.int .i64 0), .c (.bool false)], true⟩),
  (113, ⟨.struct [(0, 4), (1, 9), (2, 9), (3, 3), (4, 33)], 6, 64, [.c (.bool false), .c (.str ⟨#[]⟩), .c (.str ⟨#[]⟩), .c (.int .i64 0), .c (.int .i64 0), .c (.int .i64 0)], true⟩),
  (114, ⟨.struct [(0, 4), (1, 9), (2, 9), (3, 3), (4, 33)], 6, 64, [.c (.bool false), .c (.str ⟨#[]⟩), .c (.str ⟨#[]⟩), .c (.int .i64 0), .c (.int .i64 0), .c (.int .i64 0)], true⟩),
  (115, ⟨.struct [(0, 9), (1, 33), (3, 3), (4, 33), (6, 3), (7, 4)], 8, 72, [.c (.str ⟨#[]⟩), .c (.int .i64 0), .c (.int .i64 0), .c (.int .i64 0), .c (.int .i64 0), .c (.int .i64 0), .c (.int .i64 0), .c (.bool false)], true⟩),
  (116, ⟨.struct [(0, 9), (1, 33), (3, 3), (4, 33), (6, 3), (7, 4)], 8, 72, [.c (.str ⟨#[]⟩), .c (.int .i64 0), .c (.int .i64 0), .c (.int .i64 0), .c (.int .i64 0), .c (.int .i64 0), .c (.int .i64 0), .c (.bool false)], true⟩),
  (120, ⟨.struct [(0, 9), (1, 3), (2, 3)], 3, 32, [.c (.str ⟨#[]⟩), .c (.int .i64 0), .c (.int .i64 0)], true⟩),
  (131, ⟨.struct [(0, 102), (2, 22), (3, 27)], 7, 136, [.c (.int .i64 0), .c (.int .i64 0), .nil, .nil, .nil, .nil, .nil], false⟩),
  (132, ⟨.struct [(0, 102), (2, 22), (3, 27)], 7, 136, [.c (.int .i64 0), .c (.int .i64 0), .nil, .nil, .nil, .nil, .nil], false⟩),
  (133, ⟨.struct [(0, 33), (2, 22), (3, 42)], 7, 136, [.c (.int .i64 0), .c (.int .i64 0), .nil, .nil, .nil, .nil, .nil], false⟩),
  (134, ⟨.struct [(0, 33), (2, 22), (3, 42)], 7, 136, [.c (.int .i64 0), .c (.int .i64 0), .nil, .nil, .nil, .nil, .nil], false⟩),
  (147, ⟨.slice 33, 1, 24, [.nil], false⟩),
  (149, ⟨.slice 5, 1, 24, [.nil], false⟩),
  (168, ⟨.int .u64, 1, 8, [.c (.int .u64 0)], false⟩),
  (176, ⟨.int .i64, 1, 8, [.c (.int .i64 0)], false⟩),
  (183, ⟨.int .u32, 1, 4, [.c (.int .u32 0)], false⟩),
  (185, ⟨.int .u64, 1, 8, [.c (.int .u64 0)], false⟩),
  (189, ⟨.int .u64, 1, 8, [.c (.int .u64 0)], false⟩),
  (221, ⟨.struct [(0, 220)], 0, 0, [], false⟩),
  (222, ⟨.struct [(0, 220)], 0, 0, [], false⟩),
  (224, ⟨.int .u8, 1, 1, [.c (.int .u8 0)], false⟩),
  (225, ⟨.int .u8, 1, 1, [.c (.int .u8 0)], false⟩),
  (228, ⟨.int .i32, 1, 4, [.c (.int .i32 0)], false⟩),
  (229, ⟨.int .i32, 1, 4, [.c (.int .i32 0)], false⟩)]
theorem TryzT_ok : TyOK Tryz.prog TryzT := ⟨by kernel_rfl, by kernel_rfl⟩
@[simp] theorem TryzT_2 : List.lookup 2 TryzT = some ⟨.int .i64, 1, 8, [.c (.int .i64 0)], false⟩ := by kernel_rfl
@[simp] theorem TryzT_3 : List.lookup 3 TryzT = some ⟨.int .i64, 1, 8, [.c (.int .i64 0)], false⟩ := by kernel_rfl
@[simp] theorem TryzT_4 : List.lookup 4 TryzT = some ⟨.bool, 1, 1, [.c (.bool false)], false⟩ := by kernel_rfl
@[simp] theorem TryzT_5 : List.lookup 5 TryzT = some ⟨.int .u8, 1, 1, [.c (.int .u8 0)], false⟩ := by kernel_rfl
@[simp] theorem TryzT_6 : List.lookup 6 TryzT = some ⟨.int .u8, 1, 1, [.c (.int .u8 0)], false⟩ := by kernel_rfl
@[simp] theorem TryzT_7 : List.lookup 7 TryzT = some ⟨.struct [(0, 2), (1, 3), (2, 4), (3, 6)], 4, 24, [.c (.int .i64 0), .c (.int .i64 0), .c (.bool false), .c (.int .u8 0)], true⟩ := by kernel_rfl
@[simp] theorem TryzT_8 : List.lookup 8 TryzT = some ⟨.struct [(0, 2), (1, 3), (2, 4), (3, 6)], 4, 24, [.c (.int .i64 0), .c (.int .i64 0), .c (.bool false), .c (.int .u8 0)], true⟩ := by kernel_rfl
@[simp] theorem TryzT_9 : List.lookup 9 TryzT = some ⟨.str, 1, 16, [.c (.str ⟨#[]⟩)], false⟩ := by kernel_rfl
@[simp] theorem TryzT_10 : List.lookup 10 TryzT = some ⟨.str, 1, 16, [.c (.str ⟨#[]⟩)], false⟩ := by kernel_rfl
@[simp] theorem TryzT_11 : List.lookup 11 TryzT = some ⟨.str, 1, 16, [.c (.str ⟨#[]⟩)], false⟩ := by kernel_rfl
@[simp] theorem TryzT_12 : List.lookup 12 TryzT = some ⟨.int .u64, 1, 8, [.c (.int .u64 0)], false⟩ := by kernel_rfl
@[simp] theorem TryzT_13 : List.lookup 13 TryzT = some ⟨.struct [(0, 9), (1, 12)], 2, 24, [.c (.str ⟨#[]⟩), .c (.int .u64 0)], false⟩ := by kernel_rfl
@[simp] theorem TryzT_14 : List.lookup 14 TryzT = some ⟨.struct [(0, 9), (1, 12)], 2, 24, [.c (.str ⟨#[]⟩), .c (.int .u64 0)], false⟩ := by kernel_rfl
@[simp] theorem TryzT_21 : List.lookup 21 TryzT = some ⟨.int .i32, 1, 4, [.c (.int .i32 0)], false⟩ := by kernel_rfl
@[simp] theorem TryzT_22 : List.lookup 22 TryzT = some ⟨.slice 3, 1, 24, [.nil], false⟩ := by kernel_rfl
@[simp] theorem TryzT_23 : List.lookup 23 TryzT = some ⟨.slice 100, 1, 24, [.nil], false⟩ := by kernel_rfl
@[simp] theorem TryzT_24 : List.lookup 24 TryzT = some ⟨.slice 104, 1, 24, [.nil], false⟩ := by kernel_rfl
@[simp] theorem TryzT_25 : List.lookup 25 TryzT = some ⟨.slice 107, 1, 24, [.nil], false⟩ := by kernel_rfl
@[simp] theorem TryzT_26 : List.lookup 26 TryzT = some ⟨.struct [(0, 22), (1, 23), (2, 24), (3, 25)], 4, 96, [.nil, .nil, .nil, .nil], false⟩ := by kernel_rfl
@[simp] theorem TryzT_27 : List.lookup 27 TryzT = some ⟨.struct [(0, 22), (1, 23), (2, 24), (3, 25)], 4, 96, [.nil, .nil, .nil, .nil], false⟩ := by kernel_rfl
@[simp] theorem TryzT_28 : List.lookup 28 TryzT = some ⟨.struct [(0, 3), (1, 9), (2, 9), (3, 3), (4, 3)], 5, 56, [.c (.int .i64 0), .c (.str ⟨#[]⟩), .c (.str ⟨#[]⟩), .c (.int .i64 0), .c (.int .i64 0)], true⟩ := by kernel_rfl
@[simp] theorem TryzT_29 : List.lookup 29 TryzT = some ⟨.struct [(0, 3), (1, 9), (2, 9), (3, 3), (4, 3)], 5, 56, [.c (.int .i64 0), .c (.str ⟨#[]⟩), .c (.str ⟨#[]⟩), .c (.int .i64 0), .c (.int .i64 0)], true⟩ := by kernel_rfl
@[simp] theorem TryzT_32 : List.lookup 32 TryzT = some ⟨.struct [(0, 3), (1, 3)], 2, 16, [.c (.int .i64 0), .c (.int .i64 0)], true⟩ := by kernel_rfl
@[simp] theorem TryzT_33 : List.lookup 33 TryzT = some ⟨.struct [(0, 3), (1, 3)], 2, 16, [.c (.int .i64 0), .c (.int .i64 0)], true⟩ := by kernel_rfl
@[simp] theorem TryzT_34 : List.lookup 34 TryzT = some ⟨.struct [(0, 33), (2, 3), (3, 22), (4, 3), (5, 9), (6, 9), (7, 3), (8, 33)], 10, 112, [.c (.int .i64 0), .c (.int .i64 0), .c (.int .i64 0), .nil, .c (.int .i64 0), .c (.str ⟨#[]⟩), .c (.str ⟨#[]⟩), .c (.int .i64 0), .c (.int .i64 0), .c (.int .i64 0)], false⟩ := by kernel_rfl
@[simp] theorem TryzT_35 : List.lookup 35 TryzT = some ⟨.struct [(0, 33), (2, 3), (3, 22), (4, 3), (5, 9), (6, 9), (7, 3), (8, 33)], 10, 112, [.c (.int .i64 0), .c (.int .i64 0), .c (.int .i64 0), .nil, .c (.int .i64 0), .c (.str ⟨#[]⟩), .c (.str ⟨#[]⟩), .c (.int .i64 0), .c (.int .i64 0), .c (.int .i64 0)], false⟩ := by kernel_rfl
@[simp] theorem TryzT_38 : List.lookup 38 TryzT = some ⟨.slice 120, 1, 24, [.nil], false⟩ := by kernel_rfl
@[simp] theorem TryzT_39 : List.lookup 39 TryzT = some ⟨.slice 114, 1, 24, [.nil], false⟩ := by kernel_rfl
@[simp] theorem TryzT_40 : List.lookup 40 TryzT = some ⟨.slice 116, 1, 24, [.nil], false⟩ := by kernel_rfl
@[simp] theorem TryzT_41 : List.lookup 41 TryzT = some ⟨.struct [(0, 22), (1, 38), (2, 39), (3, 40)], 4, 96, [.nil, .nil, .nil, .nil], false⟩ := by kernel_rfl
@[simp] theorem TryzT_42 : List.lookup 42 TryzT = some ⟨.struct [(0, 22), (1, 38), (2, 39), (3, 40)], 4, 96, [.nil, .nil, .nil, .nil], false⟩ := by kernel_rfl
@[simp] theorem TryzT_44 : List.lookup 44 TryzT = some ⟨.struct [(0, 3), (1, 9), (2, 9), (3, 3), (4, 3)], 5, 56, [.c (.int .i64 0), .c (.str ⟨#[]⟩), .c (.str ⟨#[]⟩), .c (.int .i64 0), .c (.int .i64 0)], true⟩ := by kernel_rfl
@[simp] theorem TryzT_51 : List.lookup 51 TryzT = some ⟨.slice 132, 1, 24, [.nil], false⟩ := by kernel_rfl
@[simp] theorem TryzT_52 : List.lookup 52 TryzT = some ⟨.struct [(0, 51), (1, 3)], 2, 32, [.nil, .c (.int .i64 0)], false⟩ := by kernel_rfl
@[simp] theorem TryzT_53 : List.lookup 53 TryzT = some ⟨.struct [(0, 51), (1, 3)], 2, 32, [.nil, .c (.int .i64 0)], false⟩ := by kernel_rfl
@[simp] theorem TryzT_56 : List.lookup 56 TryzT = some ⟨.slice 134, 1, 24, [.nil], false⟩ := by kernel_rfl
@[simp] theorem TryzT_57 : List.lookup 57 TryzT = some ⟨.struct [(0, 56), (1, 3)], 2, 32, [.nil, .c (.int .i64 0)], false⟩ := by kernel_rfl
@[simp] theorem TryzT_58 : List.lookup 58 TryzT = some ⟨.struct [(0, 56), (1, 3)], 2, 32, [.nil, .c (.int .i64 0)], false⟩ := by kernel_rfl
@[simp] theorem TryzT_91 : List.lookup 91 TryzT = some ⟨.slice 4, 1, 24, [.nil], false⟩ := by kernel_rfl
@[simp] theorem TryzT_99 : List.lookup 99 TryzT = some ⟨.struct [(0, 9), (1, 3), (2, 3)], 3, 32, [.c (.str ⟨#[]⟩), .c (.int .i64 0), .c (.int .i64 0)], true⟩ := by kernel_rfl
@[simp] theorem TryzT_100 : List.lookup 100 TryzT = some ⟨.struct [(0, 9), (1, 3), (2, 3)], 3, 32, [.c (.str ⟨#[]⟩), .c (.int .i64 0), .c (.int .i64 0)], true⟩ := by kernel_rfl
@[simp] theorem TryzT_102 : List.lookup 102 TryzT = some ⟨.struct [(0, 3), (1, 3)], 2, 16, [.c (.int .i64 0), .c (.int .i64 0)], true⟩ := by kernel_rfl
@[simp] theorem TryzT_103 : List.lookup 103 TryzT = some ⟨.struct [(0, 4), (1, 9), (2, 9), (3, 3), (4, 102)], 6, 64, [.c (.bool false), .c (.str ⟨#[]⟩), .c (.str ⟨#[]⟩), .c (.int .i64 0), .c (.int .i64 0), .c (.int .i64 0)], true⟩ := by kernel_rfl
@[simp] theorem TryzT_104 : List.lookup 104 TryzT = some ⟨.struct [(0, 4), (1, 9), (2, 9), (3, 3), (4, 102)], 6, 64, [.c (.bool false), .c (.str ⟨#[]⟩), .c (.str ⟨#[]⟩), .c (.int .i64 0), .c (.int .i64 0), .c (.int .i64 0)], true⟩ := by kernel_rfl
@[simp] theorem TryzT_106 : List.lookup 106 TryzT = some ⟨.struct [(0, 9), (1, 102), (3, 3), (4, 102), (6, 3), (7, 4)], 8, 72, [.c (.str ⟨#[]⟩), .c (.int .i64 0), .c (.int .i64 0), .c (.int .i64 0), .c (.int .i64 0), .c (.int .i64 0), .c (.int .i64 0), .c (.bool false)], true⟩ := by kernel_rfl
@[simp] theorem TryzT_107 : List.lookup 107 TryzT = some ⟨.struct [(0, 9), (1, 102), (3, 3), (4, 102), (6, 3), (7, 4)], 8, 72, [.c (.str ⟨#[]⟩), .c (.int .i64 0), .c (.int .i64 0), .c (.int .i64 0), .c (.int .i64 0), .c (.int .i64 0), .c (.int .i64 0), .c (.bool false)], true⟩ := by kernel_rfl
@[simp] theorem TryzT_113 : List.lookup 113 TryzT = some ⟨.struct [(0, 4), (1, 9), (2, 9), (3, 3), (4, 33)], 6, 64, [.c (.bool false), .c (.str ⟨#[]⟩), .c (.str ⟨#[]⟩), .c (.int .i64 0), .c (.int .i64 0), .c (.int .i64 0)], true⟩ := by kernel_rfl
@[simp] theorem TryzT_114 : List.lookup 114 TryzT = some ⟨.struct [(0, 4), (1, 9), (2, 9), (3, 3), (4, 33)], 6, 64, [.c (.bool false), .c (.str ⟨#[]⟩), .c (.str ⟨#[]⟩), .c (.int .i64 0), .c (.int .i64 0), .c (.int .i64 0)], true⟩ := by kernel_rfl
@[simp] theorem TryzT_115 : List.lookup 115 TryzT = some ⟨.struct [(0, 9), (1, 33), (3, 3), (4, 33), (6, 3), (7, 4)], 8, 72, [.c (.str ⟨#[]⟩), .c (.int .i64 0), .c (.int .i64 0), .c (.int .i64 0), .c (.int .i64 0), .c (.int .i64 0), .c (.int .i64 0), .c (.bool false)], true⟩ := by kernel_rfl
@[simp] theorem TryzT_116 : List.lookup 116 TryzT = some ⟨.struct [(0, 9), (1, 33), (3, 3), (4, 33), (6, 3), (7, 4)], 8, 72, [.c (.str ⟨#[]⟩), .c (.int .i64 0), .c (.int .i64 0), .c (.int .i64 0), .c (.int .i64 0), .c (.int .i64 0), .c (.int .i64 0), .c (.bool false)], true⟩ := by kernel_rfl
@[simp] theorem TryzT_120 : List.lookup 120 TryzT = some ⟨.struct [(0, 9), (1, 3), (2, 3)], 3, 32, [.c (.str ⟨#[]⟩), .c (.int .i64 0), .c (.int .i64 0)], true⟩ := by kernel_rfl
@[simp] theorem TryzT_131 : List.lookup 131 TryzT = some ⟨.struct [(0, 102), (2, 22), (3, 27)], 7, 136, [.c (.int .i64 0), .c (.int .i64 0), .nil, .nil, .nil, .nil, .nil], false⟩ := by kernel_rfl
@[simp] theorem TryzT_132 : List.lookup 132 TryzT = some ⟨.struct [(0, 102), (2, 22), (3, 27)], 7, 136, [.c (.int .i64 0), .c (.int .i64 0), .nil, .nil, .nil, .nil, .nil], false⟩ := by kernel_rfl
@[simp] theorem TryzT_133 : List.lookup 133 TryzT = some ⟨.struct [(0, 33), (2, 22), (3, 42)], 7, 136, [.c (.int .i64 0), .c (.int .i64 0), .nil, .nil, .nil, .nil, .nil], false⟩ := by kernel_rfl
@[simp] theorem TryzT_134 : List.lookup 134 TryzT = some ⟨.struct [(0, 33), (2, 22), (3, 42)], 7, 136, [.c (.int .i64 0), .c (.int .i64 0), .nil, .nil, .nil, .nil, .nil], false⟩ := by kernel_rfl
@[simp] theorem TryzT_147 : List.lookup 147 TryzT = some ⟨.slice 33, 1, 24, [.nil], false⟩ := by kernel_rfl
@[simp] theorem TryzT_149 : List.lookup 149 TryzT = some ⟨.slice 5, 1, 24, [.nil], false⟩ := by kernel_rfl
@[simp] theorem TryzT_168 : List.lookup 168 TryzT = some ⟨.int .u64, 1, 8, [.c (.int .u64 0)], false⟩ := by kernel_rfl
@[simp] theorem TryzT_176 : List.lookup 176 TryzT = some ⟨.int .i64, 1, 8, [.c (.int .i64 0)], false⟩ := by kernel_rfl
@[simp] theorem TryzT_183 : List.lookup 183 TryzT = some ⟨.int .u32, 1, 4, [.c (.int .u32 0)], false⟩ := by kernel_rfl
@[simp] theorem TryzT_185 : List.lookup 185 TryzT = some ⟨.int .u64, 1, 8, [.c (.int .u64 0)], false⟩ := by kernel_rfl
@[simp] theorem TryzT_189 : List.lookup 189 TryzT = some ⟨.int .u64, 1, 8, [.c (.int .u64 0)], false⟩ := by kernel_rfl
@[simp] theorem TryzT_221 : List.lookup 221 TryzT = some ⟨.struct [(0, 220)], 0, 0, [], false⟩ := by kernel_rfl
@[simp] theorem TryzT_222 : List.lookup 222 TryzT = some ⟨.struct [(0, 220)], 0, 0, [], false⟩ := by kernel_rfl
@[simp] theorem TryzT_224 : List.lookup 224 TryzT = some ⟨.int .u8, 1, 1, [.c (.int .u8 0)], false⟩ := by kernel_rfl
@[simp] theorem TryzT_225 : List.lookup 225 TryzT = some ⟨.int .u8, 1, 1, [.c (.int .u8 0)], false⟩ := by kernel_rfl
@[simp] theorem TryzT_228 : List.lookup 228 TryzT = some ⟨.int .i32, 1, 4, [.c (.int .i32 0)], false⟩ := by kernel_rfl
@[simp] theorem TryzT_229 : List.lookup 229 TryzT = some ⟨.int .i32, 1, 4, [.c (.int .i32 0)], false⟩ := by kernel_rfl
end Am
