/- The types' table. No condition. -/
import Derived.Test.YtkndgnnfgdfcbaaProg
import Derived.KernelRfl
import Derived.Test.YtkndgnnfgdfcbaaL1
namespace Am
open Go Go.Proofs
def TryT : Am.Ty := [
  (2, ⟨.int .i64, 1, 8, [.c (.int .i64 0)], false⟩),
  (3, ⟨.int .i64, 1, 8, [.c (.int .i64 0)], false⟩),
  (4, ⟨.bool, 1, 1, [.c (.bool false)], false⟩),
  (5, ⟨.int .u8, 1, 1, [.c (.int .u8 0)], false⟩),
  (6, ⟨.int .u8, 1, 1, [.c (.int .u8 0)], false⟩),
  (7, ⟨.struct [(0, 2), (1, 3), (2, 4), (3, 6)], 4, 24, [.c (.int .i64 0), .c (.int .i64 0), .c (.bool false), .c (.int .u8 0)], true⟩),
  (8, ⟨.struct [(0, 2), (1, 3), (2, 4), (3, 6)], 4, 24, [.c (.int .i64 0), .c (.int .i64 0), .c (.bool false), .c (.int .u8 0)], true⟩),
  (9, ⟨.str, 1, 16, [.c (.str ⟨#[]⟩)], false⟩),
  (10, ⟨.str, 1, 16, [.c (.str ⟨#[]⟩)], false⟩),
  (11, ⟨.str, 1, 16, [.c (.str ⟨#[]⟩)], false⟩),
  (12, ⟨.int .u64, 1, 8, [.c (.int .u64 0)], false⟩),
  (13, ⟨.struct [(0, 9), (1, 12)], 2, 24, [.c (.str ⟨#[]⟩), .c (.int .u64 0)], false⟩),
  (14, ⟨.struct [(0, 9), (1, 12)], 2, 24, [.c (.str ⟨#[]⟩), .c (.int .u64 0)], false⟩),
  (21, ⟨.int .i32, 1, 4, [.c (.int .i32 0)], false⟩),
  (22, ⟨.struct [(0, 3), (1, 3)], 2, 16, [.c (.int .i64 0), .c (.int .i64 0)], true⟩),
  (23, ⟨.struct [(0, 3), (1, 3)], 2, 16, [.c (.int .i64 0), .c (.int .i64 0)], true⟩),
  (24, ⟨.slice 3, 1, 24, [.nil], false⟩),
  (25, ⟨.struct [(0, 23), (2, 3), (3, 24), (4, 3), (5, 9), (6, 9), (7, 3), (8, 23)], 10, 112, [.c (.int .i64 0), .c (.int .i64 0), .c (.int .i64 0), .nil, .c (.int .i64 0), .c (.str ⟨#[]⟩), .c (.str ⟨#[]⟩), .c (.int .i64 0), .c (.int .i64 0), .c (.int .i64 0)], false⟩),
  (26, ⟨.struct [(0, 23), (2, 3), (3, 24), (4, 3), (5, 9), (6, 9), (7, 3), (8, 23)], 10, 112, [.c (.int .i64 0), .c (.int .i64 0), .c (.int .i64 0), .nil, .c (.int .i64 0), .c (.str ⟨#[]⟩), .c (.str ⟨#[]⟩), .c (.int .i64 0), .c (.int .i64 0), .c (.int .i64 0)], false⟩),
  (27, ⟨.slice 140, 1, 24, [.nil], false⟩),
  (28, ⟨.slice 143, 1, 24, [.nil], false⟩),
  (29, ⟨.slice 23, 1, 24, [.nil], false⟩),
  (30, ⟨.slice 146, 1, 24, [.nil], false⟩),
  (31, ⟨.struct [(0, 24), (1, 24), (2, 27), (3, 28), (4, 29), (5, 30)], 6, 144, [.nil, .nil, .nil, .nil, .nil, .nil], false⟩),
  (32, ⟨.struct [(0, 24), (1, 24), (2, 27), (3, 28), (4, 29), (5, 30)], 6, 144, [.nil, .nil, .nil, .nil, .nil, .nil], false⟩),
  (33, ⟨.struct [(0, 4), (1, 26), (11, 32)], 17, 264, [.c (.bool false), .c (.int .i64 0), .c (.int .i64 0), .c (.int .i64 0), .nil, .c (.int .i64 0), .c (.str ⟨#[]⟩), .c (.str ⟨#[]⟩), .c (.int .i64 0), .c (.int .i64 0), .c (.int .i64 0), .nil, .nil, .nil, .nil, .nil, .nil], false⟩),
  (34, ⟨.struct [(0, 4), (1, 26), (11, 32)], 17, 264, [.c (.bool false), .c (.int .i64 0), .c (.int .i64 0), .c (.int .i64 0), .nil, .c (.int .i64 0), .c (.str ⟨#[]⟩), .c (.str ⟨#[]⟩), .c (.int .i64 0), .c (.int .i64 0), .c (.int .i64 0), .nil, .nil, .nil, .nil, .nil, .nil], false⟩),
  (36, ⟨.slice 38, 1, 24, [.nil], false⟩),
  (38, ⟨.struct [(0, 3), (1, 3)], 2, 16, [.c (.int .i64 0), .c (.int .i64 0)], true⟩),
  (39, ⟨.struct [(0, 38), (2, 3), (3, 24), (4, 3), (5, 9), (6, 9), (7, 3), (8, 38)], 10, 112, [.c (.int .i64 0), .c (.int .i64 0), .c (.int .i64 0), .nil, .c (.int .i64 0), .c (.str ⟨#[]⟩), .c (.str ⟨#[]⟩), .c (.int .i64 0), .c (.int .i64 0), .c (.int .i64 0)], false⟩),
  (40, ⟨.struct [(0, 38), (2, 3), (3, 24), (4, 3), (5, 9), (6, 9), (7, 3), (8, 38)], 10, 112, [.c (.int .i64 0), .c (.int .i64 0), .c (.int .i64 0), .nil, .c (.int .i64 0), .c (.str ⟨#[]⟩), .c (.str ⟨#[]⟩), .c (.int .i64 0), .c (.int .i64 0), .c (.int .i64 0)], false⟩),
  (41, ⟨.slice 117, 1, 24, [.nil], false⟩),
  (42, ⟨.slice 120, 1, 24, [.nil], false⟩),
  (43, ⟨.slice 122, 1, 24, [.nil], false⟩),
  (44, ⟨.struct [(0, 24), (1, 24), (2, 41), (3, 42), (4, 36), (5, 43)], 6, 144, [.nil, .nil, .nil, .nil, .nil, .nil], false⟩),
  (45, ⟨.struct [(0, 24), (1, 24), (2, 41), (3, 42), (4, 36), (5, 43)], 6, 144, [.nil, .nil, .nil, .nil, .nil, .nil], false⟩),
  (46, ⟨.struct [(0, 4), (1, 40), (11, 45)], 17, 264, [.c (.bool false), .c (.int .i64 0), .c (.int .i64 0), .c (.int .i64 0), .nil, .c (.int .i64 0), .c (.str ⟨#[]⟩), .c (.str ⟨#[]⟩), .c (.int .i64 0), .c (.int .i64 0), .c (.int .i64 0), .nil, .nil, .nil, .nil, .nil, .nil], false⟩),
  (47, ⟨.struct [(0, 4), (1, 40), (11, 45)], 17, 264, [.c (.bool false), .c (.int .i64 0), .c (.int .i64 0), .c (.int .i64 0), .nil, .c (.int .i64 0), .c (.str ⟨#[]⟩), .c (.str ⟨#[]⟩), .c (.int .i64 0), .c (.int .i64 0), .c (.int .i64 0), .nil, .nil, .nil, .nil, .nil, .nil], false⟩),
  (54, ⟨.struct [(0, 24), (1, 41), (2, 42), (3, 43)], 4, 96, [.nil, .nil, .nil, .nil], false⟩),
  (55, ⟨.struct [(0, 24), (1, 41), (2, 42), (3, 43)], 4, 96, [.nil, .nil, .nil, .nil], false⟩),
  (77, ⟨.struct [(0, 9), (1, 3), (2, 4)], 3, 32, [.c (.str ⟨#[]⟩), .c (.int .i64 0), .c (.bool false)], true⟩),
  (78, ⟨.struct [(0, 9), (1, 3), (2, 4)], 3, 32, [.c (.str ⟨#[]⟩), .c (.int .i64 0), .c (.bool false)], true⟩),
  (85, ⟨.struct [(0, 9), (1, 3), (2, 4)], 3, 32, [.c (.str ⟨#[]⟩), .c (.int .i64 0), .c (.bool false)], true⟩),
  (86, ⟨.struct [(0, 9), (1, 3), (2, 4)], 3, 32, [.c (.str ⟨#[]⟩), .c (.int .i64 0), .c (.bool false)], true⟩),
  (113, ⟨.int .u32, 1, 4, [.c (.int .u32 0)], false⟩),
  (116, ⟨.struct [(0, 9), (1, 3), (2, 3)], 3, 32, [.c (.str ⟨#[]⟩), .c (.int .i64 0), .c (.int .i64 0)], true⟩),
  (117, ⟨.struct [(0, 9), (1, 3), (2, 3)], 3, 32, [.c (.str ⟨#[]⟩), .c (.int .i64 0), .c (.int .i64 0)], true⟩),
  (119, ⟨.struct [(0, 4), (1, 9), (2, 9), (3, 3), (4, 38)], 6, 64, [.c (.bool false), .c (.str ⟨#[]⟩), .c (.str ⟨#[]⟩), .c (.int .i64 0), .c (.int .i64 0), .c (.int .i64 0)], true⟩),
  (120, ⟨.struct [(0, 4), (1, 9), (2, 9), (3, 3), (4, 38)], 6, 64, [.c (.bool false), .c (.str ⟨#[]⟩), .c (.str ⟨#[]⟩), .c (.int .i64 0), .c (.int .i64 0), .c (.int .i64 0)], true⟩),
  (121, ⟨.struct [(0, 9), (1, 38), (3, 3), (4, 38), (6, 3), (7, 4)], 8, 72, [.c (.str ⟨#[]⟩), .c (.int .i64 0), .c (.int .i64 0), .c (.int .i64 0), .c (.int .i64 0), .c (.int .i64 0), .c (.int .i64 0), .c (.bool false)], true⟩),
  (122, ⟨.struct [(0, 9), (1, 38), (3, 3), (4, 38), (6, 3), (7, 4)], 8, 72, [.c (.str ⟨#[]⟩), .c (.int .i64 0), .c (.int .i64 0), .c (.int .i64 0), .c (.int .i64 0), .c (.int .i64 0), .c (.int .i64 0), .c (.bool false)], true⟩),
  (140, ⟨.struct [(0, 9), (1, 3), (2, 3)], 3, 32, [.c (.str ⟨#[]⟩), .c (.int .i64 0), .c (.int .i64 0)], true⟩),
  (142, ⟨.struct [(0, 4), (1, 9), (2, 9), (3, 3), (4, 23)], 6, 64, [.c (.bool false), .c (.str ⟨#[]⟩), .c (.str ⟨#[]⟩), .c (.int .i64 0), .c (.int .i64 0), .c (.int .i64 0)], true⟩),
  (143, ⟨.struct [(0, 4), (1, 9), (2, 9), (3, 3), (4, 23)], 6, 64, [.c (.bool false), .c (.str ⟨#[]⟩), .c (.str ⟨#[]⟩), .c (.int .i64 0), .c (.int .i64 0), .c (.int .i64 0)], true⟩),
  (145, ⟨.struct [(0, 9), (1, 23), (3, 3), (4, 23), (6, 3), (7, 4)], 8, 72, [.c (.str ⟨#[]⟩), .c (.int .i64 0), .c (.int .i64 0), .c (.int .i64 0), .c (.int .i64 0), .c (.int .i64 0), .c (.int .i64 0), .c (.bool false)], true⟩),
  (146, ⟨.struct [(0, 9), (1, 23), (3, 3), (4, 23), (6, 3), (7, 4)], 8, 72, [.c (.str ⟨#[]⟩), .c (.int .i64 0), .c (.int .i64 0), .c (.int .i64 0), .c (.int .i64 0), .c (.int .i64 0), .c (.int .i64 0), .c (.bool false)], true⟩),
  (154, ⟨.int .u64, 1, 8, [.c (.int .u64 0)], false⟩),
  (155, ⟨.slice 5, 1, 24, [.nil], false⟩),
  (175, ⟨.struct [(0, 174)], 0, 0, [], false⟩),
  (176, ⟨.struct [(0, 174)], 0, 0, [], false⟩),
  (177, ⟨.int .u8, 1, 1, [.c (.int .u8 0)], false⟩),
  (178, ⟨.int .u8, 1, 1, [.c (.int .u8 0)], false⟩),
  (181, ⟨.int .i32, 1, 4, [.c (.int .i32 0)], false⟩),
  (182, ⟨.int .i32, 1, 4, [.c (.int .i32 0)], false⟩)]
theorem TryT_ok : TyOK Try.prog TryT := ⟨by kernel_rfl, by kernel_rfl⟩
@[simp] theorem TryT_2 : List.lookup 2 TryT = some ⟨.int .i64, 1, 8, [.c (.int .i64 0)], false⟩ := by kernel_rfl
@[simp] theorem TryT_3 : List.lookup 3 TryT = some ⟨.int .i64, 1, 8, [.c (.int .i64 0)], false⟩ := by kernel_rfl
@[simp] theorem TryT_4 : List.lookup 4 TryT = some ⟨.bool, 1, 1, [.c (.bool false)], false⟩ := by kernel_rfl
@[simp] theorem TryT_5 : List.lookup 5 TryT = some ⟨.int .u8, 1, 1, [.c (.int .u8 0)], false⟩ := by kernel_rfl
@[simp] theorem TryT_6 : List.lookup 6 TryT = some ⟨.int .u8, 1, 1, [.c (.int .u8 0)], false⟩ := by kernel_rfl
@[simp] theorem TryT_7 : List.lookup 7 TryT = some ⟨.struct [(0, 2), (1, 3), (2, 4), (3, 6)], 4, 24, [.c (.int .i64 0), .c (.int .i64 0), .c (.bool false), .c (.int .u8 0)], true⟩ := by kernel_rfl
@[simp] theorem TryT_8 : List.lookup 8 TryT = some ⟨.struct [(0, 2), (1, 3), (2, 4), (3, 6)], 4, 24, [.c (.int .i64 0), .c (.int .i64 0), .c (.bool false), .c (.int .u8 0)], true⟩ := by kernel_rfl
@[simp] theorem TryT_9 : List.lookup 9 TryT = some ⟨.str, 1, 16, [.c (.str ⟨#[]⟩)], false⟩ := by kernel_rfl
@[simp] theorem TryT_10 : List.lookup 10 TryT = some ⟨.str, 1, 16, [.c (.str ⟨#[]⟩)], false⟩ := by kernel_rfl
@[simp] theorem TryT_11 : List.lookup 11 TryT = some ⟨.str, 1, 16, [.c (.str ⟨#[]⟩)], false⟩ := by kernel_rfl
@[simp] theorem TryT_12 : List.lookup 12 TryT = some ⟨.int .u64, 1, 8, [.c (.int .u64 0)], false⟩ := by kernel_rfl
@[simp] theorem TryT_13 : List.lookup 13 TryT = some ⟨.struct [(0, 9), (1, 12)], 2, 24, [.c (.str ⟨#[]⟩), .c (.int .u64 0)], false⟩ := by kernel_rfl
@[simp] theorem TryT_14 : List.lookup 14 TryT = some ⟨.struct [(0, 9), (1, 12)], 2, 24, [.c (.str ⟨#[]⟩), .c (.int .u64 0)], false⟩ := by kernel_rfl
@[simp] theorem TryT_21 : List.lookup 21 TryT = some ⟨.int .i32, 1, 4, [.c (.int .i32 0)], false⟩ := by kernel_rfl
@[simp] theorem TryT_22 : List.lookup 22 TryT = some ⟨.struct [(0, 3), (1, 3)], 2, 16, [.c (.int .i64 0), .c (.int .i64 0)], true⟩ := by kernel_rfl
@[simp] theorem TryT_23 : List.lookup 23 TryT = some ⟨.struct [(0, 3), (1, 3)], 2, 16, [.c (.int .i64 0), .c (.int .i64 0)], true⟩ := by kernel_rfl
@[simp] theorem TryT_24 : List.lookup 24 TryT = some ⟨.slice 3, 1, 24, [.nil], false⟩ := by kernel_rfl
@[simp] theorem TryT_25 : List.lookup 25 TryT = some ⟨.struct [(0, 23), (2, 3), (3, 24), (4, 3), (5, 9), (6, 9), (7, 3), (8, 23)], 10, 112, [.c (.int .i64 0), .c (.int .i64 0), .c (.int .i64 0), .nil, .c (.int .i64 0), .c (.str ⟨#[]⟩), .c (.str ⟨#[]⟩), .c (.int .i64 0), .c (.int .i64 0), .c (.int .i64 0)], false⟩ := by kernel_rfl
@[simp] theorem TryT_26 : List.lookup 26 TryT = some ⟨.struct [(0, 23), (2, 3), (3, 24), (4, 3), (5, 9), (6, 9), (7, 3), (8, 23)], 10, 112, [.c (.int .i64 0), .c (.int .i64 0), .c (.int .i64 0), .nil, .c (.int .i64 0), .c (.str ⟨#[]⟩), .c (.str ⟨#[]⟩), .c (.int .i64 0), .c (.int .i64 0), .c (.int .i64 0)], false⟩ := by kernel_rfl
@[simp] theorem TryT_27 : List.lookup 27 TryT = some ⟨.slice 140, 1, 24, [.nil], false⟩ := by kernel_rfl
@[simp] theorem TryT_28 : List.lookup 28 TryT = some ⟨.slice 143, 1, 24, [.nil], false⟩ := by kernel_rfl
@[simp] theorem TryT_29 : List.lookup 29 TryT = some ⟨.slice 23, 1, 24, [.nil], false⟩ := by kernel_rfl
@[simp] theorem TryT_30 : List.lookup 30 TryT = some ⟨.slice 146, 1, 24, [.nil], false⟩ := by kernel_rfl
@[simp] theorem TryT_31 : List.lookup 31 TryT = some ⟨.struct [(0, 24), (1, 24), (2, 27), (3, 28), (4, 29), (5, 30)], 6, 144, [.nil, .nil, .nil, .nil, .nil, .nil], false⟩ := by kernel_rfl
@[simp] theorem TryT_32 : List.lookup 32 TryT = some ⟨.struct [(0, 24), (1, 24), (2, 27), (3, 28), (4, 29), (5, 30)], 6, 144, [.nil, .nil, .nil, .nil, .nil, .nil], false⟩ := by kernel_rfl
@[simp] theorem TryT_33 : List.lookup 33 TryT = some ⟨.struct [(0, 4), (1, 26), (11, 32)], 17, 264, [.c (.bool false), .c (.int .i64 0), .c (.int .i64 0), .c (.int .i64 0), .nil, .c (.int .i64 0), .c (.str ⟨#[]⟩), .c (.str ⟨#[]⟩), .c (.int .i64 0), .c (.int .i64 0), .c (.int .i64 0), .nil, .nil, .nil, .nil, .nil, .nil], false⟩ := by kernel_rfl
@[simp] theorem TryT_34 : List.lookup 34 TryT = some ⟨.struct [(0, 4), (1, 26), (11, 32)], 17, 264, [.c (.bool false), .c (.int .i64 0), .c (.int .i64 0), .c (.int .i64 0), .nil, .c (.int .i64 0), .c (.str ⟨#[]⟩), .c (.str ⟨#[]⟩), .c (.int .i64 0), .c (.int .i64 0), .c (.int .i64 0), .nil, .nil, .nil, .nil, .nil, .nil], false⟩ := by kernel_rfl
@[simp] theorem TryT_36 : List.lookup 36 TryT = some ⟨.slice 38, 1, 24, [.nil], false⟩ := by kernel_rfl
@[simp] theorem TryT_38 : List.lookup 38 TryT = some ⟨.struct [(0, 3), (1, 3)], 2, 16, [.c (.int .i64 0), .c (.int .i64 0)], true⟩ := by kernel_rfl
@[simp] theorem TryT_39 : List.lookup 39 TryT = some ⟨.struct [(0, 38), (2, 3), (3, 24), (4, 3), (5, 9), (6, 9), (7, 3), (8, 38)], 10, 112, [.c (.int .i64 0), .c (.int .i64 0), .c (.int .i64 0), .nil, .c (.int .i64 0), .c (.str ⟨#[]⟩), .c (.str ⟨#[]⟩), .c (.int .i64 0), .c (.int .i64 0), .c (.int .i64 0)], false⟩ := by kernel_rfl
@[simp] theorem TryT_40 : List.lookup 40 TryT = some ⟨.struct [(0, 38), (2, 3), (3, 24), (4, 3), (5, 9), (6, 9), (7, 3), (8, 38)], 10, 112, [.c (.int .i64 0), .c (.int .i64 0), .c (.int .i64 0), .nil, .c (.int .i64 0), .c (.str ⟨#[]⟩), .c (.str ⟨#[]⟩), .c (.int .i64 0), .c (.int .i64 0), .c (.int .i64 0)], false⟩ := by kernel_rfl
@[simp] theorem TryT_41 : List.lookup 41 TryT = some ⟨.slice 117, 1, 24, [.nil], false⟩ := by kernel_rfl
@[simp] theorem TryT_42 : List.lookup 42 TryT = some ⟨.slice 120, 1, 24, [.nil], false⟩ := by kernel_rfl
@[simp] theorem TryT_43 : List.lookup 43 TryT = some ⟨.slice 122, 1, 24, [.nil], false⟩ := by kernel_rfl
@[simp] theorem TryT_44 : List.lookup 44 TryT = some ⟨.struct [(0, 24), (1, 24), (2, 41), (3, 42), (4, 36), (5, 43)], 6, 144, [.nil, .nil, .nil, .nil, .nil, .nil], false⟩ := by kernel_rfl
@[simp] theorem TryT_45 : List.lookup 45 TryT = some ⟨.struct [(0, 24), (1, 24), (2, 41), (3, 42), (4, 36), (5, 43)], 6, 144, [.nil, .nil, .nil, .nil, .nil, .nil], false⟩ := by kernel_rfl
@[simp] theorem TryT_46 : List.lookup 46 TryT = some ⟨.struct [(0, 4), (1, 40), (11, 45)], 17, 264, [.c (.bool false), .c (.int .i64 0), .c (.int .i64 0), .c (.int .i64 0), .nil, .c (.int .i64 0), .c (.str ⟨#[]⟩), .c (.str ⟨#[]⟩), .c (.int .i64 0), .c (.int .i64 0), .c (.int .i64 0), .nil, .nil, .nil, .nil, .nil, .nil], false⟩ := by kernel_rfl
@[simp] theorem TryT_47 : List.lookup 47 TryT = some ⟨.struct [(0, 4), (1, 40), (11, 45)], 17, 264, [.c (.bool false), .c (.int .i64 0), .c (.int .i64 0), .c (.int .i64 0), .nil, .c (.int .i64 0), .c (.str ⟨#[]⟩), .c (.str ⟨#[]⟩), .c (.int .i64 0), .c (.int .i64 0), .c (.int .i64 0), .nil, .nil, .nil, .nil, .nil, .nil], false⟩ := by kernel_rfl
@[simp] theorem TryT_54 : List.lookup 54 TryT = some ⟨.struct [(0, 24), (1, 41), (2, 42), (3, 43)], 4, 96, [.nil, .nil, .nil, .nil], false⟩ := by kernel_rfl
@[simp] theorem TryT_55 : List.lookup 55 TryT = some ⟨.struct [(0, 24), (1, 41), (2, 42), (3, 43)], 4, 96, [.nil, .nil, .nil, .nil], false⟩ := by kernel_rfl
@[simp] theorem TryT_77 : List.lookup 77 TryT = some ⟨.struct [(0, 9), (1, 3), (2, 4)], 3, 32, [.c (.str ⟨#[]⟩), .c (.int .i64 0), .c (.bool false)], true⟩ := by kernel_rfl
@[simp] theorem TryT_78 : List.lookup 78 TryT = some ⟨.struct [(0, 9), (1, 3), (2, 4)], 3, 32, [.c (.str ⟨#[]⟩), .c (.int .i64 0), .c (.bool false)], true⟩ := by kernel_rfl
@[simp] theorem TryT_85 : List.lookup 85 TryT = some ⟨.struct [(0, 9), (1, 3), (2, 4)], 3, 32, [.c (.str ⟨#[]⟩), .c (.int .i64 0), .c (.bool false)], true⟩ := by kernel_rfl
@[simp] theorem TryT_86 : List.lookup 86 TryT = some ⟨.struct [(0, 9), (1, 3), (2, 4)], 3, 32, [.c (.str ⟨#[]⟩), .c (.int .i64 0), .c (.bool false)], true⟩ := by kernel_rfl
@[simp] theorem TryT_113 : List.lookup 113 TryT = some ⟨.int .u32, 1, 4, [.c (.int .u32 0)], false⟩ := by kernel_rfl
@[simp] theorem TryT_116 : List.lookup 116 TryT = some ⟨.struct [(0, 9), (1, 3), (2, 3)], 3, 32, [.c (.str ⟨#[]⟩), .c (.int .i64 0), .c (.int .i64 0)], true⟩ := by kernel_rfl
@[simp] theorem TryT_117 : List.lookup 117 TryT = some ⟨.struct [(0, 9), (1, 3), (2, 3)], 3, 32, [.c (.str ⟨#[]⟩), .c (.int .i64 0), .c (.int .i64 0)], true⟩ := by kernel_rfl
@[simp] theorem TryT_119 : List.lookup 119 TryT = some ⟨.struct [(0, 4), (1, 9), (2, 9), (3, 3), (4, 38)], 6, 64, [.c (.bool false), .c (.str ⟨#[]⟩), .c (.str ⟨#[]⟩), .c (.int .i64 0), .c (.int .i64 0), .c (.int .i64 0)], true⟩ := by kernel_rfl
@[simp] theorem TryT_120 : List.lookup 120 TryT = some ⟨.struct [(0, 4), (1, 9), (2, 9), (3, 3), (4, 38)], 6, 64, [.c (.bool false), .c (.str ⟨#[]⟩), .c (.str ⟨#[]⟩), .c (.int .i64 0), .c (.int .i64 0), .c (.int .i64 0)], true⟩ := by kernel_rfl
@[simp] theorem TryT_121 : List.lookup 121 TryT = some ⟨.struct [(0, 9), (1, 38), (3, 3), (4, 38), (6, 3), (7, 4)], 8, 72, [.c (.str ⟨#[]⟩), .c (.int .i64 0), .c (.int .i64 0), .c (.int .i64 0), .c (.int .i64 0), .c (.int .i64 0), .c (.int .i64 0), .c (.bool false)], true⟩ := by kernel_rfl
@[simp] theorem TryT_122 : List.lookup 122 TryT = some ⟨.struct [(0, 9), (1, 38), (3, 3), (4, 38), (6, 3), (7, 4)], 8, 72, [.c (.str ⟨#[]⟩), .c (.int .i64 0), .c (.int .i64 0), .c (.int .i64 0), .c (.int .i64 0), .c (.int .i64 0), .c (.int .i64 0), .c (.bool false)], true⟩ := by kernel_rfl
@[simp] theorem TryT_140 : List.lookup 140 TryT = some ⟨.struct [(0, 9), (1, 3), (2, 3)], 3, 32, [.c (.str ⟨#[]⟩), .c (.int .i64 0), .c (.int .i64 0)], true⟩ := by kernel_rfl
@[simp] theorem TryT_142 : List.lookup 142 TryT = some ⟨.struct [(0, 4), (1, 9), (2, 9), (3, 3), (4, 23)], 6, 64, [.c (.bool false), .c (.str ⟨#[]⟩), .c (.str ⟨#[]⟩), .c (.int .i64 0), .c (.int .i64 0), .c (.int .i64 0)], true⟩ := by kernel_rfl
@[simp] theorem TryT_143 : List.lookup 143 TryT = some ⟨.struct [(0, 4), (1, 9), (2, 9), (3, 3), (4, 23)], 6, 64, [.c (.bool false), .c (.str ⟨#[]⟩), .c (.str ⟨#[]⟩), .c (.int .i64 0), .c (.int .i64 0), .c (.int .i64 0)], true⟩ := by kernel_rfl
@[simp] theorem TryT_145 : List.lookup 145 TryT = some ⟨.struct [(0, 9), (1, 23), (3, 3), (4, 23), (6, 3), (7, 4)], 8, 72, [.c (.str ⟨#[]⟩), .c (.int .i64 0), .c (.int .i64 0), .c (.int .i64 0), .c (.int .i64 0), .c (.int .i64 0), .c (.int .i64 0), .c (.bool false)], true⟩ := by kernel_rfl
@[simp] theorem TryT_146 : List.lookup 146 TryT = some ⟨.struct [(0, 9), (1, 23), (3, 3), (4, 23), (6, 3), (7, 4)], 8, 72, [.c (.str ⟨#[]⟩), .c (.int .i64 0), .c (.int .i64 0), .c (.int .i64 0), .c (.int .i64 0), .c (.int .i64 0), .c (.int .i64 0), .c (.bool false)], true⟩ := by kernel_rfl
@[simp] theorem TryT_154 : List.lookup 154 TryT = some ⟨.int .u64, 1, 8, [.c (.int .u64 0)], false⟩ := by kernel_rfl
@[simp] theorem TryT_155 : List.lookup 155 TryT = some ⟨.slice 5, 1, 24, [.nil], false⟩ := by kernel_rfl
@[simp] theorem TryT_175 : List.lookup 175 TryT = some ⟨.struct [(0, 174)], 0, 0, [], false⟩ := by kernel_rfl
@[simp] theorem TryT_176 : List.lookup 176 TryT = some ⟨.struct [(0, 174)], 0, 0, [], false⟩ := by kernel_rfl
@[simp] theorem TryT_177 : List.lookup 177 TryT = some ⟨.int .u8, 1, 1, [.c (.int .u8 0)], false⟩ := by kernel_rfl
@[simp] theorem TryT_178 : List.lookup 178 TryT = some ⟨.int .u8, 1, 1, [.c (.int .u8 0)], false⟩ := by kernel_rfl
@[simp] theorem TryT_181 : List.lookup 181 TryT = some ⟨.int .i32, 1, 4, [.c (.int .i32 0)], false⟩ := by kernel_rfl
@[simp] theorem TryT_182 : List.lookup 182 TryT = some ⟨.int .i32, 1, 4, [.c (.int .i32 0)], false⟩ := by kernel_rfl
end Am
