/- The types' table. No condition. -/
import Derived.Test.YtkndgnnfgdfcbaaGreatProg
import Derived.KernelRfl
import Derived.Test.YtkndgnnfgdfcbaaGreatL1
namespace Am
open Go Go.Proofs
def TryzT : Am.Ty := [
  (2, ⟨.int .i64, 1, 8, [.c (.int .i64 0)], false⟩),
  (3, ⟨.int .i64, 1, 8, [.c (.int .i64 0)], false⟩),
  (4, ⟨.bool, 1, 1, [.c (.bool false)], false⟩),
  (5, ⟨.int .u8, 1, 1, [.c (.int .u8 0)], false⟩),
  (6, ⟨.int .u8, 1, 1, [.c (.int .u8 0)], false⟩),
  (7, ⟨.struct [(0, 2), (1, 3), (2, 4), (3, 6)], 4, 24, [.c (.int .i64 0), .c (.int .i64 0), .c (.bool false), .c (.int .u8 0)], true⟩),
  (8, ⟨.struct [(0, 2), (1, 3), (2, 4), (3, 6)], 4, 24, [.c (.int .i64 0), .c (.int .i64 0), .c (.bool false), .c (.int .u8 0)], true⟩),
  (9, ⟨.str, 1, 16, [.c (.str ⟨#[]⟩)], false⟩),
  (10, ⟨.str, 1, 16, [.c (.str ⟨#[]⟩)], false⟩),
  (11, ⟨.str, 1, 16, [.c (.str ⟨#[]⟩)], false⟩),
  (12, ⟨.int .u64, 1, 8, [.c (.int .u64 0)], false⟩),
  (13, ⟨.struct [(0, 9), (1, 12)], 2, 24, [.c (.str ⟨#[]⟩), .c (.int .u64 0)], false⟩),
  (14, ⟨.struct [(0, 9), (1, 12)], 2, 24, [.c (.str ⟨#[]⟩), .c (.int .u64 0)], false⟩),
  (21, ⟨.int .i32, 1, 4, [.c (.int .i32 0)], false⟩),
  (22, ⟨.struct [(0, 3), (1, 3)], 2, 16, [.c (.int .i64 0), .c (.int .i64 0)], true⟩),
  (23, ⟨.struct [(0, 3), (1, 3)], 2, 16, [.c (.int .i64 0), .c (.int .i64 0)], true⟩),
  (24, ⟨.slice 3, 1, 24, [.nil], false⟩),
  (25, ⟨.struct [(0, 23), (2, 3), (3, 24), (4, 3), (5, 9), (6, 9), (7, 3), (8, 23)], 10, 112, [.c (.int .i64 0), .c (.int .i64 0), .c (.int .i64 0), .nil, .c (.int .i64 0), .c (.str ⟨#[]⟩), .c (.str ⟨#[]⟩), .c (.int .i64 0), .c (.int .i64 0), .c (.int .i64 0)], false⟩),
  (26, ⟨.struct [(0, 23), (2, 3), (3, 24), (4, 3), (5, 9), (6, 9), (7, 3), (8, 23)], 10, 112, [.c (.int .i64 0), .c (.int .i64 0), .c (.int .i64 0), .nil, .c (.int .i64 0), .c (.str ⟨#[]⟩), .c (.str ⟨#[]⟩), .c (.int .i64 0), .c (.int .i64 0), .c (.int .i64 0)], false⟩),
  (27, ⟨.slice 168, 1, 24, [.nil], false⟩),
  (28, ⟨.slice 171, 1, 24, [.nil], false⟩),
  (29, ⟨.slice 23, 1, 24, [.nil], false⟩),
  (30, ⟨.slice 174, 1, 24, [.nil], false⟩),
  (31, ⟨.struct [(0, 24), (1, 24), (2, 27), (3, 28), (4, 29), (5, 30)], 6, 144, [.nil, .nil, .nil, .nil, .nil, .nil], false⟩),
  (32, ⟨.struct [(0, 24), (1, 24), (2, 27), (3, 28), (4, 29), (5, 30)], 6, 144, [.nil, .nil, .nil, .nil, .nil, .nil], false⟩),
  (33, ⟨.struct [(0, 4), (1, 26), (11, 32)], 17, 264, [.c (.bool false), .c (.int .i64 0), .c (.int .i64 0), .c (.int .i64 0), .nil, .c (.int .i64 0), .c (.str ⟨#[]⟩), .c (.str ⟨#[]⟩), .c (.int .i64 0), .c (.int .i64 0), .c (.int .i64 0), .nil, .nil, .nil, .nil, .nil, .nil], false⟩),
  (34, ⟨.struct [(0, 4), (1, 26), (11, 32)], 17, 264, [.c (.bool false), .c (.int .i64 0), .c (.int .i64 0), .c (.int .i64 0), .nil, .c (.int .i64 0), .c (.str ⟨#[]⟩), .c (.str ⟨#[]⟩), .c (.int .i64 0), .c (.int .i64 0), .c (.int .i64 0), .nil, .nil, .nil, .nil, .nil, .nil], false⟩),
  (38, ⟨.struct [(0, 3), (1, 3)], 2, 16, [.c (.int .i64 0), .c (.int .i64 0)], true⟩),
  (39, ⟨.struct [(0, 38), (2, 3), (3, 24), (4, 3), (5, 9), (6, 9), (7, 3), (8, 38)], 10, 112, [.c (.int .i64 0), .c (.int .i64 0), .c (.int .i64 0), .nil, .c (.int .i64 0), .c (.str ⟨#[]⟩), .c (.str ⟨#[]⟩), .c (.int .i64 0), .c (.int .i64 0), .c (.int .i64 0)], false⟩),
  (40, ⟨.struct [(0, 38), (2, 3), (3, 24), (4, 3), (5, 9), (6, 9), (7, 3), (8, 38)], 10, 112, [.c (.int .i64 0), .c (.int .i64 0), .c (.int .i64 0), .nil, .c (.int .i64 0), .c (.str ⟨#[]⟩), .c (.str ⟨#[]⟩), .c (.int .i64 0), .c (.int .i64 0), .c (.int .i64 0)], false⟩),
  (41, ⟨.slice 146, 1, 24, [.nil], false⟩),
  (42, ⟨.slice 148, 1, 24, [.nil], false⟩),
  (43, ⟨.slice 38, 1, 24, [.nil], false⟩),
  (44, ⟨.slice 150, 1, 24, [.nil], false⟩),
  (45, ⟨.struct [(0, 24), (1, 24), (2, 41), (3, 42), (4, 43), (5, 44)], 6, 144, [.nil, .nil, .nil, .nil, .nil, .nil], false⟩),
  (46, ⟨.struct [(0, 24), (1, 24), (2, 41), (3, 42), (4, 43), (5, 44)], 6, 144, [.nil, .nil, .nil, .nil, .nil, .nil], false⟩),
  (47, ⟨.struct [(0, 4), (1, 40), (11, 46)], 17, 264, [.c (.bool false), .c (.int .i64 0), .c (.int .i64 0), .c (.int .i64 0), .nil, .c (.int .i64 0), .c (.str ⟨#[]⟩), .c (.str ⟨#[]⟩), .c (.int .i64 0), .c (.int .i64 0), .c (.int .i64 0), .nil, .nil, .nil, .nil, .nil, .nil], false⟩),
  (48, ⟨.struct [(0, 4), (1, 40), (11, 46)], 17, 264, [.c (.bool false), .c (.int .i64 0), .c (.int .i64 0), .c (.int .i64 0), .nil, .c (.int .i64 0), .c (.str ⟨#[]⟩), .c (.str ⟨#[]⟩), .c (.int .i64 0), .c (.int .i64 0), .c (.int .i64 0), .nil, .nil, .nil, .nil, .nil, .nil], false⟩),
  (52, ⟨.struct [(0, 24), (1, 27), (2, 28), (3, 30)], 4, 96, [.nil, .nil, .nil, .nil], false⟩),
  (53, ⟨.struct [(0, 24), (1, 27), (2, 28), (3, 30)], 4, 96, [.nil, .nil, .nil, .nil], false⟩),
  (54, ⟨.slice 34, 1, 24, [.nil], false⟩),
  (55, ⟨.struct [(0, 3), (1, 3), (2, 53), (6, 54), (7, 54)], 8, 160, [.c (.int .i64 0), .c (.int .i64 0), .nil, .nil, .nil, .nil, .nil, .nil], false⟩),
  (56, ⟨.struct [(0, 3), (1, 3), (2, 53), (6, 54), (7, 54)], 8, 160, [.c (.int .i64 0), .c (.int .i64 0), .nil, .nil, .nil, .nil, .nil, .nil], false⟩),
  (58, ⟨.slice 48, 1, 24, [.nil], false⟩),
  (60, ⟨.struct [(0, 24), (1, 41), (2, 42), (3, 44)], 4, 96, [.nil, .nil, .nil, .nil], false⟩),
  (61, ⟨.struct [(0, 24), (1, 41), (2, 42), (3, 44)], 4, 96, [.nil, .nil, .nil, .nil], false⟩),
  (62, ⟨.struct [(0, 3), (1, 3), (2, 61), (6, 58), (7, 58)], 8, 160, [.c (.int .i64 0), .c (.int .i64 0), .nil, .nil, .nil, .nil, .nil, .nil], false⟩),
  (63, ⟨.struct [(0, 3), (1, 3), (2, 61), (6, 58), (7, 58)], 8, 160, [.c (.int .i64 0), .c (.int .i64 0), .nil, .nil, .nil, .nil, .nil, .nil], false⟩),
  (123, ⟨.int .u32, 1, 4, [.c (.int .u32 0)], false⟩),
  (144, ⟨.slice 5, 1, 24, [.nil], false⟩),
  (145, ⟨.struct [(0, 9), (1, 3), (2, 3)], 3, 32, [.c (.str ⟨#[]⟩), .c (.int .i64 0), .c (.int .i64 0)], true⟩),
  (146, ⟨.struct [(0, 9), (1, 3), (2, 3)], 3, 32, [.c (.str ⟨#[]⟩), .c (.int .i64 0), .c (.int .i64 0)], true⟩),
  (147, ⟨.struct [(0, 4), (1, 9), (2, 9), (3, 3), (4, 38)], 6, 64, [.c (.bool false), .c (.str ⟨#[]⟩), .c (.str ⟨#[]⟩), .c (.int .i64 0), .c (.int .i64 0), .c (.int .i64 0)], true⟩),
  (148, ⟨.struct [(0, 4), (1, 9), (2, 9), (3, 3), (4, 38)], 6, 64, [.c (.bool false), .c (.str ⟨#[]⟩), .c (.str ⟨#[]⟩), .c (.int .i64 0), .c (.int .i64 0), .c (.int .i64 0)], true⟩),
  (149, ⟨.struct [(0, 9), (1, 38), (3, 3), (4, 38), (6, 3), (7, 4)], 8, 72, [.c (.str ⟨#[]⟩), .c (.int .i64 0), .c (.int .i64 0), .c (.int .i64 0), .c (.int .i64 0), .c (.int .i64 0), .c (.int .i64 0), .c (.bool false)], true⟩),
  (150, ⟨.struct [(0, 9), (1, 38), (3, 3), (4, 38), (6, 3), (7, 4)], 8, 72, [.c (.str ⟨#[]⟩), .c (.int .i64 0), .c (.int .i64 0), .c (.int .i64 0), .c (.int .i64 0), .c (.int .i64 0), .c (.int .i64 0), .c (.bool false)], true⟩),
  (154, ⟨.struct [(0, 9), (1, 3), (2, 4)], 3, 32, [.c (.str ⟨#[]⟩), .c (.int .i64 0), .c (.bool false)], true⟩),
  (155, ⟨.struct [(0, 9), (1, 3), (2, 4)], 3, 32, [.c (.str ⟨#[]⟩), .c (.int .i64 0), .c (.bool false)], true⟩),
  (164, ⟨.struct [(0, 9), (1, 3), (2, 4)], 3, 32, [.c (.str ⟨#[]⟩), .c (.int .i64 0), .c (.bool false)], true⟩),
  (165, ⟨.struct [(0, 9), (1, 3), (2, 4)], 3, 32, [.c (.str ⟨#[]⟩), .c (.int .i64 0), .c (.bool false)], true⟩),
  (168, ⟨.struct [(0, 9), (1, 3), (2, 3)], 3, 32, [.c (.str ⟨#[]⟩), .c (.int .i64 0), .c (.int .i64 0)], true⟩),
  (170, ⟨.struct [(0, 4), (1, 9), (2, 9), (3, 3), (4, 23)], 6, 64, [.c (.bool false), .c (.str ⟨#[]⟩), .c (.str ⟨#[]⟩), .c (.int .i64 0), .c (.int .i64 0), .c (.int .i64 0)], true⟩),
  (171, ⟨.struct [(0, 4), (1, 9), (2, 9), (3, 3), (4, 23)], 6, 64, [.c (.bool false), .c (.str ⟨#[]⟩), .c (.str ⟨#[]⟩), .c (.int .i64 0), .c (.int .i64 0), .c (.int .i64 0)], true⟩),
  (173, ⟨.struct [(0, 9), (1, 23), (3, 3), (4, 23), (6, 3), (7, 4)], 8, 72, [.c (.str ⟨#[]⟩), .c (.int .i64 0), .c (.int .i64 0), .c (.int .i64 0), .c (.int .i64 0), .c (.int .i64 0), .c (.int .i64 0), .c (.bool false)], true⟩),
  (174, ⟨.struct [(0, 9), (1, 23), (3, 3), (4, 23), (6, 3), (7, 4)], 8, 72, [.c (.str ⟨#[]⟩), .c (.int .i64 0), .c (.int .i64 0), .c (.int .i64 0), .c (.int .i64 0), .c (.int .i64 0), .c (.int .i64 0), .c (.bool false)], true⟩),
  (181, ⟨.int .u64, 1, 8, [.c (.int .u64 0)], false⟩),
  (189, ⟨.slice 9, 1, 24, [.nil], false⟩),
  (202, ⟨.struct [(0, 201)], 0, 0, [], false⟩),
  (203, ⟨.struct [(0, 201)], 0, 0, [], false⟩),
  (204, ⟨.int .u8, 1, 1, [.c (.int .u8 0)], false⟩),
  (205, ⟨.int .u8, 1, 1, [.c (.int .u8 0)], false⟩),
  (208, ⟨.int .i32, 1, 4, [.c (.int .i32 0)], false⟩),
  (209, ⟨.int .i32, 1, 4, [.c (.int .i32 0)], false⟩)]
theorem TryzT_ok : TyOK Tryz.prog TryzT := ⟨by kernel_rfl, by kernel_rfl⟩
@[simp] theorem TryzT_2 : List.lookup 2 TryzT = some ⟨.int .i64, 1, 8, [.c (.int .i64 0)], false⟩ := by kernel_rfl
@[simp] theorem TryzT_3 : List.lookup 3 TryzT = some ⟨.int .i64, 1, 8, [.c (.int .i64 0)], false⟩ := by kernel_rfl
@[simp] theorem TryzT_4 : List.lookup 4 TryzT = some ⟨.bool, 1, 1, [.c (.bool false)], false⟩ := by kernel_rfl
@[simp] theorem TryzT_5 : List.lookup 5 TryzT = some ⟨.int .u8, 1, 1, [.c (.int .u8 0)], false⟩ := by kernel_rfl
@[simp] theorem TryzT_6 : List.lookup 6 TryzT = some ⟨.int .u8, 1, 1, [.c (.int .u8 0)], false⟩ := by kernel_rfl
@[simp] theorem TryzT_7 : List.lookup 7 TryzT = some ⟨.struct [(0, 2), (1, 3), (2, 4), (3, 6)], 4, 24, [.c (.int .i64 0), .c (.int .i64 0), .c (.bool false), .c (.int .u8 0)], true⟩ := by kernel_rfl
@[simp] theorem TryzT_8 : List.lookup 8 TryzT = some ⟨.struct [(0, 2), (1, 3), (2, 4), (3, 6)], 4, 24, [.c (.int .i64 0), .c (.int .i64 0), .c (.bool false), .c (.int .u8 0)], true⟩ := by kernel_rfl
@[simp] theorem TryzT_9 : List.lookup 9 TryzT = some ⟨.str, 1, 16, [.c (.str ⟨#[]⟩)], false⟩ := by kernel_rfl
@[simp] theorem TryzT_10 : List.lookup 10 TryzT = some ⟨.str, 1, 16, [.c (.str ⟨#[]⟩)], false⟩ := by kernel_rfl
@[simp] theorem TryzT_11 : List.lookup 11 TryzT = some ⟨.str, 1, 16, [.c (.str ⟨#[]⟩)], false⟩ := by kernel_rfl
@[simp] theorem TryzT_12 : List.lookup 12 TryzT = some ⟨.int .u64, 1, 8, [.c (.int .u64 0)], false⟩ := by kernel_rfl
@[simp] theorem TryzT_13 : List.lookup 13 TryzT = some ⟨.struct [(0, 9), (1, 12)], 2, 24, [.c (.str ⟨#[]⟩), .c (.int .u64 0)], false⟩ := by kernel_rfl
@[simp] theorem TryzT_14 : List.lookup 14 TryzT = some ⟨.struct [(0, 9), (1, 12)], 2, 24, [.c (.str ⟨#[]⟩), .c (.int .u64 0)], false⟩ := by kernel_rfl
@[simp] theorem TryzT_21 : List.lookup 21 TryzT = some ⟨.int .i32, 1, 4, [.c (.int .i32 0)], false⟩ := by kernel_rfl
@[simp] theorem TryzT_22 : List.lookup 22 TryzT = some ⟨.struct [(0, 3), (1, 3)], 2, 16, [.c (.int .i64 0), .c (.int .i64 0)], true⟩ := by kernel_rfl
@[simp] theorem TryzT_23 : List.lookup 23 TryzT = some ⟨.struct [(0, 3), (1, 3)], 2, 16, [.c (.int .i64 0), .c (.int .i64 0)], true⟩ := by kernel_rfl
@[simp] theorem TryzT_24 : List.lookup 24 TryzT = some ⟨.slice 3, 1, 24, [.nil], false⟩ := by kernel_rfl
@[simp] theorem TryzT_25 : List.lookup 25 TryzT = some ⟨.struct [(0, 23), (2, 3), (3, 24), (4, 3), (5, 9), (6, 9), (7, 3), (8, 23)], 10, 112, [.c (.int .i64 0), .c (.int .i64 0), .c (.int .i64 0), .nil, .c (.int .i64 0), .c (.str ⟨#[]⟩), .c (.str ⟨#[]⟩), .c (.int .i64 0), .c (.int .i64 0), .c (.int .i64 0)], false⟩ := by kernel_rfl
@[simp] theorem TryzT_26 : List.lookup 26 TryzT = some ⟨.struct [(0, 23), (2, 3), (3, 24), (4, 3), (5, 9), (6, 9), (7, 3), (8, 23)], 10, 112, [.c (.int .i64 0), .c (.int .i64 0), .c (.int .i64 0), .nil, .c (.int .i64 0), .c (.str ⟨#[]⟩), .c (.str ⟨#[]⟩), .c (.int .i64 0), .c (.int .i64 0), .c (.int .i64 0)], false⟩ := by kernel_rfl
@[simp] theorem TryzT_27 : List.lookup 27 TryzT = some ⟨.slice 168, 1, 24, [.nil], false⟩ := by kernel_rfl
@[simp] theorem TryzT_28 : List.lookup 28 TryzT = some ⟨.slice 171, 1, 24, [.nil], false⟩ := by kernel_rfl
@[simp] theorem TryzT_29 : List.lookup 29 TryzT = some ⟨.slice 23, 1, 24, [.nil], false⟩ := by kernel_rfl
@[simp] theorem TryzT_30 : List.lookup 30 TryzT = some ⟨.slice 174, 1, 24, [.nil], false⟩ := by kernel_rfl
@[simp] theorem TryzT_31 : List.lookup 31 TryzT = some ⟨.struct [(0, 24), (1, 24), (2, 27), (3, 28), (4, 29), (5, 30)], 6, 144, [.nil, .nil, .nil, .nil, .nil, .nil], false⟩ := by kernel_rfl
@[simp] theorem TryzT_32 : List.lookup 32 TryzT = some ⟨.struct [(0, 24), (1, 24), (2, 27), (3, 28), (4, 29), (5, 30)], 6, 144, [.nil, .nil, .nil, .nil, .nil, .nil], false⟩ := by kernel_rfl
@[simp] theorem TryzT_33 : List.lookup 33 TryzT = some ⟨.struct [(0, 4), (1, 26), (11, 32)], 17, 264, [.c (.bool false), .c (.int .i64 0), .c (.int .i64 0), .c (.int .i64 0), .nil, .c (.int .i64 0), .c (.str ⟨#[]⟩), .c (.str ⟨#[]⟩), .c (.int .i64 0), .c (.int .i64 0), .c (.int .i64 0), .nil, .nil, .nil, .nil, .nil, .nil], false⟩ := by kernel_rfl
@[simp] theorem TryzT_34 : List.lookup 34 TryzT = some ⟨.struct [(0, 4), (1, 26), (11, 32)], 17, 264, [.c (.bool false), .c (.int .i64 0), .c (.int .i64 0), .c (.int .i64 0), .nil, .c (.int .i64 0), .c (.str ⟨#[]⟩), .c (.str ⟨#[]⟩), .c (.int .i64 0), .c (.int .i64 0), .c (.int .i64 0), .nil, .nil, .nil, .nil, .nil, .nil], false⟩ := by kernel_rfl
@[simp] theorem TryzT_38 : List.lookup 38 TryzT = some ⟨.struct [(0, 3), (1, 3)], 2, 16, [.c (.int .i64 0), .c (.int .i64 0)], true⟩ := by kernel_rfl
@[simp] theorem TryzT_39 : List.lookup 39 TryzT = some ⟨.struct [(0, 38), (2, 3), (3, 24), (4, 3), (5, 9), (6, 9), (7, 3), (8, 38)], 10, 112, [.c (.int .i64 0), .c (.int .i64 0), .c (.int .i64 0), .nil, .c (.int .i64 0), .c (.str ⟨#[]⟩), .c (.str ⟨#[]⟩), .c (.int .i64 0), .c (.int .i64 0), .c (.int .i64 0)], false⟩ := by kernel_rfl
@[simp] theorem TryzT_40 : List.lookup 40 TryzT = some ⟨.struct [(0, 38), (2, 3), (3, 24), (4, 3), (5, 9), (6, 9), (7, 3), (8, 38)], 10, 112, [.c (.int .i64 0), .c (.int .i64 0), .c (.int .i64 0), .nil, .c (.int .i64 0), .c (.str ⟨#[]⟩), .c (.str ⟨#[]⟩), .c (.int .i64 0), .c (.int .i64 0), .c (.int .i64 0)], false⟩ := by kernel_rfl
@[simp] theorem TryzT_41 : List.lookup 41 TryzT = some ⟨.slice 146, 1, 24, [.nil], false⟩ := by kernel_rfl
@[simp] theorem TryzT_42 : List.lookup 42 TryzT = some ⟨.slice 148, 1, 24, [.nil], false⟩ := by kernel_rfl
@[simp] theorem TryzT_43 : List.lookup 43 TryzT = some ⟨.slice 38, 1, 24, [.nil], false⟩ := by kernel_rfl
@[simp] theorem TryzT_44 : List.lookup 44 TryzT = some ⟨.slice 150, 1, 24, [.nil], false⟩ := by kernel_rfl
@[simp] theorem TryzT_45 : List.lookup 45 TryzT = some ⟨.struct [(0, 24), (1, 24), (2, 41), (3, 42), (4, 43), (5, 44)], 6, 144, [.nil, .nil, .nil, .nil, .nil, .nil], false⟩ := by kernel_rfl
@[simp] theorem TryzT_46 : List.lookup 46 TryzT = some ⟨.struct [(0, 24), (1, 24), (2, 41), (3, 42), (4, 43), (5, 44)], 6, 144, [.nil, .nil, .nil, .nil, .nil, .nil], false⟩ := by kernel_rfl
@[simp] theorem TryzT_47 : List.lookup 47 TryzT = some ⟨.struct [(0, 4), (1, 40), (11, 46)], 17, 264, [.c (.bool false), .c (.int .i64 0), .c (.int .i64 0), .c (.int .i64 0), .nil, .c (.int .i64 0), .c (.str ⟨#[]⟩), .c (.str ⟨#[]⟩), .c (.int .i64 0), .c (.int .i64 0), .c (.int .i64 0), .nil, .nil, .nil, .nil, .nil, .nil], false⟩ := by kernel_rfl
@[simp] theorem TryzT_48 : List.lookup 48 TryzT = some ⟨.struct [(0, 4), (1, 40), (11, 46)], 17, 264, [.c (.bool false), .c (.int .i64 0), .c (.int .i64 0), .c (.int .i64 0), .nil, .c (.int .i64 0), .c (.str ⟨#[]⟩), .c (.str ⟨#[]⟩), .c (.int .i64 0), .c (.int .i64 0), .c (.int .i64 0), .nil, .nil, .nil, .nil, .nil, .nil], false⟩ := by kernel_rfl
@[simp] theorem TryzT_52 : List.lookup 52 TryzT = some ⟨.struct [(0, 24), (1, 27), (2, 28), (3, 30)], 4, 96, [.nil, .nil, .nil, .nil], false⟩ := by kernel_rfl
@[simp] theorem TryzT_53 : List.lookup 53 TryzT = some ⟨.struct [(0, 24), (1, 27), (2, 28), (3, 30)], 4, 96, [.nil, .nil, .nil, .nil], false⟩ := by kernel_rfl
@[simp] theorem TryzT_54 : List.lookup 54 TryzT = some ⟨.slice 34, 1, 24, [.nil], false⟩ := by kernel_rfl
@[simp] theorem TryzT_55 : List.lookup 55 TryzT = some ⟨.struct [(0, 3), (1, 3), (2, 53), (6, 54), (7, 54)], 8, 160, [.c (.int .i64 0), .c (.int .i64 0), .nil, .nil, .nil, .nil, .nil, .nil], false⟩ := by kernel_rfl
@[simp] theorem TryzT_56 : List.lookup 56 TryzT = some ⟨.struct [(0, 3), (1, 3), (2, 53), (6, 54), (7, 54)], 8, 160, [.c (.int .i64 0), .c (.int .i64 0), .nil, .nil, .nil, .nil, .nil, .nil], false⟩ := by kernel_rfl
@[simp] theorem TryzT_58 : List.lookup 58 TryzT = some ⟨.slice 48, 1, 24, [.nil], false⟩ := by kernel_rfl
@[simp] theorem TryzT_60 : List.lookup 60 TryzT = some ⟨.struct [(0, 24), (1, 41), (2, 42), (3, 44)], 4, 96, [.nil, .nil, .nil, .nil], false⟩ := by kernel_rfl
@[simp] theorem TryzT_61 : List.lookup 61 TryzT = some ⟨.struct [(0, 24), (1, 41), (2, 42), (3, 44)], 4, 96, [.nil, .nil, .nil, .nil], false⟩ := by kernel_rfl
@[simp] theorem TryzT_62 : List.lookup 62 TryzT = some ⟨.struct [(0, 3), (1, 3), (2, 61), (6, 58), (7, 58)], 8, 160, [.c (.int .i64 0), .c (.int .i64 0), .nil, .nil, .nil, .nil, .nil, .nil], false⟩ := by kernel_rfl
@[simp] theorem TryzT_63 : List.lookup 63 TryzT = some ⟨.struct [(0, 3), (1, 3), (2, 61), (6, 58), (7, 58)], 8, 160, [.c (.int .i64 0), .c (.int .i64 0), .nil, .nil, .nil, .nil, .nil, .nil], false⟩ := by kernel_rfl
@[simp] theorem TryzT_123 : List.lookup 123 TryzT = some ⟨.int .u32, 1, 4, [.c (.int .u32 0)], false⟩ := by kernel_rfl
@[simp] theorem TryzT_144 : List.lookup 144 TryzT = some ⟨.slice 5, 1, 24, [.nil], false⟩ := by kernel_rfl
@[simp] theorem TryzT_145 : List.lookup 145 TryzT = some ⟨.struct [(0, 9), (1, 3), (2, 3)], 3, 32, [.c (.str ⟨#[]⟩), .c (.int .i64 0), .c (.int .i64 0)], true⟩ := by kernel_rfl
@[simp] theorem TryzT_146 : List.lookup 146 TryzT = some ⟨.struct [(0, 9), (1, 3), (2, 3)], 3, 32, [.c (.str ⟨#[]⟩), .c (.int .i64 0), .c (.int .i64 0)], true⟩ := by kernel_rfl
@[simp] theorem TryzT_147 : List.lookup 147 TryzT = some ⟨.struct [(0, 4), (1, 9), (2, 9), (3, 3), (4, 38)], 6, 64, [.c (.bool false), .c (.str ⟨#[]⟩), .c (.str ⟨#[]⟩), .c (.int .i64 0), .c (.int .i64 0), .c (.int .i64 0)], true⟩ := by kernel_rfl
@[simp] theorem TryzT_148 : List.lookup 148 TryzT = some ⟨.struct [(0, 4), (1, 9), (2, 9), (3, 3), (4, 38)], 6, 64, [.c (.bool false), .c (.str ⟨#[]⟩), .c (.str ⟨#[]⟩), .c (.int .i64 0), .c (.int .i64 0), .c (.int .i64 0)], true⟩ := by kernel_rfl
@[simp] theorem TryzT_149 : List.lookup 149 TryzT = some ⟨.struct [(0, 9), (1, 38), (3, 3), (4, 38), (6, 3), (7, 4)], 8, 72, [.c (.str ⟨#[]⟩), .c (.int .i64 0), .c (.int .i64 0), .c (.int .i64 0), .c (.int .i64 0), .c (.int .i64 0), .c (.int .i64 0), .c (.bool false)], true⟩ := by kernel_rfl
@[simp] theorem TryzT_150 : List.lookup 150 TryzT = some ⟨.struct [(0, 9), (1, 38), (3, 3), (4, 38), (6, 3), (7, 4)], 8, 72, [.c (.str ⟨#[]⟩), .c (.int .i64 0), .c (.int .i64 0), .c (.int .i64 0), .c (.int .i64 0), .c (.int .i64 0), .c (.int .i64 0), .c (.bool false)], true⟩ := by kernel_rfl
@[simp] theorem TryzT_154 : List.lookup 154 TryzT = some ⟨.struct [(0, 9), (1, 3), (2, 4)], 3, 32, [.c (.str ⟨#[]⟩), .c (.int .i64 0), .c (.bool false)], true⟩ := by kernel_rfl
@[simp] theorem TryzT_155 : List.lookup 155 TryzT = some ⟨.struct [(0, 9), (1, 3), (2, 4)], 3, 32, [.c (.str ⟨#[]⟩), .c (.int .i64 0), .c (.bool false)], true⟩ := by kernel_rfl
@[simp] theorem TryzT_164 : List.lookup 164 TryzT = some ⟨.struct [(0, 9), (1, 3), (2, 4)], 3, 32, [.c (.str ⟨#[]⟩), .c (.int .i64 0), .c (.bool false)], true⟩ := by kernel_rfl
@[simp] theorem TryzT_165 : List.lookup 165 TryzT = some ⟨.struct [(0, 9), (1, 3), (2, 4)], 3, 32, [.c (.str ⟨#[]⟩), .c (.int .i64 0), .c (.bool false)], true⟩ := by kernel_rfl
@[simp] theorem TryzT_168 : List.lookup 168 TryzT = some ⟨.struct [(0, 9), (1, 3), (2, 3)], 3, 32, [.c (.str ⟨#[]⟩), .c (.int .i64 0), .c (.int .i64 0)], true⟩ := by kernel_rfl
@[simp] theorem TryzT_170 : List.lookup 170 TryzT = some ⟨.struct [(0, 4), (1, 9), (2, 9), (3, 3), (4, 23)], 6, 64, [.c (.bool false), .c (.str ⟨#[]⟩), .c (.str ⟨#[]⟩), .c (.int .i64 0), .c (.int .i64 0), .c (.int .i64 0)], true⟩ := by kernel_rfl
@[simp] theorem TryzT_171 : List.lookup 171 TryzT = some ⟨.struct [(0, 4), (1, 9), (2, 9), (3, 3), (4, 23)], 6, 64, [.c (.bool false), .c (.str ⟨#[]⟩), .c (.str ⟨#[]⟩), .c (.int .i64 0), .c (.int .i64 0), .c (.int .i64 0)], true⟩ := by kernel_rfl
@[simp] theorem TryzT_173 : List.lookup 173 TryzT = some ⟨.struct [(0, 9), (1, 23), (3, 3), (4, 23), (6, 3), (7, 4)], 8, 72, [.c (.str ⟨#[]⟩), .c (.int .i64 0), .c (.int .i64 0), .c (.int .i64 0), .c (.int .i64 0), .c (.int .i64 0), .c (.int .i64 0), .c (.bool false)], true⟩ := by kernel_rfl
@[simp] theorem TryzT_174 : List.lookup 174 TryzT = some ⟨.struct [(0, 9), (1, 23), (3, 3), (4, 23), (6, 3), (7, 4)], 8, 72, [.c (.str ⟨#[]⟩), .c (.int .i64 0), .c (.int .i64 0), .c (.int .i64 0), .c (.int .i64 0), .c (.int .i64 0), .c (.int .i64 0), .c (.bool false)], true⟩ := by kernel_rfl
@[simp] theorem TryzT_181 : List.lookup 181 TryzT = some ⟨.int .u64, 1, 8, [.c (.int .u64 0)], false⟩ := by kernel_rfl
@[simp] theorem TryzT_189 : List.lookup 189 TryzT = some ⟨.slice 9, 1, 24, [.nil], false⟩ := by kernel_rfl
@[simp] theorem TryzT_202 : List.lookup 202 TryzT = some ⟨.struct [(0, 201)], 0, 0, [], false⟩ := by kernel_rfl
@[simp] theorem TryzT_203 : List.lookup 203 TryzT = some ⟨.struct [(0, 201)], 0, 0, [], false⟩ := by kernel_rfl
@[simp] theorem TryzT_204 : List.lookup 204 TryzT = some ⟨.int .u8, 1, 1, [.c (.int .u8 0)], false⟩ := by kernel_rfl
@[simp] theorem TryzT_205 : List.lookup 205 TryzT = some ⟨.int .u8, 1, 1, [.c (.int .u8 0)], false⟩ := by kernel_rfl
@[simp] theorem TryzT_208 : List.lookup 208 TryzT = some ⟨.int .i32, 1, 4, [.c (.int .i32 0)], false⟩ := by kernel_rfl
@[simp] theorem TryzT_209 : List.lookup 209 TryzT = some ⟨.int .i32, 1, 4, [.c (.int .i32 0)], false⟩ := by kernel_rfl
end Am
