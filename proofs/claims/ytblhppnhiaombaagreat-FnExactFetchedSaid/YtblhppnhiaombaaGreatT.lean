/- The types' table. No condition. -/
import Derived.Test.YtblhppnhiaombaaGreatProg
import Derived.KernelRfl
import Derived.Test.YtblhppnhiaombaaGreatL1
namespace Am
open Go Go.Proofs
def TryzT : Am.Ty := [
  (2, ⟨.int .i64, 1, 8, [.c (.int .i64 0)], false⟩),
  (3, ⟨.int .i64, 1, 8, [.c (.int .i64 0)], false⟩),
  (4, ⟨.bool, 1, 1, [.c (.bool false)], false⟩),
  (5, ⟨.int .u8, 1, 1, [.c (.int .u8 0)], false⟩),
  (6, ⟨.int .u8, 1, 1, [.c (.int .u8 0)], false⟩),
  (7, ⟨.struct [(0, 2), (1, 3), (2, 4), (3, 6)], 4, 24, [.c (.int .i64 0), .c (.int .i64 0), .c (.bool false), .c (.int .u8 0)], true⟩),
  (8, ⟨.struct [(0, 2), (1, 3), (2, 4), (3, 6)], 4, 24, [.c (.int .i64 0), .c (.int .i64 0), .c (.bool false), .c (.int .u8 0)], true⟩),
  (9, ⟨.str, 1, 16, [.c (.str ⟨#[]⟩)], false⟩),
  (10, ⟨.str, 1, 16, [.c (.str ⟨#[]⟩)], false⟩),
  (11, ⟨.str, 1, 16, [.c (.str ⟨#[]⟩)], false⟩),
  (12, ⟨.int .u64, 1, 8, [.c (.int .u64 0)], false⟩),
  (13, ⟨.struct [(0, 9), (1, 12)], 2, 24, [.c (.str ⟨#[]⟩), .c (.int .u64 0)], false⟩),
  (14, ⟨.struct [(0, 9), (1, 12)], 2, 24, [.c (.str ⟨#[]⟩), .c (.int .u64 0)], false⟩),
  (21, ⟨.int .i32, 1, 4, [.c (.int .i32 0)], false⟩),
  (22, ⟨.slice 3, 1, 24, [.nil], false⟩),
  (23, ⟨.slice 163, 1, 24, [.nil], false⟩),
  (24, ⟨.slice 166, 1, 24, [.nil], false⟩),
  (25, ⟨.slice 169, 1, 24, [.nil], false⟩),
  (26, ⟨.struct [(0, 22), (1, 23), (2, 24), (3, 25)], 4, 96, [.nil, .nil, .nil, .nil], false⟩),
  (27, ⟨.struct [(0, 22), (1, 23), (2, 24), (3, 25)], 4, 96, [.nil, .nil, .nil, .nil], false⟩),
  (28, ⟨.struct [(0, 3), (1, 3)], 2, 16, [.c (.int .i64 0), .c (.int .i64 0)], true⟩),
  (29, ⟨.struct [(0, 3), (1, 3)], 2, 16, [.c (.int .i64 0), .c (.int .i64 0)], true⟩),
  (30, ⟨.struct [(0, 29), (2, 3), (3, 22), (4, 3), (5, 9), (6, 9), (7, 3), (8, 29)], 10, 112, [.c (.int .i64 0), .c (.int .i64 0), .c (.int .i64 0), .nil, .c (.int .i64 0), .c (.str ⟨#[]⟩), .c (.str ⟨#[]⟩), .c (.int .i64 0), .c (.int .i64 0), .c (.int .i64 0)], false⟩),
  (31, ⟨.struct [(0, 29), (2, 3), (3, 22), (4, 3), (5, 9), (6, 9), (7, 3), (8, 29)], 10, 112, [.c (.int .i64 0), .c (.int .i64 0), .c (.int .i64 0), .nil, .c (.int .i64 0), .c (.str ⟨#[]⟩), .c (.str ⟨#[]⟩), .c (.int .i64 0), .c (.int .i64 0), .c (.int .i64 0)], false⟩),
  (32, ⟨.slice 29, 1, 24, [.nil], false⟩),
  (33, ⟨.struct [(0, 22), (1, 22), (2, 23), (3, 24), (4, 32), (5, 25)], 6, 144, [.nil, .nil, .nil, .nil, .nil, .nil], false⟩),
  (34, ⟨.struct [(0, 22), (1, 22), (2, 23), (3, 24), (4, 32), (5, 25)], 6, 144, [.nil, .nil, .nil, .nil, .nil, .nil], false⟩),
  (35, ⟨.struct [(0, 4), (1, 31), (11, 34)], 17, 264, [.c (.bool false), .c (.int .i64 0), .c (.int .i64 0), .c (.int .i64 0), .nil, .c (.int .i64 0), .c (.str ⟨#[]⟩), .c (.str ⟨#[]⟩), .c (.int .i64 0), .c (.int .i64 0), .c (.int .i64 0), .nil, .nil, .nil, .nil, .nil, .nil], false⟩),
  (36, ⟨.struct [(0, 4), (1, 31), (11, 34)], 17, 264, [.c (.bool false), .c (.int .i64 0), .c (.int .i64 0), .c (.int .i64 0), .nil, .c (.int .i64 0), .c (.str ⟨#[]⟩), .c (.str ⟨#[]⟩), .c (.int .i64 0), .c (.int .i64 0), .c (.int .i64 0), .nil, .nil, .nil, .nil, .nil, .nil], false⟩),
  (39, ⟨.slice 179, 1, 24, [.nil], false⟩),
  (40, ⟨.slice 182, 1, 24, [.nil], false⟩),
  (41, ⟨.slice 185, 1, 24, [.nil], false⟩),
  (42, ⟨.struct [(0, 22), (1, 39), (2, 40), (3, 41)], 4, 96, [.nil, .nil, .nil, .nil], false⟩),
  (43, ⟨.struct [(0, 22), (1, 39), (2, 40), (3, 41)], 4, 96, [.nil, .nil, .nil, .nil], false⟩),
  (47, ⟨.struct [(0, 3), (1, 3)], 2, 16, [.c (.int .i64 0), .c (.int .i64 0)], true⟩),
  (48, ⟨.struct [(0, 47), (2, 3), (3, 22), (4, 3), (5, 9), (6, 9), (7, 3), (8, 47)], 10, 112, [.c (.int .i64 0), .c (.int .i64 0), .c (.int .i64 0), .nil, .c (.int .i64 0), .c (.str ⟨#[]⟩), .c (.str ⟨#[]⟩), .c (.int .i64 0), .c (.int .i64 0), .c (.int .i64 0)], false⟩),
  (49, ⟨.struct [(0, 47), (2, 3), (3, 22), (4, 3), (5, 9), (6, 9), (7, 3), (8, 47)], 10, 112, [.c (.int .i64 0), .c (.int .i64 0), .c (.int .i64 0), .nil, .c (.int .i64 0), .c (.str ⟨#[]⟩), .c (.str ⟨#[]⟩), .c (.int .i64 0), .c (.int .i64 0), .c (.int .i64 0)], false⟩),
  (50, ⟨.slice 47, 1, 24, [.nil], false⟩),
  (51, ⟨.struct [(0, 22), (1, 22), (2, 39), (3, 40), (4, 50), (5, 41)], 6, 144, [.nil, .nil, .nil, .nil, .nil, .nil], false⟩),
  (52, ⟨.struct [(0, 22), (1, 22), (2, 39), (3, 40), (4, 50), (5, 41)], 6, 144, [.nil, .nil, .nil, .nil, .nil, .nil], false⟩),
  (53, ⟨.struct [(0, 4), (1, 49), (11, 52)], 17, 264, [.c (.bool false), .c (.int .i64 0), .c (.int .i64 0), .c (.int .i64 0), .nil, .c (.int .i64 0), .c (.str ⟨#[]⟩), .c (.str ⟨#[]⟩), .c (.int .i64 0), .c (.int .i64 0), .c (.int .i64 0), .nil, .nil, .nil, .nil, .nil, .nil], false⟩),
  (54, ⟨.struct [(0, 4), (1, 49), (11, 52)], 17, 264, [.c (.bool false), .c (.int .i64 0), .c (.int .i64 0), .c (.int .i64 0), .nil, .c (.int .i64 0), .c (.str ⟨#[]⟩), .c (.str ⟨#[]⟩), .c (.int .i64 0), .c (.int .i64 0), .c (.int .i64 0), .nil, .nil, .nil, .nil, .nil, .nil], false⟩),
  (61, ⟨.slice 210, 1, 24, [.nil], false⟩),
  (62, ⟨.struct [(0, 61), (1, 3)], 2, 32, [.nil, .c (.int .i64 0)], false⟩),
  (63, ⟨.struct [(0, 61), (1, 3)], 2, 32, [.nil, .c (.int .i64 0)], false⟩),
  (66, ⟨.slice 129, 1, 24, [.nil], false⟩),
  (67, ⟨.struct [(0, 66), (1, 3)], 2, 32, [.nil, .c (.int .i64 0)], false⟩),
  (68, ⟨.struct [(0, 66), (1, 3)], 2, 32, [.nil, .c (.int .i64 0)], false⟩),
  (73, ⟨.slice 36, 1, 24, [.nil], false⟩),
  (74, ⟨.struct [(0, 3), (1, 3), (2, 27), (6, 73), (7, 73)], 8, 160, [.c (.int .i64 0), .c (.int .i64 0), .nil, .nil, .nil, .nil, .nil, .nil], false⟩),
  (75, ⟨.struct [(0, 3), (1, 3), (2, 27), (6, 73), (7, 73)], 8, 160, [.c (.int .i64 0), .c (.int .i64 0), .nil, .nil, .nil, .nil, .nil, .nil], false⟩),
  (78, ⟨.slice 54, 1, 24, [.nil], false⟩),
  (79, ⟨.struct [(0, 3), (1, 3), (2, 43), (6, 78), (7, 78)], 8, 160, [.c (.int .i64 0), .c (.int .i64 0), .nil, .nil, .nil, .nil, .nil, .nil], false⟩),
  (80, ⟨.struct [(0, 3), (1, 3), (2, 43), (6, 78), (7, 78)], 8, 160, [.c (.int .i64 0), .c (.int .i64 0), .nil, .nil, .nil, .nil, .nil, .nil], false⟩),
  (91, ⟨.struct [(0, 3), (1, 9), (2, 9), (3, 3), (4, 3)], 5, 56, [.c (.int .i64 0), .c (.str ⟨#[]⟩), .c (.str ⟨#[]⟩), .c (.int .i64 0), .c (.int .i64 0)], true⟩),
  (92, ⟨.struct [(0, 3), (1, 9), (2, 9), (3, 3), (4, 3)], 5, 56, [.c (.int .i64 0), .c (.str ⟨#[]⟩), .c (.str ⟨#[]⟩), .c (.int .i64 0), .c (.int .i64 0)], true⟩),
  (96, ⟨.struct [(0, 3), (1, 9), (2, 9), (3, 3), (4, 3)], 5, 56, [.c (.int .i64 0), .c (.str ⟨#[]⟩), .c (.str ⟨#[]⟩), .c (.int .i64 0), .c (.int .i64 0)], true⟩),
  (128, ⟨.struct [(0, 47), (2, 22), (3, 43)], 7, 136, [.c (.int .i64 0), .c (.int .i64 0), .nil, .nil, .nil, .nil, .nil], false⟩),
  (129, ⟨.struct [(0, 47), (2, 22), (3, 43)], 7, 136, [.c (.int .i64 0), .c (.int .i64 0), .nil, .nil, .nil, .nil, .nil], false⟩),
  (143, ⟨.slice 4, 1, 24, [.nil], false⟩),
  (162, ⟨.struct [(0, 9), (1, 3), (2, 3)], 3, 32, [.c (.str ⟨#[]⟩), .c (.int .i64 0), .c (.int .i64 0)], true⟩),
  (163, ⟨.struct [(0, 9), (1, 3), (2, 3)], 3, 32, [.c (.str ⟨#[]⟩), .c (.int .i64 0), .c (.int .i64 0)], true⟩),
  (165, ⟨.struct [(0, 4), (1, 9), (2, 9), (3, 3), (4, 29)], 6, 64, [.c (.bool false), .c (.str ⟨#[]⟩), .c (.str ⟨#[]⟩), .c (.int .i64 0), .c (.int .i64 0), .c (.int .i64 0)], true⟩),
  (166, ⟨.struct [(0, 4), (1, 9), (2, 9), (3, 3), (4, 29)], 6, 64, [.c (.bool false), .c (.str ⟨#[]⟩), .c (.str ⟨#[]⟩), .c (.int .i64 0), .c (.int .i64 0), .c (.int .i64 0)], true⟩),
  (168, ⟨.struct [(0, 9), (1, 29), (3, 3), (4, 29), (6, 3), (7, 4)], 8, 72, [.c (.str ⟨#[]⟩), .c (.int .i64 0), .c (.int .i64 0), .c (.int .i64 0), .c (.int .i64 0), .c (.int .i64 0), .c (.int .i64 0), .c (.bool false)], true⟩),
  (169, ⟨.struct [(0, 9), (1, 29), (3, 3), (4, 29), (6, 3), (7, 4)], 8, 72, [.c (.str ⟨#[]⟩), .c (.int .i64 0), .c (.int .i64 0), .c (.int .i64 0), .c (.int .i64 0), .c (.int .i64 0), .c (.int .i64 0), .c (.bool false)], true⟩),
  (179, ⟨.struct [(0, 9), (1, 3), (2, 3)], 3, 32, [.c (.str ⟨#[]⟩), .c (.int .i64 0), .c (.int .i64 0)], true⟩),
  (181, ⟨.struct [(0, 4), (1, 9), (2, 9), (3, 3), (4, 47)], 6, 64, [.c (.bool false), .c (.str ⟨#[]⟩), .c (.str ⟨#[]⟩), .c (.int .i64 0), .c (.int .i64 0), .c (.int .i64 0)], true⟩),
  (182, ⟨.struct [(0, 4), (1, 9), (2, 9), (3, 3), (4, 47)], 6, 64, [.c (.bool false), .c (.str ⟨#[]⟩), .c (.str ⟨#[]⟩), .c (.int .i64 0), .c (.int .i64 0), .c (.int .i64 0)], true⟩),
  (184, ⟨.struct [(0, 9), (1, 47), (3, 3), (4, 47), (6, 3), (7, 4)], 8, 72, [.c (.str ⟨#[]⟩), .c (.int .i64 0), .c (.int .i64 0), .c (.int .i64 0), .c (.int .i64 0), .c (.int .i64 0), .c (.int .i64 0), .c (.bool false)], true⟩),
  (185, ⟨.struct [(0, 9), (1, 47), (3, 3), (4, 47), (6, 3), (7, 4)], 8, 72, [.c (.str ⟨#[]⟩), .c (.int .i64 0), .c (.int .i64 0), .c (.int .i64 0), .c (.int .i64 0), .c (.int .i64 0), .c (.int .i64 0), .c (.bool false)], true⟩),
  (209, ⟨.struct [(0, 29), (2, 22), (3, 27)], 7, 136, [.c (.int .i64 0), .c (.int .i64 0), .nil, .nil, .nil, .nil, .nil], false⟩),
  (210, ⟨.struct [(0, 29), (2, 22), (3, 27)], 7, 136, [.c (.int .i64 0), .c (.int .i64 0), .nil, .nil, .nil, .nil, .nil], false⟩),
  (223, ⟨.int .u64, 1, 8, [.c (.int .u64 0)], false⟩),
  (252, ⟨.slice 5, 1, 24, [.nil], false⟩),
  (254, ⟨.int .i64, 1, 8, [.c (.int .i64 0)], false⟩),
  (262, ⟨.int .u32, 1, 4, [.c (.int .u32 0)], false⟩),
  (264, ⟨.int .u64, 1, 8, [.c (.int .u64 0)], false⟩),
  (273, ⟨.int .u64, 1, 8, [.c (.int .u64 0)], false⟩),
  (312, ⟨.struct [(0, 311)], 0, 0, [], false⟩),
  (313, ⟨.struct [(0, 311)], 0, 0, [], false⟩),
  (315, ⟨.int .u8, 1, 1, [.c (.int .u8 0)], false⟩),
  (316, ⟨.int .u8, 1, 1, [.c (.int .u8 0)], false⟩),
  (319, ⟨.int .i32, 1, 4, [.c (.int .i32 0)], false⟩),
  (320, ⟨.int .i32, 1, 4, [.c (.int .i32 0)], false⟩)]
theorem TryzT_ok : TyOK Tryz.prog TryzT := ⟨by kernel_rfl, by kernel_rfl⟩
@[simp] theorem TryzT_2 : List.lookup 2 TryzT = some ⟨.int .i64, 1, 8, [.c (.int .i64 0)], false⟩ := by kernel_rfl
@[simp] theorem TryzT_3 : List.lookup 3 TryzT = some ⟨.int .i64, 1, 8, [.c (.int .i64 0)], false⟩ := by kernel_rfl
@[simp] theorem TryzT_4 : List.lookup 4 TryzT = some ⟨.bool, 1, 1, [.c (.bool false)], false⟩ := by kernel_rfl
@[simp] theorem TryzT_5 : List.lookup 5 TryzT = some ⟨.int .u8, 1, 1, [.c (.int .u8 0)], false⟩ := by kernel_rfl
@[simp] theorem TryzT_6 : List.lookup 6 TryzT = some ⟨.int .u8, 1, 1, [.c (.int .u8 0)], false⟩ := by kernel_rfl
@[simp] theorem TryzT_7 : List.lookup 7 TryzT = some ⟨.struct [(0, 2), (1, 3), (2, 4), (3, 6)], 4, 24, [.c (.int .i64 0), .c (.int .i64 0), .c (.bool false), .c (.int .u8 0)], true⟩ := by kernel_rfl
@[simp] theorem TryzT_8 : List.lookup 8 TryzT = some ⟨.struct [(0, 2), (1, 3), (2, 4), (3, 6)], 4, 24, [.c (.int .i64 0), .c (.int .i64 0), .c (.bool false), .c (.int .u8 0)], true⟩ := by kernel_rfl
@[simp] theorem TryzT_9 : List.lookup 9 TryzT = some ⟨.str, 1, 16, [.c (.str ⟨#[]⟩)], false⟩ := by kernel_rfl
@[simp] theorem TryzT_10 : List.lookup 10 TryzT = some ⟨.str, 1, 16, [.c (.str ⟨#[]⟩)], false⟩ := by kernel_rfl
@[simp] theorem TryzT_11 : List.lookup 11 TryzT = some ⟨.str, 1, 16, [.c (.str ⟨#[]⟩)], false⟩ := by kernel_rfl
@[simp] theorem TryzT_12 : List.lookup 12 TryzT = some ⟨.int .u64, 1, 8, [.c (.int .u64 0)], false⟩ := by kernel_rfl
@[simp] theorem TryzT_13 : List.lookup 13 TryzT = some ⟨.struct [(0, 9), (1, 12)], 2, 24, [.c (.str ⟨#[]⟩), .c (.int .u64 0)], false⟩ := by kernel_rfl
@[simp] theorem TryzT_14 : List.lookup 14 TryzT = some ⟨.struct [(0, 9), (1, 12)], 2, 24, [.c (.str ⟨#[]⟩), .c (.int .u64 0)], false⟩ := by kernel_rfl
@[simp] theorem TryzT_21 : List.lookup 21 TryzT = some ⟨.int .i32, 1, 4, [.c (.int .i32 0)], false⟩ := by kernel_rfl
@[simp] theorem TryzT_22 : List.lookup 22 TryzT = some ⟨.slice 3, 1, 24, [.nil], false⟩ := by kernel_rfl
@[simp] theorem TryzT_23 : List.lookup 23 TryzT = some ⟨.slice 163, 1, 24, [.nil], false⟩ := by kernel_rfl
@[simp] theorem TryzT_24 : List.lookup 24 TryzT = some ⟨.slice 166, 1, 24, [.nil], false⟩ := by kernel_rfl
@[simp] theorem TryzT_25 : List.lookup 25 TryzT = some ⟨.slice 169, 1, 24, [.nil], false⟩ := by kernel_rfl
@[simp] theorem TryzT_26 : List.lookup 26 TryzT = some ⟨.struct [(0, 22), (1, 23), (2, 24), (3, 25)], 4, 96, [.nil, .nil, .nil, .nil], false⟩ := by kernel_rfl
@[simp] theorem TryzT_27 : List.lookup 27 TryzT = some ⟨.struct [(0, 22), (1, 23), (2, 24), (3, 25)], 4, 96, [.nil, .nil, .nil, .nil], false⟩ := by kernel_rfl
@[simp] theorem TryzT_28 : List.lookup 28 TryzT = some ⟨.struct [(0, 3), (1, 3)], 2, 16, [.c (.int .i64 0), .c (.int .i64 0)], true⟩ := by kernel_rfl
@[simp] theorem TryzT_29 : List.lookup 29 TryzT = some ⟨.struct [(0, 3), (1, 3)], 2, 16, [.c (.int .i64 0), .c (.int .i64 0)], true⟩ := by kernel_rfl
@[simp] theorem TryzT_30 : List.lookup 30 TryzT = some ⟨.struct [(0, 29), (2, 3), (3, 22), (4, 3), (5, 9), (6, 9), (7, 3), (8, 29)], 10, 112, [.c (.int .i64 0), .c (.int .i64 0), .c (.int .i64 0), .nil, .c (.int .i64 0), .c (.str ⟨#[]⟩), .c (.str ⟨#[]⟩), .c (.int .i64 0), .c (.int .i64 0), .c (.int .i64 0)], false⟩ := by kernel_rfl
@[simp] theorem TryzT_31 : List.lookup 31 TryzT = some ⟨.struct [(0, 29), (2, 3), (3, 22), (4, 3), (5, 9), (6, 9), (7, 3), (8, 29)], 10, 112, [.c (.int .i64 0), .c (.int .i64 0), .c (.int .i64 0), .nil, .c (.int .i64 0), .c (.str ⟨#[]⟩), .c (.str ⟨#[]⟩), .c (.int .i64 0), .c (.int .i64 0), .c (.int .i64 0)], false⟩ := by kernel_rfl
@[simp] theorem TryzT_32 : List.lookup 32 TryzT = some ⟨.slice 29, 1, 24, [.nil], false⟩ := by kernel_rfl
@[simp] theorem TryzT_33 : List.lookup 33 TryzT = some ⟨.struct [(0, 22), (1, 22), (2, 23), (3, 24), (4, 32), (5, 25)], 6, 144, [.nil, .nil, .nil, .nil, .nil, .nil], false⟩ := by kernel_rfl
@[simp] theorem TryzT_34 : List.lookup 34 TryzT = some ⟨.struct [(0, 22), (1, 22), (2, 23), (3, 24), (4, 32), (5, 25)], 6, 144, [.nil, .nil, .nil, .nil, .nil, .nil], false⟩ := by kernel_rfl
@[simp] theorem TryzT_35 : List.lookup 35 TryzT = some ⟨.struct [(0, 4), (1, 31), (11, 34)], 17, 264, [.c (.bool false), .c (.int .i64 0), .c (.int .i64 0), .c (.int .i64 0), .nil, .c (.int .i64 0), .c (.str ⟨#[]⟩), .c (.str ⟨#[]⟩), .c (.int .i64 0), .c (.int .i64 0), .c (.int .i64 0), .nil, .nil, .nil, .nil, .nil, .nil], false⟩ := by kernel_rfl
@[simp] theorem TryzT_36 : List.lookup 36 TryzT = some ⟨.struct [(0, 4), (1, 31), (11, 34)], 17, 264, [.c (.bool false), .c (.int .i64 0), .c (.int .i64 0), .c (.int .i64 0), .nil, .c (.int .i64 0), .c (.str ⟨#[]⟩), .c (.str ⟨#[]⟩), .c (.int .i64 0), .c (.int .i64 0), .c (.int .i64 0), .nil, .nil, .nil, .nil, .nil, .nil], false⟩ := by kernel_rfl
@[simp] theorem TryzT_39 : List.lookup 39 TryzT = some ⟨.slice 179, 1, 24, [.nil], false⟩ := by kernel_rfl
@[simp] theorem TryzT_40 : List.lookup 40 TryzT = some ⟨.slice 182, 1, 24, [.nil], false⟩ := by kernel_rfl
@[simp] theorem TryzT_41 : List.lookup 41 TryzT = some ⟨.slice 185, 1, 24, [.nil], false⟩ := by kernel_rfl
@[simp] theorem TryzT_42 : List.lookup 42 TryzT = some ⟨.struct [(0, 22), (1, 39), (2, 40), (3, 41)], 4, 96, [.nil, .nil, .nil, .nil], false⟩ := by kernel_rfl
@[simp] theorem TryzT_43 : List.lookup 43 TryzT = some ⟨.struct [(0, 22), (1, 39), (2, 40), (3, 41)], 4, 96, [.nil, .nil, .nil, .nil], false⟩ := by kernel_rfl
@[simp] theorem TryzT_47 : List.lookup 47 TryzT = some ⟨.struct [(0, 3), (1, 3)], 2, 16, [.c (.int .i64 0), .c (.int .i64 0)], true⟩ := by kernel_rfl
@[simp] theorem TryzT_48 : List.lookup 48 TryzT = some ⟨.struct [(0, 47), (2, 3), (3, 22), (4, 3), (5, 9), (6, 9), (7, 3), (8, 47)], 10, 112, [.c (.int .i64 0), .c (.int .i64 0), .c (.int .i64 0), .nil, .c (.int .i64 0), .c (.str ⟨#[]⟩), .c (.str ⟨#[]⟩), .c (.int .i64 0), .c (.int .i64 0), .c (.int .i64 0)], false⟩ := by kernel_rfl
@[simp] theorem TryzT_49 : List.lookup 49 TryzT = some ⟨.struct [(0, 47), (2, 3), (3, 22), (4, 3), (5, 9), (6, 9), (7, 3), (8, 47)], 10, 112, [.c (.int .i64 0), .c (.int .i64 0), .c (.int .i64 0), .nil, .c (.int .i64 0), .c (.str ⟨#[]⟩), .c (.str ⟨#[]⟩), .c (.int .i64 0), .c (.int .i64 0), .c (.int .i64 0)], false⟩ := by kernel_rfl
@[simp] theorem TryzT_50 : List.lookup 50 TryzT = some ⟨.slice 47, 1, 24, [.nil], false⟩ := by kernel_rfl
@[simp] theorem TryzT_51 : List.lookup 51 TryzT = some ⟨.struct [(0, 22), (1, 22), (2, 39), (3, 40), (4, 50), (5, 41)], 6, 144, [.nil, .nil, .nil, .nil, .nil, .nil], false⟩ := by kernel_rfl
@[simp] theorem TryzT_52 : List.lookup 52 TryzT = some ⟨.struct [(0, 22), (1, 22), (2, 39), (3, 40), (4, 50), (5, 41)], 6, 144, [.nil, .nil, .nil, .nil, .nil, .nil], false⟩ := by kernel_rfl
@[simp] theorem TryzT_53 : List.lookup 53 TryzT = some ⟨.struct [(0, 4), (1, 49), (11, 52)], 17, 264, [.c (.bool false), .c (.int .i64 0), .c (.int .i64 0), .c (.int .i64 0), .nil, .c (.int .i64 0), .c (.str ⟨#[]⟩), .c (.str ⟨#[]⟩), .c (.int .i64 0), .c (.int .i64 0), .c (.int .i64 0), .nil, .nil, .nil, .nil, .nil, .nil], false⟩ := by kernel_rfl
@[simp] theorem TryzT_54 : List.lookup 54 TryzT = some ⟨.struct [(0, 4), (1, 49), (11, 52)], 17, 264, [.c (.bool false), .c (.int .i64 0), .c (.int .i64 0), .c (.int .i64 0), .nil, .c (.int .i64 0), .c (.str ⟨#[]⟩), .c (.str ⟨#[]⟩), .c (.int .i64 0), .c (.int .i64 0), .c (.int .i64 0), .nil, .nil, .nil, .nil, .nil, .nil], false⟩ := by kernel_rfl
@[simp] theorem TryzT_61 : List.lookup 61 TryzT = some ⟨.slice 210, 1, 24, [.nil], false⟩ := by kernel_rfl
@[simp] theorem TryzT_62 : List.lookup 62 TryzT = some ⟨.struct [(0, 61), (1, 3)], 2, 32, [.nil, .c (.int .i64 0)], false⟩ := by kernel_rfl
@[simp] theorem TryzT_63 : List.lookup 63 TryzT = some ⟨.struct [(0, 61), (1, 3)], 2, 32, [.nil, .c (.int .i64 0)], false⟩ := by kernel_rfl
@[simp] theorem TryzT_66 : List.lookup 66 TryzT = some ⟨.slice 129, 1, 24, [.nil], false⟩ := by kernel_rfl
@[simp] theorem TryzT_67 : List.lookup 67 TryzT = some ⟨.struct [(0, 66), (1, 3)], 2, 32, [.nil, .c (.int .i64 0)], false⟩ := by kernel_rfl
@[simp] theorem TryzT_68 : List.lookup 68 TryzT = some ⟨.struct [(0, 66), (1, 3)], 2, 32, [.nil, .c (.int .i64 0)], false⟩ := by kernel_rfl
@[simp] theorem TryzT_73 : List.lookup 73 TryzT = some ⟨.slice 36, 1, 24, [.nil], false⟩ := by kernel_rfl
@[simp] theorem TryzT_74 : List.lookup 74 TryzT = some ⟨.struct [(0, 3), (1, 3), (2, 27), (6, 73), (7, 73)], 8, 160, [.c (.int .i64 0), .c (.int .i64 0), .nil, .nil, .nil, .nil, .nil, .nil], false⟩ := by kernel_rfl
@[simp] theorem TryzT_75 : List.lookup 75 TryzT = some ⟨.struct [(0, 3), (1, 3), (2, 27), (6, 73), (7, 73)], 8, 160, [.c (.int .i64 0), .c (.int .i64 0), .nil, .nil, .nil, .nil, .nil, .nil], false⟩ := by kernel_rfl
@[simp] theorem TryzT_78 : List.lookup 78 TryzT = some ⟨.slice 54, 1, 24, [.nil], false⟩ := by kernel_rfl
@[simp] theorem TryzT_79 : List.lookup 79 TryzT = some ⟨.struct [(0, 3), (1, 3), (2, 43), (6, 78), (7, 78)], 8, 160, [.c (.int .i64 0), .c (.int .i64 0), .nil, .nil, .nil, .nil, .nil, .nil], false⟩ := by kernel_rfl
@[simp] theorem TryzT_80 : List.lookup 80 TryzT = some ⟨.struct [(0, 3), (1, 3), (2, 43), (6, 78), (7, 78)], 8, 160, [.c (.int .i64 0), .c (.int .i64 0), .nil, .nil, .nil, .nil, .nil, .nil], false⟩ := by kernel_rfl
@[simp] theorem TryzT_91 : List.lookup 91 TryzT = some ⟨.struct [(0, 3), (1, 9), (2, 9), (3, 3), (4, 3)], 5, 56, [.c (.int .i64 0), .c (.str ⟨#[]⟩), .c (.str ⟨#[]⟩), .c (.int .i64 0), .c (.int .i64 0)], true⟩ := by kernel_rfl
@[simp] theorem TryzT_92 : List.lookup 92 TryzT = some ⟨.struct [(0, 3), (1, 9), (2, 9), (3, 3), (4, 3)], 5, 56, [.c (.int .i64 0), .c (.str ⟨#[]⟩), .c (.str ⟨#[]⟩), .c (.int .i64 0), .c (.int .i64 0)], true⟩ := by kernel_rfl
@[simp] theorem TryzT_96 : List.lookup 96 TryzT = some ⟨.struct [(0, 3), (1, 9), (2, 9), (3, 3), (4, 3)], 5, 56, [.c (.int .i64 0), .c (.str ⟨#[]⟩), .c (.str ⟨#[]⟩), .c (.int .i64 0), .c (.int .i64 0)], true⟩ := by kernel_rfl
@[simp] theorem TryzT_128 : List.lookup 128 TryzT = some ⟨.struct [(0, 47), (2, 22), (3, 43)], 7, 136, [.c (.int .i64 0), .c (.int .i64 0), .nil, .nil, .nil, .nil, .nil], false⟩ := by kernel_rfl
@[simp] theorem TryzT_129 : List.lookup 129 TryzT = some ⟨.struct [(0, 47), (2, 22), (3, 43)], 7, 136, [.c (.int .i64 0), .c (.int .i64 0), .nil, .nil, .nil, .nil, .nil], false⟩ := by kernel_rfl
@[simp] theorem TryzT_143 : List.lookup 143 TryzT = some ⟨.slice 4, 1, 24, [.nil], false⟩ := by kernel_rfl
@[simp] theorem TryzT_162 : List.lookup 162 TryzT = some ⟨.struct [(0, 9), (1, 3), (2, 3)], 3, 32, [.c (.str ⟨#[]⟩), .c (.int .i64 0), .c (.int .i64 0)], true⟩ := by kernel_rfl
@[simp] theorem TryzT_163 : List.lookup 163 TryzT = some ⟨.struct [(0, 9), (1, 3), (2, 3)], 3, 32, [.c (.str ⟨#[]⟩), .c (.int .i64 0), .c (.int .i64 0)], true⟩ := by kernel_rfl
@[simp] theorem TryzT_165 : List.lookup 165 TryzT = some ⟨.struct [(0, 4), (1, 9), (2, 9), (3, 3), (4, 29)], 6, 64, [.c (.bool false), .c (.str ⟨#[]⟩), .c (.str ⟨#[]⟩), .c (.int .i64 0), .c (.int .i64 0), .c (.int .i64 0)], true⟩ := by kernel_rfl
@[simp] theorem TryzT_166 : List.lookup 166 TryzT = some ⟨.struct [(0, 4), (1, 9), (2, 9), (3, 3), (4, 29)], 6, 64, [.c (.bool false), .c (.str ⟨#[]⟩), .c (.str ⟨#[]⟩), .c (.int .i64 0), .c (.int .i64 0), .c (.int .i64 0)], true⟩ := by kernel_rfl
@[simp] theorem TryzT_168 : List.lookup 168 TryzT = some ⟨.struct [(0, 9), (1, 29), (3, 3), (4, 29), (6, 3), (7, 4)], 8, 72, [.c (.str ⟨#[]⟩), .c (.int .i64 0), .c (.int .i64 0), .c (.int .i64 0), .c (.int .i64 0), .c (.int .i64 0), .c (.int .i64 0), .c (.bool false)], true⟩ := by kernel_rfl
@[simp] theorem TryzT_169 : List.lookup 169 TryzT = some ⟨.struct [(0, 9), (1, 29), (3, 3), (4, 29), (6, 3), (7, 4)], 8, 72, [.c (.str ⟨#[]⟩), .c (.int .i64 0), .c (.int .i64 0), .c (.int .i64 0), .c (.int .i64 0), .c (.int .i64 0), .c (.int .i64 0), .c (.bool false)], true⟩ := by kernel_rfl
@[simp] theorem TryzT_179 : List.lookup 179 TryzT = some ⟨.struct [(0, 9), (1, 3), (2, 3)], 3, 32, [.c (.str ⟨#[]⟩), .c (.int .i64 0), .c (.int .i64 0)], true⟩ := by kernel_rfl
@[simp] theorem TryzT_181 : List.lookup 181 TryzT = some ⟨.struct [(0, 4), (1, 9), (2, 9), (3, 3), (4, 47)], 6, 64, [.c (.bool false), .c (.str ⟨#[]⟩), .c (.str ⟨#[]⟩), .c (.int .i64 0), .c (.int .i64 0), .c (.int .i64 0)], true⟩ := by kernel_rfl
@[simp] theorem TryzT_182 : List.lookup 182 TryzT = some ⟨.struct [(0, 4), (1, 9), (2, 9), (3, 3), (4, 47)], 6, 64, [.c (.bool false), .c (.str ⟨#[]⟩), .c (.str ⟨#[]⟩), .c (.int .i64 0), .c (.int .i64 0), .c (.int .i64 0)], true⟩ := by kernel_rfl
@[simp] theorem TryzT_184 : List.lookup 184 TryzT = some ⟨.struct [(0, 9), (1, 47), (3, 3), (4, 47), (6, 3), (7, 4)], 8, 72, [.c (.str ⟨#[]⟩), .c (.int .i64 0), .c (.int .i64 0), .c (.int .i64 0), .c (.int .i64 0), .c (.int .i64 0), .c (.int .i64 0), .c (.bool false)], true⟩ := by kernel_rfl
@[simp] theorem TryzT_185 : List.lookup 185 TryzT = some ⟨.struct [(0, 9), (1, 47), (3, 3), (4, 47), (6, 3), (7, 4)], 8, 72, [.c (.str ⟨#[]⟩), .c (.int .i64 0), .c (.int .i64 0), .c (.int .i64 0), .c (.int .i64 0), .c (.int .i64 0), .c (.int .i64 0), .c (.bool false)], true⟩ := by kernel_rfl
@[simp] theorem TryzT_209 : List.lookup 209 TryzT = some ⟨.struct [(0, 29), (2, 22), (3, 27)], 7, 136, [.c (.int .i64 0), .c (.int .i64 0), .nil, .nil, .nil, .nil, .nil], false⟩ := by kernel_rfl
@[simp] theorem TryzT_210 : List.lookup 210 TryzT = some ⟨.struct [(0, 29), (2, 22), (3, 27)], 7, 136, [.c (.int .i64 0), .c (.int .i64 0), .nil, .nil, .nil, .nil, .nil], false⟩ := by kernel_rfl
@[simp] theorem TryzT_223 : List.lookup 223 TryzT = some ⟨.int .u64, 1, 8, [.c (.int .u64 0)], false⟩ := by kernel_rfl
@[simp] theorem TryzT_252 : List.lookup 252 TryzT = some ⟨.slice 5, 1, 24, [.nil], false⟩ := by kernel_rfl
@[simp] theorem TryzT_254 : List.lookup 254 TryzT = some ⟨.int .i64, 1, 8, [.c (.int .i64 0)], false⟩ := by kernel_rfl
@[simp] theorem TryzT_262 : List.lookup 262 TryzT = some ⟨.int .u32, 1, 4, [.c (.int .u32 0)], false⟩ := by kernel_rfl
@[simp] theorem TryzT_264 : List.lookup 264 TryzT = some ⟨.int .u64, 1, 8, [.c (.int .u64 0)], false⟩ := by kernel_rfl
@[simp] theorem TryzT_273 : List.lookup 273 TryzT = some ⟨.int .u64, 1, 8, [.c (.int .u64 0)], false⟩ := by kernel_rfl
@[simp] theorem TryzT_312 : List.lookup 312 TryzT = some ⟨.struct [(0, 311)], 0, 0, [], false⟩ := by kernel_rfl
@[simp] theorem TryzT_313 : List.lookup 313 TryzT = some ⟨.struct [(0, 311)], 0, 0, [], false⟩ := by kernel_rfl
@[simp] theorem TryzT_315 : List.lookup 315 TryzT = some ⟨.int .u8, 1, 1, [.c (.int .u8 0)], false⟩ := by kernel_rfl
@[simp] theorem TryzT_316 : List.lookup 316 TryzT = some ⟨.int .u8, 1, 1, [.c (.int .u8 0)], false⟩ := by kernel_rfl
@[simp] theorem TryzT_319 : List.lookup 319 TryzT = some ⟨.int .i32, 1, 4, [.c (.int .i32 0)], false⟩ := by kernel_rfl
@[simp] theorem TryzT_320 : List.lookup 320 TryzT = some ⟨.int .i32, 1, 4, [.c (.int .i32 0)], false⟩ := by kernel_rfl
end Am
