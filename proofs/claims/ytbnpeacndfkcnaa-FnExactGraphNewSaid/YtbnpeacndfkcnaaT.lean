/- The types' table. No condition. -/
import Derived.Test.YtbnpeacndfkcnaaProg
import Derived.KernelRfl
import Derived.Test.YtbnpeacndfkcnaaAm21
namespace Am
open Go Go.Proofs
def TryT : Am.Ty := [
  (2, ⟨.int .i64, 1, 8, [.c (.int .i64 0)], false⟩),
  (3, ⟨.int .i64, 1, 8, [.c (.int .i64 0)], false⟩),
  (4, ⟨.bool, 1, 1, [.c (.bool false)], false⟩),
  (5, ⟨.int .u8, 1, 1, [.c (.int .u8 0)], false⟩),
  (6, ⟨.int .u8, 1, 1, [.c (.int .u8 0)], false⟩),
  (7, ⟨.struct [(0, 2), (1, 3), (2, 4), (3, 6)], 4, 24, [.c (.int .i64 0), .c (.int .i64 0), .c (.bool false), .c (.int .u8 0)], true⟩),
  (8, ⟨.struct [(0, 2), (1, 3), (2, 4), (3, 6)], 4, 24, [.c (.int .i64 0), .c (.int .i64 0), .c (.bool false), .c (.int .u8 0)], true⟩),
  (9, ⟨.str, 1, 16, [.c (.str ⟨#[]⟩)], false⟩),
  (10, ⟨.str, 1, 16, [.c (.str ⟨#[]⟩)], false⟩),
  (11, ⟨.str, 1, 16, [.c (.str ⟨#[]⟩)], false⟩),
  (12, ⟨.int .u64, 1, 8, [.c (.int .u64 0)], false⟩),
  (13, ⟨.struct [(0, 9), (1, 12)], 2, 24, [.c (.str ⟨#[]⟩), .c (.int .u64 0)], false⟩),
  (14, ⟨.struct [(0, 9), (1, 12)], 2, 24, [.c (.str ⟨#[]⟩), .c (.int .u64 0)], false⟩),
  (21, ⟨.int .i32, 1, 4, [.c (.int .i32 0)], false⟩),
  (22, ⟨.struct [(0, 3), (1, 9), (2, 9), (3, 3), (4, 3)], 5, 56, [.c (.int .i64 0), .c (.str ⟨#[]⟩), .c (.str ⟨#[]⟩), .c (.int .i64 0), .c (.int .i64 0)], true⟩),
  (23, ⟨.struct [(0, 3), (1, 9), (2, 9), (3, 3), (4, 3)], 5, 56, [.c (.int .i64 0), .c (.str ⟨#[]⟩), .c (.str ⟨#[]⟩), .c (.int .i64 0), .c (.int .i64 0)], true⟩),
  (26, ⟨.struct [(0, 3), (1, 9), (2, 9), (3, 3), (4, 3)], 5, 56, [.c (.int .i64 0), .c (.str ⟨#[]⟩), .c (.str ⟨#[]⟩), .c (.int .i64 0), .c (.int .i64 0)], true⟩),
  (29, ⟨.slice 84, 1, 24, [.nil], false⟩),
  (30, ⟨.struct [(0, 29), (1, 3)], 2, 32, [.nil, .c (.int .i64 0)], false⟩),
  (31, ⟨.struct [(0, 29), (1, 3)], 2, 32, [.nil, .c (.int .i64 0)], false⟩),
  (36, ⟨.slice 130, 1, 24, [.nil], false⟩),
  (37, ⟨.struct [(0, 36), (1, 3)], 2, 32, [.nil, .c (.int .i64 0)], false⟩),
  (38, ⟨.struct [(0, 36), (1, 3)], 2, 32, [.nil, .c (.int .i64 0)], false⟩),
  (39, ⟨.struct [(0, 3), (1, 3)], 2, 16, [.c (.int .i64 0), .c (.int .i64 0)], true⟩),
  (40, ⟨.struct [(0, 3), (1, 3)], 2, 16, [.c (.int .i64 0), .c (.int .i64 0)], true⟩),
  (44, ⟨.struct [(0, 3), (1, 3)], 2, 16, [.c (.int .i64 0), .c (.int .i64 0)], true⟩),
  (47, ⟨.slice 3, 1, 24, [.nil], false⟩),
  (48, ⟨.struct [(0, 40), (2, 3), (3, 47), (4, 3), (5, 9), (6, 9), (7, 3), (8, 40)], 10, 112, [.c (.int .i64 0), .c (.int .i64 0), .c (.int .i64 0), .nil, .c (.int .i64 0), .c (.str ⟨#[]⟩), .c (.str ⟨#[]⟩), .c (.int .i64 0), .c (.int .i64 0), .c (.int .i64 0)], false⟩),
  (49, ⟨.struct [(0, 40), (2, 3), (3, 47), (4, 3), (5, 9), (6, 9), (7, 3), (8, 40)], 10, 112, [.c (.int .i64 0), .c (.int .i64 0), .c (.int .i64 0), .nil, .c (.int .i64 0), .c (.str ⟨#[]⟩), .c (.str ⟨#[]⟩), .c (.int .i64 0), .c (.int .i64 0), .c (.int .i64 0)], false⟩),
  (50, ⟨.slice 137, 1, 24, [.nil], false⟩),
  (51, ⟨.slice 140, 1, 24, [.nil], false⟩),
  (52, ⟨.slice 40, 1, 24, [.nil], false⟩),
  (53, ⟨.slice 143, 1, 24, [.nil], false⟩),
  (54, ⟨.struct [(0, 47), (1, 47), (2, 50), (3, 51), (4, 52), (5, 53)], 6, 144, [.nil, .nil, .nil, .nil, .nil, .nil], false⟩),
  (55, ⟨.struct [(0, 47), (1, 47), (2, 50), (3, 51), (4, 52), (5, 53)], 6, 144, [.nil, .nil, .nil, .nil, .nil, .nil], false⟩),
  (56, ⟨.struct [(0, 4), (1, 49), (11, 55)], 17, 264, [.c (.bool false), .c (.int .i64 0), .c (.int .i64 0), .c (.int .i64 0), .nil, .c (.int .i64 0), .c (.str ⟨#[]⟩), .c (.str ⟨#[]⟩), .c (.int .i64 0), .c (.int .i64 0), .c (.int .i64 0), .nil, .nil, .nil, .nil, .nil, .nil], false⟩),
  (57, ⟨.struct [(0, 4), (1, 49), (11, 55)], 17, 264, [.c (.bool false), .c (.int .i64 0), .c (.int .i64 0), .c (.int .i64 0), .nil, .c (.int .i64 0), .c (.str ⟨#[]⟩), .c (.str ⟨#[]⟩), .c (.int .i64 0), .c (.int .i64 0), .c (.int .i64 0), .nil, .nil, .nil, .nil, .nil, .nil], false⟩),
  (60, ⟨.struct [(0, 44), (2, 3), (3, 47), (4, 3), (5, 9), (6, 9), (7, 3), (8, 44)], 10, 112, [.c (.int .i64 0), .c (.int .i64 0), .c (.int .i64 0), .nil, .c (.int .i64 0), .c (.str ⟨#[]⟩), .c (.str ⟨#[]⟩), .c (.int .i64 0), .c (.int .i64 0), .c (.int .i64 0)], false⟩),
  (61, ⟨.struct [(0, 44), (2, 3), (3, 47), (4, 3), (5, 9), (6, 9), (7, 3), (8, 44)], 10, 112, [.c (.int .i64 0), .c (.int .i64 0), .c (.int .i64 0), .nil, .c (.int .i64 0), .c (.str ⟨#[]⟩), .c (.str ⟨#[]⟩), .c (.int .i64 0), .c (.int .i64 0), .c (.int .i64 0)], false⟩),
  (62, ⟨.slice 134, 1, 24, [.nil], false⟩),
  (63, ⟨.slice 103, 1, 24, [.nil], false⟩),
  (64, ⟨.slice 44, 1, 24, [.nil], false⟩),
  (65, ⟨.slice 105, 1, 24, [.nil], false⟩),
  (66, ⟨.struct [(0, 47), (1, 47), (2, 62), (3, 63), (4, 64), (5, 65)], 6, 144, [.nil, .nil, .nil, .nil, .nil, .nil], false⟩),
  (67, ⟨.struct [(0, 47), (1, 47), (2, 62), (3, 63), (4, 64), (5, 65)], 6, 144, [.nil, .nil, .nil, .nil, .nil, .nil], false⟩),
  (68, ⟨.struct [(0, 4), (1, 61), (11, 67)], 17, 264, [.c (.bool false), .c (.int .i64 0), .c (.int .i64 0), .c (.int .i64 0), .nil, .c (.int .i64 0), .c (.str ⟨#[]⟩), .c (.str ⟨#[]⟩), .c (.int .i64 0), .c (.int .i64 0), .c (.int .i64 0), .nil, .nil, .nil, .nil, .nil, .nil], false⟩),
  (69, ⟨.struct [(0, 4), (1, 61), (11, 67)], 17, 264, [.c (.bool false), .c (.int .i64 0), .c (.int .i64 0), .c (.int .i64 0), .nil, .c (.int .i64 0), .c (.str ⟨#[]⟩), .c (.str ⟨#[]⟩), .c (.int .i64 0), .c (.int .i64 0), .c (.int .i64 0), .nil, .nil, .nil, .nil, .nil, .nil], false⟩),
  (81, ⟨.struct [(0, 47), (1, 62), (2, 63), (3, 65)], 4, 96, [.nil, .nil, .nil, .nil], false⟩),
  (82, ⟨.struct [(0, 47), (1, 62), (2, 63), (3, 65)], 4, 96, [.nil, .nil, .nil, .nil], false⟩),
  (83, ⟨.struct [(0, 44), (2, 47), (3, 82)], 7, 136, [.c (.int .i64 0), .c (.int .i64 0), .nil, .nil, .nil, .nil, .nil], false⟩),
  (84, ⟨.struct [(0, 44), (2, 47), (3, 82)], 7, 136, [.c (.int .i64 0), .c (.int .i64 0), .nil, .nil, .nil, .nil, .nil], false⟩),
  (102, ⟨.struct [(0, 4), (1, 9), (2, 9), (3, 3), (4, 44)], 6, 64, [.c (.bool false), .c (.str ⟨#[]⟩), .c (.str ⟨#[]⟩), .c (.int .i64 0), .c (.int .i64 0), .c (.int .i64 0)], true⟩),
  (103, ⟨.struct [(0, 4), (1, 9), (2, 9), (3, 3), (4, 44)], 6, 64, [.c (.bool false), .c (.str ⟨#[]⟩), .c (.str ⟨#[]⟩), .c (.int .i64 0), .c (.int .i64 0), .c (.int .i64 0)], true⟩),
  (104, ⟨.struct [(0, 9), (1, 44), (3, 3), (4, 44), (6, 3), (7, 4)], 8, 72, [.c (.str ⟨#[]⟩), .c (.int .i64 0), .c (.int .i64 0), .c (.int .i64 0), .c (.int .i64 0), .c (.int .i64 0), .c (.int .i64 0), .c (.bool false)], true⟩),
  (105, ⟨.struct [(0, 9), (1, 44), (3, 3), (4, 44), (6, 3), (7, 4)], 8, 72, [.c (.str ⟨#[]⟩), .c (.int .i64 0), .c (.int .i64 0), .c (.int .i64 0), .c (.int .i64 0), .c (.int .i64 0), .c (.int .i64 0), .c (.bool false)], true⟩),
  (127, ⟨.struct [(0, 47), (1, 50), (2, 51), (3, 53)], 4, 96, [.nil, .nil, .nil, .nil], false⟩),
  (128, ⟨.struct [(0, 47), (1, 50), (2, 51), (3, 53)], 4, 96, [.nil, .nil, .nil, .nil], false⟩),
  (129, ⟨.struct [(0, 40), (2, 47), (3, 128)], 7, 136, [.c (.int .i64 0), .c (.int .i64 0), .nil, .nil, .nil, .nil, .nil], false⟩),
  (130, ⟨.struct [(0, 40), (2, 47), (3, 128)], 7, 136, [.c (.int .i64 0), .c (.int .i64 0), .nil, .nil, .nil, .nil, .nil], false⟩),
  (133, ⟨.struct [(0, 9), (1, 3), (2, 3)], 3, 32, [.c (.str ⟨#[]⟩), .c (.int .i64 0), .c (.int .i64 0)], true⟩),
  (134, ⟨.struct [(0, 9), (1, 3), (2, 3)], 3, 32, [.c (.str ⟨#[]⟩), .c (.int .i64 0), .c (.int .i64 0)], true⟩),
  (137, ⟨.struct [(0, 9), (1, 3), (2, 3)], 3, 32, [.c (.str ⟨#[]⟩), .c (.int .i64 0), .c (.int .i64 0)], true⟩),
  (139, ⟨.struct [(0, 4), (1, 9), (2, 9), (3, 3), (4, 40)], 6, 64, [.c (.bool false), .c (.str ⟨#[]⟩), .c (.str ⟨#[]⟩), .c (.int .i64 0), .c (.int .i64 0), .c (.int .i64 0)], true⟩),
  (140, ⟨.struct [(0, 4), (1, 9), (2, 9), (3, 3), (4, 40)], 6, 64, [.c (.bool false), .c (.str ⟨#[]⟩), .c (.str ⟨#[]⟩), .c (.int .i64 0), .c (.int .i64 0), .c (.int .i64 0)], true⟩),
  (142, ⟨.struct [(0, 9), (1, 40), (3, 3), (4, 40), (6, 3), (7, 4)], 8, 72, [.c (.str ⟨#[]⟩), .c (.int .i64 0), .c (.int .i64 0), .c (.int .i64 0), .c (.int .i64 0), .c (.int .i64 0), .c (.int .i64 0), .c (.bool false)], true⟩),
  (143, ⟨.struct [(0, 9), (1, 40), (3, 3), (4, 40), (6, 3), (7, 4)], 8, 72, [.c (.str ⟨#[]⟩), .c (.int .i64 0), .c (.int .i64 0), .c (.int .i64 0), .c (.int .i64 0), .c (.int .i64 0), .c (.int .i64 0), .c (.bool false)], true⟩),
  (158, ⟨.slice 5, 1, 24, [.nil], false⟩),
  (163, ⟨.struct [(0, 162)], 0, 0, [], false⟩),
  (164, ⟨.struct [(0, 162)], 0, 0, [], false⟩),
  (166, ⟨.int .u32, 1, 4, [.c (.int .u32 0)], false⟩),
  (167, ⟨.int .u8, 1, 1, [.c (.int .u8 0)], false⟩),
  (168, ⟨.int .u8, 1, 1, [.c (.int .u8 0)], false⟩),
  (171, ⟨.int .i32, 1, 4, [.c (.int .i32 0)], false⟩),
  (172, ⟨.int .i32, 1, 4, [.c (.int .i32 0)], false⟩)]
theorem TryT_ok : TyOK Try.prog TryT := ⟨by kernel_rfl, by kernel_rfl⟩
@[simp] theorem TryT_2 : List.lookup 2 TryT = some ⟨.int .i64, 1, 8, [.c (.int .i64 0)], false⟩ := by kernel_rfl
@[simp] theorem TryT_3 : List.lookup 3 TryT = some ⟨.int .i64, 1, 8, [.c (.int .i64 0)], false⟩ := by kernel_rfl
@[simp] theorem TryT_4 : List.lookup 4 TryT = some ⟨.bool, 1, 1, [.c (.bool false)], false⟩ := by kernel_rfl
@[simp] theorem TryT_5 : List.lookup 5 TryT = some ⟨.int .u8, 1, 1, [.c (.int .u8 0)], false⟩ := by kernel_rfl
@[simp] theorem TryT_6 : List.lookup 6 TryT = some ⟨.int .u8, 1, 1, [.c (.int .u8 0)], false⟩ := by kernel_rfl
@[simp] theorem TryT_7 : List.lookup 7 TryT = some ⟨.struct [(0, 2), (1, 3), (2, 4), (3, 6)], 4, 24, [.c (.int .i64 0), .c (.int .i64 0), .c (.bool false), .c (.int .u8 0)], true⟩ := by kernel_rfl
@[simp] theorem TryT_8 : List.lookup 8 TryT = some ⟨.struct [(0, 2), (1, 3), (2, 4), (3, 6)], 4, 24, [.c (.int .i64 0), .c (.int .i64 0), .c (.bool false), .c (.int .u8 0)], true⟩ := by kernel_rfl
@[simp] theorem TryT_9 : List.lookup 9 TryT = some ⟨.str, 1, 16, [.c (.str ⟨#[]⟩)], false⟩ := by kernel_rfl
@[simp] theorem TryT_10 : List.lookup 10 TryT = some ⟨.str, 1, 16, [.c (.str ⟨#[]⟩)], false⟩ := by kernel_rfl
@[simp] theorem TryT_11 : List.lookup 11 TryT = some ⟨.str, 1, 16, [.c (.str ⟨#[]⟩)], false⟩ := by kernel_rfl
@[simp] theorem TryT_12 : List.lookup 12 TryT = some ⟨.int .u64, 1, 8, [.c (.int .u64 0)], false⟩ := by kernel_rfl
@[simp] theorem TryT_13 : List.lookup 13 TryT = some ⟨.struct [(0, 9), (1, 12)], 2, 24, [.c (.str ⟨#[]⟩), .c (.int .u64 0)], false⟩ := by kernel_rfl
@[simp] theorem TryT_14 : List.lookup 14 TryT = some ⟨.struct [(0, 9), (1, 12)], 2, 24, [.c (.str ⟨#[]⟩), .c (.int .u64 0)], false⟩ := by kernel_rfl
@[simp] theorem TryT_21 : List.lookup 21 TryT = some ⟨.int .i32, 1, 4, [.c (.int .i32 0)], false⟩ := by kernel_rfl
@[simp] theorem TryT_22 : List.lookup 22 TryT = some ⟨.struct [(0, 3), (1, 9), (2, 9), (3, 3), (4, 3)], 5, 56, [.c (.int .i64 0), .c (.str ⟨#[]⟩), .c (.str ⟨#[]⟩), .c (.int .i64 0), .c (.int .i64 0)], true⟩ := by kernel_rfl
@[simp] theorem TryT_23 : List.lookup 23 TryT = some ⟨.struct [(0, 3), (1, 9), (2, 9), (3, 3), (4, 3)], 5, 56, [.c (.int .i64 0), .c (.str ⟨#[]⟩), .c (.str ⟨#[]⟩), .c (.int .i64 0), .c (.int .i64 0)], true⟩ := by kernel_rfl
@[simp] theorem TryT_26 : List.lookup 26 TryT = some ⟨.struct [(0, 3), (1, 9), (2, 9), (3, 3), (4, 3)], 5, 56, [.c (.int .i64 0), .c (.str ⟨#[]⟩), .c (.str ⟨#[]⟩), .c (.int .i64 0), .c (.int .i64 0)], true⟩ := by kernel_rfl
@[simp] theorem TryT_29 : List.lookup 29 TryT = some ⟨.slice 84, 1, 24, [.nil], false⟩ := by kernel_rfl
@[simp] theorem TryT_30 : List.lookup 30 TryT = some ⟨.struct [(0, 29), (1, 3)], 2, 32, [.nil, .c (.int .i64 0)], false⟩ := by kernel_rfl
@[simp] theorem TryT_31 : List.lookup 31 TryT = some ⟨.struct [(0, 29), (1, 3)], 2, 32, [.nil, .c (.int .i64 0)], false⟩ := by kernel_rfl
@[simp] theorem TryT_36 : List.lookup 36 TryT = some ⟨.slice 130, 1, 24, [.nil], false⟩ := by kernel_rfl
@[simp] theorem TryT_37 : List.lookup 37 TryT = some ⟨.struct [(0, 36), (1, 3)], 2, 32, [.nil, .c (.int .i64 0)], false⟩ := by kernel_rfl
@[simp] theorem TryT_38 : List.lookup 38 TryT = some ⟨.struct [(0, 36), (1, 3)], 2, 32, [.nil, .c (.int .i64 0)], false⟩ := by kernel_rfl
@[simp] theorem TryT_39 : List.lookup 39 TryT = some ⟨.struct [(0, 3), (1, 3)], 2, 16, [.c (.int .i64 0), .c (.int .i64 0)], true⟩ := by kernel_rfl
@[simp] theorem TryT_40 : List.lookup 40 TryT = some ⟨.struct [(0, 3), (1, 3)], 2, 16, [.c (.int .i64 0), .c (.int .i64 0)], true⟩ := by kernel_rfl
@[simp] theorem TryT_44 : List.lookup 44 TryT = some ⟨.struct [(0, 3), (1, 3)], 2, 16, [.c (.int .i64 0), .c (.int .i64 0)], true⟩ := by kernel_rfl
@[simp] theorem TryT_47 : List.lookup 47 TryT = some ⟨.slice 3, 1, 24, [.nil], false⟩ := by kernel_rfl
@[simp] theorem TryT_48 : List.lookup 48 TryT = some ⟨.struct [(0, 40), (2, 3), (3, 47), (4, 3), (5, 9), (6, 9), (7, 3), (8, 40)], 10, 112, [.c (.int .i64 0), .c (.int .i64 0), .c (.int .i64 0), .nil, .c (.int .i64 0), .c (.str ⟨#[]⟩), .c (.str ⟨#[]⟩), .c (.int .i64 0), .c (.int .i64 0), .c (.int .i64 0)], false⟩ := by kernel_rfl
@[simp] theorem TryT_49 : List.lookup 49 TryT = some ⟨.struct [(0, 40), (2, 3), (3, 47), (4, 3), (5, 9), (6, 9), (7, 3), (8, 40)], 10, 112, [.c (.int .i64 0), .c (.int .i64 0), .c (.int .i64 0), .nil, .c (.int .i64 0), .c (.str ⟨#[]⟩), .c (.str ⟨#[]⟩), .c (.int .i64 0), .c (.int .i64 0), .c (.int .i64 0)], false⟩ := by kernel_rfl
@[simp] theorem TryT_50 : List.lookup 50 TryT = some ⟨.slice 137, 1, 24, [.nil], false⟩ := by kernel_rfl
@[simp] theorem TryT_51 : List.lookup 51 TryT = some ⟨.slice 140, 1, 24, [.nil], false⟩ := by kernel_rfl
@[simp] theorem TryT_52 : List.lookup 52 TryT = some ⟨.slice 40, 1, 24, [.nil], false⟩ := by kernel_rfl
@[simp] theorem TryT_53 : List.lookup 53 TryT = some ⟨.slice 143, 1, 24, [.nil], false⟩ := by kernel_rfl
@[simp] theorem TryT_54 : List.lookup 54 TryT = some ⟨.struct [(0, 47), (1, 47), (2, 50), (3, 51), (4, 52), (5, 53)], 6, 144, [.nil, .nil, .nil, .nil, .nil, .nil], false⟩ := by kernel_rfl
@[simp] theorem TryT_55 : List.lookup 55 TryT = some ⟨.struct [(0, 47), (1, 47), (2, 50), (3, 51), (4, 52), (5, 53)], 6, 144, [.nil, .nil, .nil, .nil, .nil, .nil], false⟩ := by kernel_rfl
@[simp] theorem TryT_56 : List.lookup 56 TryT = some ⟨.struct [(0, 4), (1, 49), (11, 55)], 17, 264, [.c (.bool false), .c (.int .i64 0), .c (.int .i64 0), .c (.int .i64 0), .nil, .c (.int .i64 0), .c (.str ⟨#[]⟩), .c (.str ⟨#[]⟩), .c (.int .i64 0), .c (.int .i64 0), .c (.int .i64 0), .nil, .nil, .nil, .nil, .nil, .nil], false⟩ := by kernel_rfl
@[simp] theorem TryT_57 : List.lookup 57 TryT = some ⟨.struct [(0, 4), (1, 49), (11, 55)], 17, 264, [.c (.bool false), .c (.int .i64 0), .c (.int .i64 0), .c (.int .i64 0), .nil, .c (.int .i64 0), .c (.str ⟨#[]⟩), .c (.str ⟨#[]⟩), .c (.int .i64 0), .c (.int .i64 0), .c (.int .i64 0), .nil, .nil, .nil, .nil, .nil, .nil], false⟩ := by kernel_rfl
@[simp] theorem TryT_60 : List.lookup 60 TryT = some ⟨.struct [(0, 44), (2, 3), (3, 47), (4, 3), (5, 9), (6, 9), (7, 3), (8, 44)], 10, 112, [.c (.int .i64 0), .c (.int .i64 0), .c (.int .i64 0), .nil, .c (.int .i64 0), .c (.str ⟨#[]⟩), .c (.str ⟨#[]⟩), .c (.int .i64 0), .c (.int .i64 0), .c (.int .i64 0)], false⟩ := by kernel_rfl
@[simp] theorem TryT_61 : List.lookup 61 TryT = some ⟨.struct [(0, 44), (2, 3), (3, 47), (4, 3), (5, 9), (6, 9), (7, 3), (8, 44)], 10, 112, [.c (.int .i64 0), .c (.int .i64 0), .c (.int .i64 0), .nil, .c (.int .i64 0), .c (.str ⟨#[]⟩), .c (.str ⟨#[]⟩), .c (.int .i64 0), .c (.int .i64 0), .c (.int .i64 0)], false⟩ := by kernel_rfl
@[simp] theorem TryT_62 : List.lookup 62 TryT = some ⟨.slice 134, 1, 24, [.nil], false⟩ := by kernel_rfl
@[simp] theorem TryT_63 : List.lookup 63 TryT = some ⟨.slice 103, 1, 24, [.nil], false⟩ := by kernel_rfl
@[simp] theorem TryT_64 : List.lookup 64 TryT = some ⟨.slice 44, 1, 24, [.nil], false⟩ := by kernel_rfl
@[simp] theorem TryT_65 : List.lookup 65 TryT = some ⟨.slice 105, 1, 24, [.nil], false⟩ := by kernel_rfl
@[simp] theorem TryT_66 : List.lookup 66 TryT = some ⟨.struct [(0, 47), (1, 47), (2, 62), (3, 63), (4, 64), (5, 65)], 6, 144, [.nil, .nil, .nil, .nil, .nil, .nil], false⟩ := by kernel_rfl
@[simp] theorem TryT_67 : List.lookup 67 TryT = some ⟨.struct [(0, 47), (1, 47), (2, 62), (3, 63), (4, 64), (5, 65)], 6, 144, [.nil, .nil, .nil, .nil, .nil, .nil], false⟩ := by kernel_rfl
@[simp] theorem TryT_68 : List.lookup 68 TryT = some ⟨.struct [(0, 4), (1, 61), (11, 67)], 17, 264, [.c (.bool false), .c (.int .i64 0), .c (.int .i64 0), .c (.int .i64 0), .nil, .c (.int .i64 0), .c (.str ⟨#[]⟩), .c (.str ⟨#[]⟩), .c (.int .i64 0), .c (.int .i64 0), .c (.int .i64 0), .nil, .nil, .nil, .nil, .nil, .nil], false⟩ := by kernel_rfl
@[simp] theorem TryT_69 : List.lookup 69 TryT = some ⟨.struct [(0, 4), (1, 61), (11, 67)], 17, 264, [.c (.bool false), .c (.int .i64 0), .c (.int .i64 0), .c (.int .i64 0), .nil, .c (.int .i64 0), .c (.str ⟨#[]⟩), .c (.str ⟨#[]⟩), .c (.int .i64 0), .c (.int .i64 0), .c (.int .i64 0), .nil, .nil, .nil, .nil, .nil, .nil], false⟩ := by kernel_rfl
@[simp] theorem TryT_81 : List.lookup 81 TryT = some ⟨.struct [(0, 47), (1, 62), (2, 63), (3, 65)], 4, 96, [.nil, .nil, .nil, .nil], false⟩ := by kernel_rfl
@[simp] theorem TryT_82 : List.lookup 82 TryT = some ⟨.struct [(0, 47), (1, 62), (2, 63), (3, 65)], 4, 96, [.nil, .nil, .nil, .nil], false⟩ := by kernel_rfl
@[simp] theorem TryT_83 : List.lookup 83 TryT = some ⟨.struct [(0, 44), (2, 47), (3, 82)], 7, 136, [.c (.int .i64 0), .c (.int .i64 0), .nil, .nil, .nil, .nil, .nil], false⟩ := by kernel_rfl
@[simp] theorem TryT_84 : List.lookup 84 TryT = some ⟨.struct [(0, 44), (2, 47), (3, 82)], 7, 136, [.c (.int .i64 0), .c (.int .i64 0), .nil, .nil, .nil, .nil, .nil], false⟩ := by kernel_rfl
@[simp] theorem TryT_102 : List.lookup 102 TryT = some ⟨.struct [(0, 4), (1, 9), (2, 9), (3, 3), (4, 44)], 6, 64, [.c (.bool false), .c (.str ⟨#[]⟩), .c (.str ⟨#[]⟩), .c (.int .i64 0), .c (.int .i64 0), .c (.int .i64 0)], true⟩ := by kernel_rfl
@[simp] theorem TryT_103 : List.lookup 103 TryT = some ⟨.struct [(0, 4), (1, 9), (2, 9), (3, 3), (4, 44)], 6, 64, [.c (.bool false), .c (.str ⟨#[]⟩), .c (.str ⟨#[]⟩), .c (.int .i64 0), .c (.int .i64 0), .c (.int .i64 0)], true⟩ := by kernel_rfl
@[simp] theorem TryT_104 : List.lookup 104 TryT = some ⟨.struct [(0, 9), (1, 44), (3, 3), (4, 44), (6, 3), (7, 4)], 8, 72, [.c (.str ⟨#[]⟩), .c (.int .i64 0), .c (.int .i64 0), .c (.int .i64 0), .c (.int .i64 0), .c (.int .i64 0), .c (.int .i64 0), .c (.bool false)], true⟩ := by kernel_rfl
@[simp] theorem TryT_105 : List.lookup 105 TryT = some ⟨.struct [(0, 9), (1, 44), (3, 3), (4, 44), (6, 3), (7, 4)], 8, 72, [.c (.str ⟨#[]⟩), .c (.int .i64 0), .c (.int .i64 0), .c (.int .i64 0), .c (.int .i64 0), .c (.int .i64 0), .c (.int .i64 0), .c (.bool false)], true⟩ := by kernel_rfl
@[simp] theorem TryT_127 : List.lookup 127 TryT = some ⟨.struct [(0, 47), (1, 50), (2, 51), (3, 53)], 4, 96, [.nil, .nil, .nil, .nil], false⟩ := by kernel_rfl
@[simp] theorem TryT_128 : List.lookup 128 TryT = some ⟨.struct [(0, 47), (1, 50), (2, 51), (3, 53)], 4, 96, [.nil, .nil, .nil, .nil], false⟩ := by kernel_rfl
@[simp] theorem TryT_129 : List.lookup 129 TryT = some ⟨.struct [(0, 40), (2, 47), (3, 128)], 7, 136, [.c (.int .i64 0), .c (.int .i64 0), .nil, .nil, .nil, .nil, .nil], false⟩ := by kernel_rfl
@[simp] theorem TryT_130 : List.lookup 130 TryT = some ⟨.struct [(0, 40), (2, 47), (3, 128)], 7, 136, [.c (.int .i64 0), .c (.int .i64 0), .nil, .nil, .nil, .nil, .nil], false⟩ := by kernel_rfl
@[simp] theorem TryT_133 : List.lookup 133 TryT = some ⟨.struct [(0, 9), (1, 3), (2, 3)], 3, 32, [.c (.str ⟨#[]⟩), .c (.int .i64 0), .c (.int .i64 0)], true⟩ := by kernel_rfl
@[simp] theorem TryT_134 : List.lookup 134 TryT = some ⟨.struct [(0, 9), (1, 3), (2, 3)], 3, 32, [.c (.str ⟨#[]⟩), .c (.int .i64 0), .c (.int .i64 0)], true⟩ := by kernel_rfl
@[simp] theorem TryT_137 : List.lookup 137 TryT = some ⟨.struct [(0, 9), (1, 3), (2, 3)], 3, 32, [.c (.str ⟨#[]⟩), .c (.int .i64 0), .c (.int .i64 0)], true⟩ := by kernel_rfl
@[simp] theorem TryT_139 : List.lookup 139 TryT = some ⟨.struct [(0, 4), (1, 9), (2, 9), (3, 3), (4, 40)], 6, 64, [.c (.bool false), .c (.str ⟨#[]⟩), .c (.str ⟨#[]⟩), .c (.int .i64 0), .c (.int .i64 0), .c (.int .i64 0)], true⟩ := by kernel_rfl
@[simp] theorem TryT_140 : List.lookup 140 TryT = some ⟨.struct [(0, 4), (1, 9), (2, 9), (3, 3), (4, 40)], 6, 64, [.c (.bool false), .c (.str ⟨#[]⟩), .c (.str ⟨#[]⟩), .c (.int .i64 0), .c (.int .i64 0), .c (.int .i64 0)], true⟩ := by kernel_rfl
@[simp] theorem TryT_142 : List.lookup 142 TryT = some ⟨.struct [(0, 9), (1, 40), (3, 3), (4, 40), (6, 3), (7, 4)], 8, 72, [.c (.str ⟨#[]⟩), .c (.int .i64 0), .c (.int .i64 0), .c (.int .i64 0), .c (.int .i64 0), .c (.int .i64 0), .c (.int .i64 0), .c (.bool false)], true⟩ := by kernel_rfl
@[simp] theorem TryT_143 : List.lookup 143 TryT = some ⟨.struct [(0, 9), (1, 40), (3, 3), (4, 40), (6, 3), (7, 4)], 8, 72, [.c (.str ⟨#[]⟩), .c (.int .i64 0), .c (.int .i64 0), .c (.int .i64 0), .c (.int .i64 0), .c (.int .i64 0), .c (.int .i64 0), .c (.bool false)], true⟩ := by kernel_rfl
@[simp] theorem TryT_158 : List.lookup 158 TryT = some ⟨.slice 5, 1, 24, [.nil], false⟩ := by kernel_rfl
@[simp] theorem TryT_163 : List.lookup 163 TryT = some ⟨.struct [(0, 162)], 0, 0, [], false⟩ := by kernel_rfl
@[simp] theorem TryT_164 : List.lookup 164 TryT = some ⟨.struct [(0, 162)], 0, 0, [], false⟩ := by kernel_rfl
@[simp] theorem TryT_166 : List.lookup 166 TryT = some ⟨.int .u32, 1, 4, [.c (.int .u32 0)], false⟩ := by kernel_rfl
@[simp] theorem TryT_167 : List.lookup 167 TryT = some ⟨.int .u8, 1, 1, [.c (.int .u8 0)], false⟩ := by kernel_rfl
@[simp] theorem TryT_168 : List.lookup 168 TryT = some ⟨.int .u8, 1, 1, [.c (.int .u8 0)], false⟩ := by kernel_rfl
@[simp] theorem TryT_171 : List.lookup 171 TryT = some ⟨.int .i32, 1, 4, [.c (.int .i32 0)], false⟩ := by kernel_rfl
@[simp] theorem TryT_172 : List.lookup 172 TryT = some ⟨.int .i32, 1, 4, [.c (.int .i32 0)], false⟩ := by kernel_rfl
end Am
