/- The types' table. No condition. -/
import Derived.Test.YtkjakhalkbiikaaProg
import Derived.KernelRfl
import Derived.Test.YtkjakhalkbiikaaAm21
namespace Am
open Go Go.Proofs
def TryT : Am.Ty := [
  (2, ⟨.int .i64, 1, 8, [.c (.int .i64 0)], false⟩),
  (3, ⟨.int .i64, 1, 8, [.c (.int .i64 0)], false⟩),
  (4, ⟨.bool, 1, 1, [.c (.bool false)], false⟩),
  (5, ⟨.int .u8, 1, 1, [.c (.int .u8 0)], false⟩),
  (6, ⟨.int .u8, 1, 1, [.c (.int .u8 0)], false⟩),
  (7, ⟨.struct [(0, 2), (1, 3), (2, 4), (3, 6)], 4, 24, [.c (.int .i64 0), .c (.int .i64 0), .c (.bool false), .c (.int .u8 0)], true⟩),
  (8, ⟨.struct [(0, 2), (1, 3), (2, 4), (3, 6)], 4, 24, [.c (.int .i64 0), .c (.int .i64 0), .c (.bool false), .c (.int .u8 0)], true⟩),
  (9, ⟨.str, 1, 16, [.c (.str ⟨#[]⟩)], false⟩),
  (10, ⟨.str, 1, 16, [.c (.str ⟨#[]⟩)], false⟩),
  (11, ⟨.str, 1, 16, [.c (.str ⟨#[]⟩)], false⟩),
  (12, ⟨.int .u64, 1, 8, [.c (.int .u64 0)], false⟩),
  (13, ⟨.struct [(0, 9), (1, 12)], 2, 24, [.c (.str ⟨#[]⟩), .c (.int .u64 0)], false⟩),
  (14, ⟨.struct [(0, 9), (1, 12)], 2, 24, [.c (.str ⟨#[]⟩), .c (.int .u64 0)], false⟩),
  (21, ⟨.int .i32, 1, 4, [.c (.int .i32 0)], false⟩),
  (22, ⟨.slice 116, 1, 24, [.nil], false⟩),
  (23, ⟨.struct [(0, 22), (1, 3)], 2, 32, [.nil, .c (.int .i64 0)], false⟩),
  (24, ⟨.struct [(0, 22), (1, 3)], 2, 32, [.nil, .c (.int .i64 0)], false⟩),
  (29, ⟨.slice 186, 1, 24, [.nil], false⟩),
  (30, ⟨.struct [(0, 29), (1, 3)], 2, 32, [.nil, .c (.int .i64 0)], false⟩),
  (31, ⟨.struct [(0, 29), (1, 3)], 2, 32, [.nil, .c (.int .i64 0)], false⟩),
  (32, ⟨.struct [(0, 3), (1, 3)], 2, 16, [.c (.int .i64 0), .c (.int .i64 0)], true⟩),
  (33, ⟨.struct [(0, 3), (1, 3)], 2, 16, [.c (.int .i64 0), .c (.int .i64 0)], true⟩),
  (37, ⟨.struct [(0, 3), (1, 3)], 2, 16, [.c (.int .i64 0), .c (.int .i64 0)], true⟩),
  (40, ⟨.slice 3, 1, 24, [.nil], false⟩),
  (41, ⟨.slice 190, 1, 24, [.nil], false⟩),
  (42, ⟨.slice 193, 1, 24, [.nil], false⟩),
  (43, ⟨.slice 33, 1, 24, [.nil], false⟩),
  (44, ⟨.slice 196, 1, 24, [.nil], false⟩),
  (45, ⟨.struct [(0, 40), (1, 40), (2, 41), (3, 42), (4, 43), (5, 44)], 6, 144, [.nil, .nil, .nil, .nil, .nil, .nil], false⟩),
  (46, ⟨.struct [(0, 40), (1, 40), (2, 41), (3, 42), (4, 43), (5, 44)], 6, 144, [.nil, .nil, .nil, .nil, .nil, .nil], false⟩),
  (49, ⟨.slice 198, 1, 24, [.nil], false⟩),
  (50, ⟨.slice 130, 1, 24, [.nil], false⟩),
  (51, ⟨.slice 37, 1, 24, [.nil], false⟩),
  (52, ⟨.slice 132, 1, 24, [.nil], false⟩),
  (53, ⟨.struct [(0, 40), (1, 40), (2, 49), (3, 50), (4, 51), (5, 52)], 6, 144, [.nil, .nil, .nil, .nil, .nil, .nil], false⟩),
  (54, ⟨.struct [(0, 40), (1, 40), (2, 49), (3, 50), (4, 51), (5, 52)], 6, 144, [.nil, .nil, .nil, .nil, .nil, .nil], false⟩),
  (58, ⟨.struct [(0, 40), (1, 49), (2, 50), (3, 52)], 4, 96, [.nil, .nil, .nil, .nil], false⟩),
  (59, ⟨.struct [(0, 40), (1, 49), (2, 50), (3, 52)], 4, 96, [.nil, .nil, .nil, .nil], false⟩),
  (60, ⟨.slice 91, 1, 24, [.nil], false⟩),
  (61, ⟨.struct [(0, 3), (1, 3), (2, 59), (6, 60), (7, 60)], 8, 160, [.c (.int .i64 0), .c (.int .i64 0), .nil, .nil, .nil, .nil, .nil, .nil], false⟩),
  (62, ⟨.struct [(0, 3), (1, 3), (2, 59), (6, 60), (7, 60)], 8, 160, [.c (.int .i64 0), .c (.int .i64 0), .nil, .nil, .nil, .nil, .nil, .nil], false⟩),
  (67, ⟨.struct [(0, 40), (1, 41), (2, 42), (3, 44)], 4, 96, [.nil, .nil, .nil, .nil], false⟩),
  (68, ⟨.struct [(0, 40), (1, 41), (2, 42), (3, 44)], 4, 96, [.nil, .nil, .nil, .nil], false⟩),
  (76, ⟨.slice 9, 1, 24, [.nil], false⟩),
  (82, ⟨.struct [(0, 33), (2, 3), (3, 40), (4, 3), (5, 9), (6, 9), (7, 3), (8, 33)], 10, 112, [.c (.int .i64 0), .c (.int .i64 0), .c (.int .i64 0), .nil, .c (.int .i64 0), .c (.str ⟨#[]⟩), .c (.str ⟨#[]⟩), .c (.int .i64 0), .c (.int .i64 0), .c (.int .i64 0)], false⟩),
  (83, ⟨.struct [(0, 33), (2, 3), (3, 40), (4, 3), (5, 9), (6, 9), (7, 3), (8, 33)], 10, 112, [.c (.int .i64 0), .c (.int .i64 0), .c (.int .i64 0), .nil, .c (.int .i64 0), .c (.str ⟨#[]⟩), .c (.str ⟨#[]⟩), .c (.int .i64 0), .c (.int .i64 0), .c (.int .i64 0)], false⟩),
  (84, ⟨.struct [(0, 4), (1, 83), (11, 46)], 17, 264, [.c (.bool false), .c (.int .i64 0), .c (.int .i64 0), .c (.int .i64 0), .nil, .c (.int .i64 0), .c (.str ⟨#[]⟩), .c (.str ⟨#[]⟩), .c (.int .i64 0), .c (.int .i64 0), .c (.int .i64 0), .nil, .nil, .nil, .nil, .nil, .nil], false⟩),
  (85, ⟨.struct [(0, 4), (1, 83), (11, 46)], 17, 264, [.c (.bool false), .c (.int .i64 0), .c (.int .i64 0), .c (.int .i64 0), .nil, .c (.int .i64 0), .c (.str ⟨#[]⟩), .c (.str ⟨#[]⟩), .c (.int .i64 0), .c (.int .i64 0), .c (.int .i64 0), .nil, .nil, .nil, .nil, .nil, .nil], false⟩),
  (88, ⟨.struct [(0, 37), (2, 3), (3, 40), (4, 3), (5, 9), (6, 9), (7, 3), (8, 37)], 10, 112, [.c (.int .i64 0), .c (.int .i64 0), .c (.int .i64 0), .nil, .c (.int .i64 0), .c (.str ⟨#[]⟩), .c (.str ⟨#[]⟩), .c (.int .i64 0), .c (.int .i64 0), .c (.int .i64 0)], false⟩),
  (89, ⟨.struct [(0, 37), (2, 3), (3, 40), (4, 3), (5, 9), (6, 9), (7, 3), (8, 37)], 10, 112, [.c (.int .i64 0), .c (.int .i64 0), .c (.int .i64 0), .nil, .c (.int .i64 0), .c (.str ⟨#[]⟩), .c (.str ⟨#[]⟩), .c (.int .i64 0), .c (.int .i64 0), .c (.int .i64 0)], false⟩),
  (90, ⟨.struct [(0, 4), (1, 89), (11, 54)], 17, 264, [.c (.bool false), .c (.int .i64 0), .c (.int .i64 0), .c (.int .i64 0), .nil, .c (.int .i64 0), .c (.str ⟨#[]⟩), .c (.str ⟨#[]⟩), .c (.int .i64 0), .c (.int .i64 0), .c (.int .i64 0), .nil, .nil, .nil, .nil, .nil, .nil], false⟩),
  (91, ⟨.struct [(0, 4), (1, 89), (11, 54)], 17, 264, [.c (.bool false), .c (.int .i64 0), .c (.int .i64 0), .c (.int .i64 0), .nil, .c (.int .i64 0), .c (.str ⟨#[]⟩), .c (.str ⟨#[]⟩), .c (.int .i64 0), .c (.int .i64 0), .c (.int .i64 0), .nil, .nil, .nil, .nil, .nil, .nil], false⟩),
  (115, ⟨.struct [(0, 37), (2, 40), (3, 59)], 7, 136, [.c (.int .i64 0), .c (.int .i64 0), .nil, .nil, .nil, .nil, .nil], false⟩),
  (116, ⟨.struct [(0, 37), (2, 40), (3, 59)], 7, 136, [.c (.int .i64 0), .c (.int .i64 0), .nil, .nil, .nil, .nil, .nil], false⟩),
  (129, ⟨.struct [(0, 4), (1, 9), (2, 9), (3, 3), (4, 37)], 6, 64, [.c (.bool false), .c (.str ⟨#[]⟩), .c (.str ⟨#[]⟩), .c (.int .i64 0), .c (.int .i64 0), .c (.int .i64 0)], true⟩),
  (130, ⟨.struct [(0, 4), (1, 9), (2, 9), (3, 3), (4, 37)], 6, 64, [.c (.bool false), .c (.str ⟨#[]⟩), .c (.str ⟨#[]⟩), .c (.int .i64 0), .c (.int .i64 0), .c (.int .i64 0)], true⟩),
  (131, ⟨.struct [(0, 9), (1, 37), (3, 3), (4, 37), (6, 3), (7, 4)], 8, 72, [.c (.str ⟨#[]⟩), .c (.int .i64 0), .c (.int .i64 0), .c (.int .i64 0), .c (.int .i64 0), .c (.int .i64 0), .c (.int .i64 0), .c (.bool false)], true⟩),
  (132, ⟨.struct [(0, 9), (1, 37), (3, 3), (4, 37), (6, 3), (7, 4)], 8, 72, [.c (.str ⟨#[]⟩), .c (.int .i64 0), .c (.int .i64 0), .c (.int .i64 0), .c (.int .i64 0), .c (.int .i64 0), .c (.int .i64 0), .c (.bool false)], true⟩),
  (168, ⟨.struct [(0, 9), (1, 3), (2, 4)], 3, 32, [.c (.str ⟨#[]⟩), .c (.int .i64 0), .c (.bool false)], true⟩),
  (169, ⟨.struct [(0, 9), (1, 3), (2, 4)], 3, 32, [.c (.str ⟨#[]⟩), .c (.int .i64 0), .c (.bool false)], true⟩),
  (175, ⟨.struct [(0, 9), (1, 3), (2, 4)], 3, 32, [.c (.str ⟨#[]⟩), .c (.int .i64 0), .c (.bool false)], true⟩),
  (176, ⟨.struct [(0, 9), (1, 3), (2, 4)], 3, 32, [.c (.str ⟨#[]⟩), .c (.int .i64 0), .c (.bool false)], true⟩),
  (185, ⟨.struct [(0, 33), (2, 40), (3, 68)], 7, 136, [.c (.int .i64 0), .c (.int .i64 0), .nil, .nil, .nil, .nil, .nil], false⟩),
  (186, ⟨.struct [(0, 33), (2, 40), (3, 68)], 7, 136, [.c (.int .i64 0), .c (.int .i64 0), .nil, .nil, .nil, .nil, .nil], false⟩),
  (189, ⟨.struct [(0, 9), (1, 3), (2, 3)], 3, 32, [.c (.str ⟨#[]⟩), .c (.int .i64 0), .c (.int .i64 0)], true⟩),
  (190, ⟨.struct [(0, 9), (1, 3), (2, 3)], 3, 32, [.c (.str ⟨#[]⟩), .c (.int .i64 0), .c (.int .i64 0)], true⟩),
  (192, ⟨.struct [(0, 4), (1, 9), (2, 9), (3, 3), (4, 33)], 6, 64, [.c (.bool false), .c (.str ⟨#[]⟩), .c (.str ⟨#[]⟩), .c (.int .i64 0), .c (.int .i64 0), .c (.int .i64 0)], true⟩),
  (193, ⟨.struct [(0, 4), (1, 9), (2, 9), (3, 3), (4, 33)], 6, 64, [.c (.bool false), .c (.str ⟨#[]⟩), .c (.str ⟨#[]⟩), .c (.int .i64 0), .c (.int .i64 0), .c (.int .i64 0)], true⟩),
  (195, ⟨.struct [(0, 9), (1, 33), (3, 3), (4, 33), (6, 3), (7, 4)], 8, 72, [.c (.str ⟨#[]⟩), .c (.int .i64 0), .c (.int .i64 0), .c (.int .i64 0), .c (.int .i64 0), .c (.int .i64 0), .c (.int .i64 0), .c (.bool false)], true⟩),
  (196, ⟨.struct [(0, 9), (1, 33), (3, 3), (4, 33), (6, 3), (7, 4)], 8, 72, [.c (.str ⟨#[]⟩), .c (.int .i64 0), .c (.int .i64 0), .c (.int .i64 0), .c (.int .i64 0), .c (.int .i64 0), .c (.int .i64 0), .c (.bool false)], true⟩),
  (198, ⟨.struct [(0, 9), (1, 3), (2, 3)], 3, 32, [.c (.str ⟨#[]⟩), .c (.int .i64 0), .c (.int .i64 0)], true⟩),
  (210, ⟨.int .u32, 1, 4, [.c (.int .u32 0)], false⟩),
  (217, ⟨.slice 5, 1, 24, [.nil], false⟩),
  (226, ⟨.int .u64, 1, 8, [.c (.int .u64 0)], false⟩),
  (240, ⟨.int .i64, 1, 8, [.c (.int .i64 0)], false⟩),
  (248, ⟨.int .u64, 1, 8, [.c (.int .u64 0)], false⟩),
  (255, ⟨.int .u64, 1, 8, [.c (.int .u64 0)], false⟩),
  (270, ⟨.struct [(0, 269)], 0, 0, [], false⟩),
  (271, ⟨.struct [(0, 269)], 0, 0, [], false⟩),
  (272, ⟨.int .u8, 1, 1, [.c (.int .u8 0)], false⟩),
  (273, ⟨.int .u8, 1, 1, [.c (.int .u8 0)], false⟩),
  (276, ⟨.int .i32, 1, 4, [.c (.int .i32 0)], false⟩),
  (277, ⟨.int .i32, 1, 4, [.c (.int .i32 0)], false⟩)]
theorem TryT_ok : TyOK Try.prog TryT := ⟨by kernel_rfl, by kernel_rfl⟩
@[simp] theorem TryT_2 : List.lookup 2 TryT = some ⟨.int .i64, 1, 8, [.c (.int .i64 0)], false⟩ := by kernel_rfl
@[simp] theorem TryT_3 : List.lookup 3 TryT = some ⟨.int .i64, 1, 8, [.c (.int .i64 0)], false⟩ := by kernel_rfl
@[simp] theorem TryT_4 : List.lookup 4 TryT = some ⟨.bool, 1, 1, [.c (.bool false)], false⟩ := by kernel_rfl
@[simp] theorem TryT_5 : List.lookup 5 TryT = some ⟨.int .u8, 1, 1, [.c (.int .u8 0)], false⟩ := by kernel_rfl
@[simp] theorem TryT_6 : List.lookup 6 TryT = some ⟨.int .u8, 1, 1, [.c (.int .u8 0)], false⟩ := by kernel_rfl
@[simp] theorem TryT_7 : List.lookup 7 TryT = some ⟨.struct [(0, 2), (1, 3), (2, 4), (3, 6)], 4, 24, [.c (.int .i64 0), .c (.int .i64 0), .c (.bool false), .c (.int .u8 0)], true⟩ := by kernel_rfl
@[simp] theorem TryT_8 : List.lookup 8 TryT = some ⟨.struct [(0, 2), (1, 3), (2, 4), (3, 6)], 4, 24, [.c (.int .i64 0), .c (.int .i64 0), .c (.bool false), .c (.int .u8 0)], true⟩ := by kernel_rfl
@[simp] theorem TryT_9 : List.lookup 9 TryT = some ⟨.str, 1, 16, [.c (.str ⟨#[]⟩)], false⟩ := by kernel_rfl
@[simp] theorem TryT_10 : List.lookup 10 TryT = some ⟨.str, 1, 16, [.c (.str ⟨#[]⟩)], false⟩ := by kernel_rfl
@[simp] theorem TryT_11 : List.lookup 11 TryT = some ⟨.str, 1, 16, [.c (.str ⟨#[]⟩)], false⟩ := by kernel_rfl
@[simp] theorem TryT_12 : List.lookup 12 TryT = some ⟨.int .u64, 1, 8, [.c (.int .u64 0)], false⟩ := by kernel_rfl
@[simp] theorem TryT_13 : List.lookup 13 TryT = some ⟨.struct [(0, 9), (1, 12)], 2, 24, [.c (.str ⟨#[]⟩), .c (.int .u64 0)], false⟩ := by kernel_rfl
@[simp] theorem TryT_14 : List.lookup 14 TryT = some ⟨.struct [(0, 9), (1, 12)], 2, 24, [.c (.str ⟨#[]⟩), .c (.int .u64 0)], false⟩ := by kernel_rfl
@[simp] theorem TryT_21 : List.lookup 21 TryT = some ⟨.int .i32, 1, 4, [.c (.int .i32 0)], false⟩ := by kernel_rfl
@[simp] theorem TryT_22 : List.lookup 22 TryT = some ⟨.slice 116, 1, 24, [.nil], false⟩ := by kernel_rfl
@[simp] theorem TryT_23 : List.lookup 23 TryT = some ⟨.struct [(0, 22), (1, 3)], 2, 32, [.nil, .c (.int .i64 0)], false⟩ := by kernel_rfl
@[simp] theorem TryT_24 : List.lookup 24 TryT = some ⟨.struct [(0, 22), (1, 3)], 2, 32, [.nil, .c (.int .i64 0)], false⟩ := by kernel_rfl
@[simp] theorem TryT_29 : List.lookup 29 TryT = some ⟨.slice 186, 1, 24, [.nil], false⟩ := by kernel_rfl
@[simp] theorem TryT_30 : List.lookup 30 TryT = some ⟨.struct [(0, 29), (1, 3)], 2, 32, [.nil, .c (.int .i64 0)], false⟩ := by kernel_rfl
@[simp] theorem TryT_31 : List.lookup 31 TryT = some ⟨.struct [(0, 29), (1, 3)], 2, 32, [.nil, .c (.int .i64 0)], false⟩ := by kernel_rfl
@[simp] theorem TryT_32 : List.lookup 32 TryT = some ⟨.struct [(0, 3), (1, 3)], 2, 16, [.c (.int .i64 0), .c (.int .i64 0)], true⟩ := by kernel_rfl
@[simp] theorem TryT_33 : List.lookup 33 TryT = some ⟨.struct [(0, 3), (1, 3)], 2, 16, [.c (.int .i64 0), .c (.int .i64 0)], true⟩ := by kernel_rfl
@[simp] theorem TryT_37 : List.lookup 37 TryT = some ⟨.struct [(0, 3), (1, 3)], 2, 16, [.c (.int .i64 0), .c (.int .i64 0)], true⟩ := by kernel_rfl
@[simp] theorem TryT_40 : List.lookup 40 TryT = some ⟨.slice 3, 1, 24, [.nil], false⟩ := by kernel_rfl
@[simp] theorem TryT_41 : List.lookup 41 TryT = some ⟨.slice 190, 1, 24, [.nil], false⟩ := by kernel_rfl
@[simp] theorem TryT_42 : List.lookup 42 TryT = some ⟨.slice 193, 1, 24, [.nil], false⟩ := by kernel_rfl
@[simp] theorem TryT_43 : List.lookup 43 TryT = some ⟨.slice 33, 1, 24, [.nil], false⟩ := by kernel_rfl
@[simp] theorem TryT_44 : List.lookup 44 TryT = some ⟨.slice 196, 1, 24, [.nil], false⟩ := by kernel_rfl
@[simp] theorem TryT_45 : List.lookup 45 TryT = some ⟨.struct [(0, 40), (1, 40), (2, 41), (3, 42), (4, 43), (5, 44)], 6, 144, [.nil, .nil, .nil, .nil, .nil, .nil], false⟩ := by kernel_rfl
@[simp] theorem TryT_46 : List.lookup 46 TryT = some ⟨.struct [(0, 40), (1, 40), (2, 41), (3, 42), (4, 43), (5, 44)], 6, 144, [.nil, .nil, .nil, .nil, .nil, .nil], false⟩ := by kernel_rfl
@[simp] theorem TryT_49 : List.lookup 49 TryT = some ⟨.slice 198, 1, 24, [.nil], false⟩ := by kernel_rfl
@[simp] theorem TryT_50 : List.lookup 50 TryT = some ⟨.slice 130, 1, 24, [.nil], false⟩ := by kernel_rfl
@[simp] theorem TryT_51 : List.lookup 51 TryT = some ⟨.slice 37, 1, 24, [.nil], false⟩ := by kernel_rfl
@[simp] theorem TryT_52 : List.lookup 52 TryT = some ⟨.slice 132, 1, 24, [.nil], false⟩ := by kernel_rfl
@[simp] theorem TryT_53 : List.lookup 53 TryT = some ⟨.struct [(0, 40), (1, 40), (2, 49), (3, 50), (4, 51), (5, 52)], 6, 144, [.nil, .nil, .nil, .nil, .nil, .nil], false⟩ := by kernel_rfl
@[simp] theorem TryT_54 : List.lookup 54 TryT = some ⟨.struct [(0, 40), (1, 40), (2, 49), (3, 50), (4, 51), (5, 52)], 6, 144, [.nil, .nil, .nil, .nil, .nil, .nil], false⟩ := by kernel_rfl
@[simp] theorem TryT_58 : List.lookup 58 TryT = some ⟨.struct [(0, 40), (1, 49), (2, 50), (3, 52)], 4, 96, [.nil, .nil, .nil, .nil], false⟩ := by kernel_rfl
@[simp] theorem TryT_59 : List.lookup 59 TryT = some ⟨.struct [(0, 40), (1, 49), (2, 50), (3, 52)], 4, 96, [.nil, .nil, .nil, .nil], false⟩ := by kernel_rfl
@[simp] theorem TryT_60 : List.lookup 60 TryT = some ⟨.slice 91, 1, 24, [.nil], false⟩ := by kernel_rfl
@[simp] theorem TryT_61 : List.lookup 61 TryT = some ⟨.struct [(0, 3), (1, 3), (2, 59), (6, 60), (7, 60)], 8, 160, [.c (.int .i64 0), .c (.int .i64 0), .nil, .nil, .nil, .nil, .nil, .nil], false⟩ := by kernel_rfl
@[simp] theorem TryT_62 : List.lookup 62 TryT = some ⟨.struct [(0, 3), (1, 3), (2, 59), (6, 60), (7, 60)], 8, 160, [.c (.int .i64 0), .c (.int .i64 0), .nil, .nil, .nil, .nil, .nil, .nil], false⟩ := by kernel_rfl
@[simp] theorem TryT_67 : List.lookup 67 TryT = some ⟨.struct [(0, 40), (1, 41), (2, 42), (3, 44)], 4, 96, [.nil, .nil, .nil, .nil], false⟩ := by kernel_rfl
@[simp] theorem TryT_68 : List.lookup 68 TryT = some ⟨.struct [(0, 40), (1, 41), (2, 42), (3, 44)], 4, 96, [.nil, .nil, .nil, .nil], false⟩ := by kernel_rfl
@[simp] theorem TryT_76 : List.lookup 76 TryT = some ⟨.slice 9, 1, 24, [.nil], false⟩ := by kernel_rfl
@[simp] theorem TryT_82 : List.lookup 82 TryT = some ⟨.struct [(0, 33), (2, 3), (3, 40), (4, 3), (5, 9), (6, 9), (7, 3), (8, 33)], 10, 112, [.c (.int .i64 0), .c (.int .i64 0), .c (.int .i64 0), .nil, .c (.int .i64 0), .c (.str ⟨#[]⟩), .c (.str ⟨#[]⟩), .c (.int .i64 0), .c (.int .i64 0), .c (.int .i64 0)], false⟩ := by kernel_rfl
@[simp] theorem TryT_83 : List.lookup 83 TryT = some ⟨.struct [(0, 33), (2, 3), (3, 40), (4, 3), (5, 9), (6, 9), (7, 3), (8, 33)], 10, 112, [.c (.int .i64 0), .c (.int .i64 0), .c (.int .i64 0), .nil, .c (.int .i64 0), .c (.str ⟨#[]⟩), .c (.str ⟨#[]⟩), .c (.int .i64 0), .c (.int .i64 0), .c (.int .i64 0)], false⟩ := by kernel_rfl
@[simp] theorem TryT_84 : List.lookup 84 TryT = some ⟨.struct [(0, 4), (1, 83), (11, 46)], 17, 264, [.c (.bool false), .c (.int .i64 0), .c (.int .i64 0), .c (.int .i64 0), .nil, .c (.int .i64 0), .c (.str ⟨#[]⟩), .c (.str ⟨#[]⟩), .c (.int .i64 0), .c (.int .i64 0), .c (.int .i64 0), .nil, .nil, .nil, .nil, .nil, .nil], false⟩ := by kernel_rfl
@[simp] theorem TryT_85 : List.lookup 85 TryT = some ⟨.struct [(0, 4), (1, 83), (11, 46)], 17, 264, [.c (.bool false), .c (.int .i64 0), .c (.int .i64 0), .c (.int .i64 0), .nil, .c (.int .i64 0), .c (.str ⟨#[]⟩), .c (.str ⟨#[]⟩), .c (.int .i64 0), .c (.int .i64 0), .c (.int .i64 0), .nil, .nil, .nil, .nil, .nil, .nil], false⟩ := by kernel_rfl
@[simp] theorem TryT_88 : List.lookup 88 TryT = some ⟨.struct [(0, 37), (2, 3), (3, 40), (4, 3), (5, 9), (6, 9), (7, 3), (8, 37)], 10, 112, [.c (.int .i64 0), .c (.int .i64 0), .c (.int .i64 0), .nil, .c (.int .i64 0), .c (.str ⟨#[]⟩), .c (.str ⟨#[]⟩), .c (.int .i64 0), .c (.int .i64 0), .c (.int .i64 0)], false⟩ := by kernel_rfl
@[simp] theorem TryT_89 : List.lookup 89 TryT = some ⟨.struct [(0, 37), (2, 3), (3, 40), (4, 3), (5, 9), (6, 9), (7, 3), (8, 37)], 10, 112, [.c (.int .i64 0), .c (.int .i64 0), .c (.int .i64 0), .nil, .c (.int .i64 0), .c (.str ⟨#[]⟩), .c (.str ⟨#[]⟩), .c (.int .i64 0), .c (.int .i64 0), .c (.int .i64 0)], false⟩ := by kernel_rfl
@[simp] theorem TryT_90 : List.lookup 90 TryT = some ⟨.struct [(0, 4), (1, 89), (11, 54)], 17, 264, [.c (.bool false), .c (.int .i64 0), .c (.int .i64 0), .c (.int .i64 0), .nil, .c (.int .i64 0), .c (.str ⟨#[]⟩), .c (.str ⟨#[]⟩), .c (.int .i64 0), .c (.int .i64 0), .c (.int .i64 0), .nil, .nil, .nil, .nil, .nil, .nil], false⟩ := by kernel_rfl
@[simp] theorem TryT_91 : List.lookup 91 TryT = some ⟨.struct [(0, 4), (1, 89), (11, 54)], 17, 264, [.c (.bool false), .c (.int .i64 0), .c (.int .i64 0), .c (.int .i64 0), .nil, .c (.int .i64 0), .c (.str ⟨#[]⟩), .c (.str ⟨#[]⟩), .c (.int .i64 0), .c (.int .i64 0), .c (.int .i64 0), .nil, .nil, .nil, .nil, .nil, .nil], false⟩ := by kernel_rfl
@[simp] theorem TryT_115 : List.lookup 115 TryT = some ⟨.struct [(0, 37), (2, 40), (3, 59)], 7, 136, [.c (.int .i64 0), .c (.int .i64 0), .nil, .nil, .nil, .nil, .nil], false⟩ := by kernel_rfl
@[simp] theorem TryT_116 : List.lookup 116 TryT = some ⟨.struct [(0, 37), (2, 40), (3, 59)], 7, 136, [.c (.int .i64 0), .c (.int .i64 0), .nil, .nil, .nil, .nil, .nil], false⟩ := by kernel_rfl
@[simp] theorem TryT_129 : List.lookup 129 TryT = some ⟨.struct [(0, 4), (1, 9), (2, 9), (3, 3), (4, 37)], 6, 64, [.c (.bool false), .c (.str ⟨#[]⟩), .c (.str ⟨#[]⟩), .c (.int .i64 0), .c (.int .i64 0), .c (.int .i64 0)], true⟩ := by kernel_rfl
@[simp] theorem TryT_130 : List.lookup 130 TryT = some ⟨.struct [(0, 4), (1, 9), (2, 9), (3, 3), (4, 37)], 6, 64, [.c (.bool false), .c (.str ⟨#[]⟩), .c (.str ⟨#[]⟩), .c (.int .i64 0), .c (.int .i64 0), .c (.int .i64 0)], true⟩ := by kernel_rfl
@[simp] theorem TryT_131 : List.lookup 131 TryT = some ⟨.struct [(0, 9), (1, 37), (3, 3), (4, 37), (6, 3), (7, 4)], 8, 72, [.c (.str ⟨#[]⟩), .c (.int .i64 0), .c (.int .i64 0), .c (.int .i64 0), .c (.int .i64 0), .c (.int .i64 0), .c (.int .i64 0), .c (.bool false)], true⟩ := by kernel_rfl
@[simp] theorem TryT_132 : List.lookup 132 TryT = some ⟨.struct [(0, 9), (1, 37), (3, 3), (4, 37), (6, 3), (7, 4)], 8, 72, [.c (.str ⟨#[]⟩), .c (.int .i64 0), .c (.int .i64 0), .c (.int .i64 0), .c (.int .i64 0), .c (.int .i64 0), .c (.int .i64 0), .c (.bool false)], true⟩ := by kernel_rfl
@[simp] theorem TryT_168 : List.lookup 168 TryT = some ⟨.struct [(0, 9), (1, 3), (2, 4)], 3, 32, [.c (.str ⟨#[]⟩), .c (.int .i64 0), .c (.bool false)], true⟩ := by kernel_rfl
@[simp] theorem TryT_169 : List.lookup 169 TryT = some ⟨.struct [(0, 9), (1, 3), (2, 4)], 3, 32, [.c (.str ⟨#[]⟩), .c (.int .i64 0), .c (.bool false)], true⟩ := by kernel_rfl
@[simp] theorem TryT_175 : List.lookup 175 TryT = some ⟨.struct [(0, 9), (1, 3), (2, 4)], 3, 32, [.c (.str ⟨#[]⟩), .c (.int .i64 0), .c (.bool false)], true⟩ := by kernel_rfl
@[simp] theorem TryT_176 : List.lookup 176 TryT = some ⟨.struct [(0, 9), (1, 3), (2, 4)], 3, 32, [.c (.str ⟨#[]⟩), .c (.int .i64 0), .c (.bool false)], true⟩ := by kernel_rfl
@[simp] theorem TryT_185 : List.lookup 185 TryT = some ⟨.struct [(0, 33), (2, 40), (3, 68)], 7, 136, [.c (.int .i64 0), .c (.int .i64 0), .nil, .nil, .nil, .nil, .nil], false⟩ := by kernel_rfl
@[simp] theorem TryT_186 : List.lookup 186 TryT = some ⟨.struct [(0, 33), (2, 40), (3, 68)], 7, 136, [.c (.int .i64 0), .c (.int .i64 0), .nil, .nil, .nil, .nil, .nil], false⟩ := by kernel_rfl
@[simp] theorem TryT_189 : List.lookup 189 TryT = some ⟨.struct [(0, 9), (1, 3), (2, 3)], 3, 32, [.c (.str ⟨#[]⟩), .c (.int .i64 0), .c (.int .i64 0)], true⟩ := by kernel_rfl
@[simp] theorem TryT_190 : List.lookup 190 TryT = some ⟨.struct [(0, 9), (1, 3), (2, 3)], 3, 32, [.c (.str ⟨#[]⟩), .c (.int .i64 0), .c (.int .i64 0)], true⟩ := by kernel_rfl
@[simp] theorem TryT_192 : List.lookup 192 TryT = some ⟨.struct [(0, 4), (1, 9), (2, 9), (3, 3), (4, 33)], 6, 64, [.c (.bool false), .c (.str ⟨#[]⟩), .c (.str ⟨#[]⟩), .c (.int .i64 0), .c (.int .i64 0), .c (.int .i64 0)], true⟩ := by kernel_rfl
@[simp] theorem TryT_193 : List.lookup 193 TryT = some ⟨.struct [(0, 4), (1, 9), (2, 9), (3, 3), (4, 33)], 6, 64, [.c (.bool false), .c (.str ⟨#[]⟩), .c (.str ⟨#[]⟩), .c (.int .i64 0), .c (.int .i64 0), .c (.int .i64 0)], true⟩ := by kernel_rfl
@[simp] theorem TryT_195 : List.lookup 195 TryT = some ⟨.struct [(0, 9), (1, 33), (3, 3), (4, 33), (6, 3), (7, 4)], 8, 72, [.c (.str ⟨#[]⟩), .c (.int .i64 0), .c (.int .i64 0), .c (.int .i64 0), .c (.int .i64 0), .c (.int .i64 0), .c (.int .i64 0), .c (.bool false)], true⟩ := by kernel_rfl
@[simp] theorem TryT_196 : List.lookup 196 TryT = some ⟨.struct [(0, 9), (1, 33), (3, 3), (4, 33), (6, 3), (7, 4)], 8, 72, [.c (.str ⟨#[]⟩), .c (.int .i64 0), .c (.int .i64 0), .c (.int .i64 0), .c (.int .i64 0), .c (.int .i64 0), .c (.int .i64 0), .c (.bool false)], true⟩ := by kernel_rfl
@[simp] theorem TryT_198 : List.lookup 198 TryT = some ⟨.struct [(0, 9), (1, 3), (2, 3)], 3, 32, [.c (.str ⟨#[]⟩), .c (.int .i64 0), .c (.int .i64 0)], true⟩ := by kernel_rfl
@[simp] theorem TryT_210 : List.lookup 210 TryT = some ⟨.int .u32, 1, 4, [.c (.int .u32 0)], false⟩ := by kernel_rfl
@[simp] theorem TryT_217 : List.lookup 217 TryT = some ⟨.slice 5, 1, 24, [.nil], false⟩ := by kernel_rfl
@[simp] theorem TryT_226 : List.lookup 226 TryT = some ⟨.int .u64, 1, 8, [.c (.int .u64 0)], false⟩ := by kernel_rfl
@[simp] theorem TryT_240 : List.lookup 240 TryT = some ⟨.int .i64, 1, 8, [.c (.int .i64 0)], false⟩ := by kernel_rfl
@[simp] theorem TryT_248 : List.lookup 248 TryT = some ⟨.int .u64, 1, 8, [.c (.int .u64 0)], false⟩ := by kernel_rfl
@[simp] theorem TryT_255 : List.lookup 255 TryT = some ⟨.int .u64, 1, 8, [.c (.int .u64 0)], false⟩ := by kernel_rfl
@[simp] theorem TryT_270 : List.lookup 270 TryT = some ⟨.struct [(0, 269)], 0, 0, [], false⟩ := by kernel_rfl
@[simp] theorem TryT_271 : List.lookup 271 TryT = some ⟨.struct [(0, 269)], 0, 0, [], false⟩ := by kernel_rfl
@[simp] theorem TryT_272 : List.lookup 272 TryT = some ⟨.int .u8, 1, 1, [.c (.int .u8 0)], false⟩ := by kernel_rfl
@[simp] theorem TryT_273 : List.lookup 273 TryT = some ⟨.int .u8, 1, 1, [.c (.int .u8 0)], false⟩ := by kernel_rfl
@[simp] theorem TryT_276 : List.lookup 276 TryT = some ⟨.int .i32, 1, 4, [.c (.int .i32 0)], false⟩ := by kernel_rfl
@[simp] theorem TryT_277 : List.lookup 277 TryT = some ⟨.int .i32, 1, 4, [.c (.int .i32 0)], false⟩ := by kernel_rfl
end Am
