/- The types' table. No condition. -/
import Derived.Test.YtlkkgdealgceeaaProg
import Derived.KernelRfl
import Derived.Test.YtlkkgdealgceeaaL1
namespace Am
open Go Go.Proofs
def TryT : Am.Ty := [
  (2, ⟨.int .i64, 1, 8, [.c (.int .i64 0)], false⟩),
  (3, ⟨.int .i64, 1, 8, [.c (.int .i64 0)], false⟩),
  (4, ⟨.bool, 1, 1, [.c (.bool false)], false⟩),
  (5, ⟨.int .u8, 1, 1, [.c (.int .u8 0)], false⟩),
  (6, ⟨.int .u8, 1, 1, [.c (.int .u8 0)], false⟩),
  (7, ⟨.struct [(0, 2), (1, 3), (2, 4), (3, 6)], 4, 24, [.c (.int .i64 0), .c (.int .i64 0), .c (.bool false), .c (.int .u8 0)], true⟩),
  (8, ⟨.struct [(0, 2), (1, 3), (2, 4), (3, 6)], 4, 24, [.c (.int .i64 0), .c (.int .i64 0), .c (.bool false), .c (.int .u8 0)], true⟩),
  (9, ⟨.str, 1, 16, [.c (.str ⟨#[]⟩)], false⟩),
  (10, ⟨.str, 1, 16, [.c (.str ⟨#[]⟩)], false⟩),
  (11, ⟨.str, 1, 16, [.c (.str ⟨#[]⟩)], false⟩),
  (12, ⟨.int .u64, 1, 8, [.c (.int .u64 0)], false⟩),
  (13, ⟨.struct [(0, 9), (1, 12)], 2, 24, [.c (.str ⟨#[]⟩), .c (.int .u64 0)], false⟩),
  (14, ⟨.struct [(0, 9), (1, 12)], 2, 24, [.c (.str ⟨#[]⟩), .c (.int .u64 0)], false⟩),
  (21, ⟨.int .i32, 1, 4, [.c (.int .i32 0)], false⟩),
  (22, ⟨.slice 3, 1, 24, [.nil], false⟩),
  (23, ⟨.slice 112, 1, 24, [.nil], false⟩),
  (24, ⟨.slice 116, 1, 24, [.nil], false⟩),
  (25, ⟨.slice 114, 1, 24, [.nil], false⟩),
  (26, ⟨.slice 119, 1, 24, [.nil], false⟩),
  (27, ⟨.struct [(0, 22), (1, 22), (2, 23), (3, 24), (4, 25), (5, 26)], 6, 144, [.nil, .nil, .nil, .nil, .nil, .nil], false⟩),
  (28, ⟨.struct [(0, 22), (1, 22), (2, 23), (3, 24), (4, 25), (5, 26)], 6, 144, [.nil, .nil, .nil, .nil, .nil, .nil], false⟩),
  (31, ⟨.slice 121, 1, 24, [.nil], false⟩),
  (32, ⟨.slice 78, 1, 24, [.nil], false⟩),
  (33, ⟨.slice 76, 1, 24, [.nil], false⟩),
  (34, ⟨.slice 80, 1, 24, [.nil], false⟩),
  (35, ⟨.struct [(0, 22), (1, 22), (2, 31), (3, 32), (4, 33), (5, 34)], 6, 144, [.nil, .nil, .nil, .nil, .nil, .nil], false⟩),
  (36, ⟨.struct [(0, 22), (1, 22), (2, 31), (3, 32), (4, 33), (5, 34)], 6, 144, [.nil, .nil, .nil, .nil, .nil, .nil], false⟩),
  (40, ⟨.struct [(0, 22), (1, 31), (2, 32), (3, 34)], 4, 96, [.nil, .nil, .nil, .nil], false⟩),
  (41, ⟨.struct [(0, 22), (1, 31), (2, 32), (3, 34)], 4, 96, [.nil, .nil, .nil, .nil], false⟩),
  (42, ⟨.slice 140, 1, 24, [.nil], false⟩),
  (43, ⟨.struct [(0, 3), (1, 3), (2, 41), (6, 42), (7, 42)], 8, 160, [.c (.int .i64 0), .c (.int .i64 0), .nil, .nil, .nil, .nil, .nil, .nil], false⟩),
  (44, ⟨.struct [(0, 3), (1, 3), (2, 41), (6, 42), (7, 42)], 8, 160, [.c (.int .i64 0), .c (.int .i64 0), .nil, .nil, .nil, .nil, .nil, .nil], false⟩),
  (49, ⟨.struct [(0, 22), (1, 23), (2, 24), (3, 26)], 4, 96, [.nil, .nil, .nil, .nil], false⟩),
  (50, ⟨.struct [(0, 22), (1, 23), (2, 24), (3, 26)], 4, 96, [.nil, .nil, .nil, .nil], false⟩),
  (58, ⟨.slice 9, 1, 24, [.nil], false⟩),
  (75, ⟨.struct [(0, 3), (1, 3)], 2, 16, [.c (.int .i64 0), .c (.int .i64 0)], true⟩),
  (76, ⟨.struct [(0, 3), (1, 3)], 2, 16, [.c (.int .i64 0), .c (.int .i64 0)], true⟩),
  (77, ⟨.struct [(0, 4), (1, 9), (2, 9), (3, 3), (4, 76)], 6, 64, [.c (.bool false), .c (.str ⟨#[]⟩), .c (.str ⟨#[]⟩), .c (.int .i64 0), .c (.int .i64 0), .c (.int .i64 0)], true⟩),
  (78, ⟨.struct [(0, 4), (1, 9), (2, 9), (3, 3), (4, 76)], 6, 64, [.c (.bool false), .c (.str ⟨#[]⟩), .c (.str ⟨#[]⟩), .c (.int .i64 0), .c (.int .i64 0), .c (.int .i64 0)], true⟩),
  (79, ⟨.struct [(0, 9), (1, 76), (3, 3), (4, 76), (6, 3), (7, 4)], 8, 72, [.c (.str ⟨#[]⟩), .c (.int .i64 0), .c (.int .i64 0), .c (.int .i64 0), .c (.int .i64 0), .c (.int .i64 0), .c (.int .i64 0), .c (.bool false)], true⟩),
  (80, ⟨.struct [(0, 9), (1, 76), (3, 3), (4, 76), (6, 3), (7, 4)], 8, 72, [.c (.str ⟨#[]⟩), .c (.int .i64 0), .c (.int .i64 0), .c (.int .i64 0), .c (.int .i64 0), .c (.int .i64 0), .c (.int .i64 0), .c (.bool false)], true⟩),
  (111, ⟨.struct [(0, 9), (1, 3), (2, 3)], 3, 32, [.c (.str ⟨#[]⟩), .c (.int .i64 0), .c (.int .i64 0)], true⟩),
  (112, ⟨.struct [(0, 9), (1, 3), (2, 3)], 3, 32, [.c (.str ⟨#[]⟩), .c (.int .i64 0), .c (.int .i64 0)], true⟩),
  (114, ⟨.struct [(0, 3), (1, 3)], 2, 16, [.c (.int .i64 0), .c (.int .i64 0)], true⟩),
  (115, ⟨.struct [(0, 4), (1, 9), (2, 9), (3, 3), (4, 114)], 6, 64, [.c (.bool false), .c (.str ⟨#[]⟩), .c (.str ⟨#[]⟩), .c (.int .i64 0), .c (.int .i64 0), .c (.int .i64 0)], true⟩),
  (116, ⟨.struct [(0, 4), (1, 9), (2, 9), (3, 3), (4, 114)], 6, 64, [.c (.bool false), .c (.str ⟨#[]⟩), .c (.str ⟨#[]⟩), .c (.int .i64 0), .c (.int .i64 0), .c (.int .i64 0)], true⟩),
  (118, ⟨.struct [(0, 9), (1, 114), (3, 3), (4, 114), (6, 3), (7, 4)], 8, 72, [.c (.str ⟨#[]⟩), .c (.int .i64 0), .c (.int .i64 0), .c (.int .i64 0), .c (.int .i64 0), .c (.int .i64 0), .c (.int .i64 0), .c (.bool false)], true⟩),
  (119, ⟨.struct [(0, 9), (1, 114), (3, 3), (4, 114), (6, 3), (7, 4)], 8, 72, [.c (.str ⟨#[]⟩), .c (.int .i64 0), .c (.int .i64 0), .c (.int .i64 0), .c (.int .i64 0), .c (.int .i64 0), .c (.int .i64 0), .c (.bool false)], true⟩),
  (121, ⟨.struct [(0, 9), (1, 3), (2, 3)], 3, 32, [.c (.str ⟨#[]⟩), .c (.int .i64 0), .c (.int .i64 0)], true⟩),
  (137, ⟨.struct [(0, 76), (2, 3), (3, 22), (4, 3), (5, 9), (6, 9), (7, 3), (8, 76)], 10, 112, [.c (.int .i64 0), .c (.int .i64 0), .c (.int .i64 0), .nil, .c (.int .i64 0), .c (.str ⟨#[]⟩), .c (.str ⟨#[]⟩), .c (.int .i64 0), .c (.int .i64 0), .c (.int .i64 0)], false⟩),
  (138, ⟨.struct [(0, 76), (2, 3), (3, 22), (4, 3), (5, 9), (6, 9), (7, 3), (8, 76)], 10, 112, [.c (.int .i64 0), .c (.int .i64 0), .c (.int .i64 0), .nil, .c (.int .i64 0), .c (.str ⟨#[]⟩), .c (.str ⟨#[]⟩), .c (.int .i64 0), .c (.int .i64 0), .c (.int .i64 0)], false⟩),
  (139, ⟨.struct [(0, 4), (1, 138), (11, 36)], 17, 264, [.c (.bool false), .c (.int .i64 0), .c (.int .i64 0), .c (.int .i64 0), .nil, .c (.int .i64 0), .c (.str ⟨#[]⟩), .c (.str ⟨#[]⟩), .c (.int .i64 0), .c (.int .i64 0), .c (.int .i64 0), .nil, .nil, .nil, .nil, .nil, .nil], false⟩),
  (140, ⟨.struct [(0, 4), (1, 138), (11, 36)], 17, 264, [.c (.bool false), .c (.int .i64 0), .c (.int .i64 0), .c (.int .i64 0), .nil, .c (.int .i64 0), .c (.str ⟨#[]⟩), .c (.str ⟨#[]⟩), .c (.int .i64 0), .c (.int .i64 0), .c (.int .i64 0), .nil, .nil, .nil, .nil, .nil, .nil], false⟩),
  (144, ⟨.int .u32, 1, 4, [.c (.int .u32 0)], false⟩),
  (151, ⟨.slice 5, 1, 24, [.nil], false⟩),
  (157, ⟨.int .u64, 1, 8, [.c (.int .u64 0)], false⟩),
  (164, ⟨.int .i64, 1, 8, [.c (.int .i64 0)], false⟩),
  (173, ⟨.int .u64, 1, 8, [.c (.int .u64 0)], false⟩),
  (174, ⟨.int .u64, 1, 8, [.c (.int .u64 0)], false⟩),
  (187, ⟨.struct [(0, 186)], 0, 0, [], false⟩),
  (188, ⟨.struct [(0, 186)], 0, 0, [], false⟩),
  (190, ⟨.int .u8, 1, 1, [.c (.int .u8 0)], false⟩),
  (191, ⟨.int .u8, 1, 1, [.c (.int .u8 0)], false⟩),
  (194, ⟨.int .i32, 1, 4, [.c (.int .i32 0)], false⟩),
  (195, ⟨.int .i32, 1, 4, [.c (.int .i32 0)], false⟩)]
theorem TryT_ok : TyOK Try.prog TryT := ⟨by kernel_rfl, by kernel_rfl⟩
@[simp] theorem TryT_2 : List.lookup 2 TryT = some ⟨.int .i64, 1, 8, [.c (.int .i64 0)], false⟩ := by kernel_rfl
@[simp] theorem TryT_3 : List.lookup 3 TryT = some ⟨.int .i64, 1, 8, [.c (.int .i64 0)], false⟩ := by kernel_rfl
@[simp] theorem TryT_4 : List.lookup 4 TryT = some ⟨.bool, 1, 1, [.c (.bool false)], false⟩ := by kernel_rfl
@[simp] theorem TryT_5 : List.lookup 5 TryT = some ⟨.int .u8, 1, 1, [.c (.int .u8 0)], false⟩ := by kernel_rfl
@[simp] theorem TryT_6 : List.lookup 6 TryT = some ⟨.int .u8, 1, 1, [.c (.int .u8 0)], false⟩ := by kernel_rfl
@[simp] theorem TryT_7 : List.lookup 7 TryT = some ⟨.struct [(0, 2), (1, 3), (2, 4), (3, 6)], 4, 24, [.c (.int .i64 0), .c (.int .i64 0), .c (.bool false), .c (.int .u8 0)], true⟩ := by kernel_rfl
@[simp] theorem TryT_8 : List.lookup 8 TryT = some ⟨.struct [(0, 2), (1, 3), (2, 4), (3, 6)], 4, 24, [.c (.int .i64 0), .c (.int .i64 0), .c (.bool false), .c (.int .u8 0)], true⟩ := by kernel_rfl
@[simp] theorem TryT_9 : List.lookup 9 TryT = some ⟨.str, 1, 16, [.c (.str ⟨#[]⟩)], false⟩ := by kernel_rfl
@[simp] theorem TryT_10 : List.lookup 10 TryT = some ⟨.str, 1, 16, [.c (.str ⟨#[]⟩)], false⟩ := by kernel_rfl
@[simp] theorem TryT_11 : List.lookup 11 TryT = some ⟨.str, 1, 16, [.c (.str ⟨#[]⟩)], false⟩ := by kernel_rfl
@[simp] theorem TryT_12 : List.lookup 12 TryT = some ⟨.int .u64, 1, 8, [.c (.int .u64 0)], false⟩ := by kernel_rfl
@[simp] theorem TryT_13 : List.lookup 13 TryT = some ⟨.struct [(0, 9), (1, 12)], 2, 24, [.c (.str ⟨#[]⟩), .c (.int .u64 0)], false⟩ := by kernel_rfl
@[simp] theorem TryT_14 : List.lookup 14 TryT = some ⟨.struct [(0, 9), (1, 12)], 2, 24, [.c (.str ⟨#[]⟩), .c (.int .u64 0)], false⟩ := by kernel_rfl
@[simp] theorem TryT_21 : List.lookup 21 TryT = some ⟨.int .i32, 1, 4, [.c (.int .i32 0)], false⟩ := by kernel_rfl
@[simp] theorem TryT_22 : List.lookup 22 TryT = some ⟨.slice 3, 1, 24, [.nil], false⟩ := by kernel_rfl
@[simp] theorem TryT_23 : List.lookup 23 TryT = some ⟨.slice 112, 1, 24, [.nil], false⟩ := by kernel_rfl
@[simp] theorem TryT_24 : List.lookup 24 TryT = some ⟨.slice 116, 1, 24, [.nil], false⟩ := by kernel_rfl
@[simp] theorem TryT_25 : List.lookup 25 TryT = some ⟨.slice 114, 1, 24, [.nil], false⟩ := by kernel_rfl
@[simp] theorem TryT_26 : List.lookup 26 TryT = some ⟨.slice 119, 1, 24, [.nil], false⟩ := by kernel_rfl
@[simp] theorem TryT_27 : List.lookup 27 TryT = some ⟨.struct [(0, 22), (1, 22), (2, 23), (3, 24), (4, 25), (5, 26)], 6, 144, [.nil, .nil, .nil, .nil, .nil, .nil], false⟩ := by kernel_rfl
@[simp] theorem TryT_28 : List.lookup 28 TryT = some ⟨.struct [(0, 22), (1, 22), (2, 23), (3, 24), (4, 25), (5, 26)], 6, 144, [.nil, .nil, .nil, .nil, .nil, .nil], false⟩ := by kernel_rfl
@[simp] theorem TryT_31 : List.lookup 31 TryT = some ⟨.slice 121, 1, 24, [.nil], false⟩ := by kernel_rfl
@[simp] theorem TryT_32 : List.lookup 32 TryT = some ⟨.slice 78, 1, 24, [.nil], false⟩ := by kernel_rfl
@[simp] theorem TryT_33 : List.lookup 33 TryT = some ⟨.slice 76, 1, 24, [.nil], false⟩ := by kernel_rfl
@[simp] theorem TryT_34 : List.lookup 34 TryT = some ⟨.slice 80, 1, 24, [.nil], false⟩ := by kernel_rfl
@[simp] theorem TryT_35 : List.lookup 35 TryT = some ⟨.struct [(0, 22), (1, 22), (2, 31), (3, 32), (4, 33), (5, 34)], 6, 144, [.nil, .nil, .nil, .nil, .nil, .nil], false⟩ := by kernel_rfl
@[simp] theorem TryT_36 : List.lookup 36 TryT = some ⟨.struct [(0, 22), (1, 22), (2, 31), (3, 32), (4, 33), (5, 34)], 6, 144, [.nil, .nil, .nil, .nil, .nil, .nil], false⟩ := by kernel_rfl
@[simp] theorem TryT_40 : List.lookup 40 TryT = some ⟨.struct [(0, 22), (1, 31), (2, 32), (3, 34)], 4, 96, [.nil, .nil, .nil, .nil], false⟩ := by kernel_rfl
@[simp] theorem TryT_41 : List.lookup 41 TryT = some ⟨.struct [(0, 22), (1, 31), (2, 32), (3, 34)], 4, 96, [.nil, .nil, .nil, .nil], false⟩ := by kernel_rfl
@[simp] theorem TryT_42 : List.lookup 42 TryT = some ⟨.slice 140, 1, 24, [.nil], false⟩ := by kernel_rfl
@[simp] theorem TryT_43 : List.lookup 43 TryT = some ⟨.struct [(0, 3), (1, 3), (2, 41), (6, 42), (7, 42)], 8, 160, [.c (.int .i64 0), .c (.int .i64 0), .nil, .nil, .nil, .nil, .nil, .nil], false⟩ := by kernel_rfl
@[simp] theorem TryT_44 : List.lookup 44 TryT = some ⟨.struct [(0, 3), (1, 3), (2, 41), (6, 42), (7, 42)], 8, 160, [.c (.int .i64 0), .c (.int .i64 0), .nil, .nil, .nil, .nil, .nil, .nil], false⟩ := by kernel_rfl
@[simp] theorem TryT_49 : List.lookup 49 TryT = some ⟨.struct [(0, 22), (1, 23), (2, 24), (3, 26)], 4, 96, [.nil, .nil, .nil, .nil], false⟩ := by kernel_rfl
@[simp] theorem TryT_50 : List.lookup 50 TryT = some ⟨.struct [(0, 22), (1, 23), (2, 24), (3, 26)], 4, 96, [.nil, .nil, .nil, .nil], false⟩ := by kernel_rfl
@[simp] theorem TryT_58 : List.lookup 58 TryT = some ⟨.slice 9, 1, 24, [.nil], false⟩ := by kernel_rfl
@[simp] theorem TryT_75 : List.lookup 75 TryT = some ⟨.struct [(0, 3), (1, 3)], 2, 16, [.c (.int .i64 0), .c (.int .i64 0)], true⟩ := by kernel_rfl
@[simp] theorem TryT_76 : List.lookup 76 TryT = some ⟨.struct [(0, 3), (1, 3)], 2, 16, [.c (.int .i64 0), .c (.int .i64 0)], true⟩ := by kernel_rfl
@[simp] theorem TryT_77 : List.lookup 77 TryT = some ⟨.struct [(0, 4), (1, 9), (2, 9), (3, 3), (4, 76)], 6, 64, [.c (.bool false), .c (.str ⟨#[]⟩), .c (.str ⟨#[]⟩), .c (.int .i64 0), .c (.int .i64 0), .c (.int .i64 0)], true⟩ := by kernel_rfl
@[simp] theorem TryT_78 : List.lookup 78 TryT = some ⟨.struct [(0, 4), (1, 9), (2, 9), (3, 3), (4, 76)], 6, 64, [.c (.bool false), .c (.str ⟨#[]⟩), .c (.str ⟨#[]⟩), .c (.int .i64 0), .c (.int .i64 0), .c (.int .i64 0)], true⟩ := by kernel_rfl
@[simp] theorem TryT_79 : List.lookup 79 TryT = some ⟨.struct [(0, 9), (1, 76), (3, 3), (4, 76), (6, 3), (7, 4)], 8, 72, [.c (.str ⟨#[]⟩), .c (.int .i64 0), .c (.int .i64 0), .c (.int .i64 0), .c (.int .i64 0), .c (.int .i64 0), .c (.int .i64 0), .c (.bool false)], true⟩ := by kernel_rfl
@[simp] theorem TryT_80 : List.lookup 80 TryT = some ⟨.struct [(0, 9), (1, 76), (3, 3), (4, 76), (6, 3), (7, 4)], 8, 72, [.c (.str ⟨#[]⟩), .c (.int .i64 0), .c (.int .i64 0), .c (.int .i64 0), .c (.int .i64 0), .c (.int .i64 0), .c (.int .i64 0), .c (.bool false)], true⟩ := by kernel_rfl
@[simp] theorem TryT_111 : List.lookup 111 TryT = some ⟨.struct [(0, 9), (1, 3), (2, 3)], 3, 32, [.c (.str ⟨#[]⟩), .c (.int .i64 0), .c (.int .i64 0)], true⟩ := by kernel_rfl
@[simp] theorem TryT_112 : List.lookup 112 TryT = some ⟨.struct [(0, 9), (1, 3), (2, 3)], 3, 32, [.c (.str ⟨#[]⟩), .c (.int .i64 0), .c (.int .i64 0)], true⟩ := by kernel_rfl
@[simp] theorem TryT_114 : List.lookup 114 TryT = some ⟨.struct [(0, 3), (1, 3)], 2, 16, [.c (.int .i64 0), .c (.int .i64 0)], true⟩ := by kernel_rfl
@[simp] theorem TryT_115 : List.lookup 115 TryT = some ⟨.struct [(0, 4), (1, 9), (2, 9), (3, 3), (4, 114)], 6, 64, [.c (.bool false), .c (.str ⟨#[]⟩), .c (.str ⟨#[]⟩), .c (.int .i64 0), .c (.int .i64 0), .c (.int .i64 0)], true⟩ := by kernel_rfl
@[simp] theorem TryT_116 : List.lookup 116 TryT = some ⟨.struct [(0, 4), (1, 9), (2, 9), (3, 3), (4, 114)], 6, 64, [.c (.bool false), .c (.str ⟨#[]⟩), .c (.str ⟨#[]⟩), .c (.int .i64 0), .c (.int .i64 0), .c (.int .i64 0)], true⟩ := by kernel_rfl
@[simp] theorem TryT_118 : List.lookup 118 TryT = some ⟨.struct [(0, 9), (1, 114), (3, 3), (4, 114), (6, 3), (7, 4)], 8, 72, [.c (.str ⟨#[]⟩), .c (.int .i64 0), .c (.int .i64 0), .c (.int .i64 0), .c (.int .i64 0), .c (.int .i64 0), .c (.int .i64 0), .c (.bool false)], true⟩ := by kernel_rfl
@[simp] theorem TryT_119 : List.lookup 119 TryT = some ⟨.struct [(0, 9), (1, 114), (3, 3), (4, 114), (6, 3), (7, 4)], 8, 72, [.c (.str ⟨#[]⟩), .c (.int .i64 0), .c (.int .i64 0), .c (.int .i64 0), .c (.int .i64 0), .c (.int .i64 0), .c (.int .i64 0), .c (.bool false)], true⟩ := by kernel_rfl
@[simp] theorem TryT_121 : List.lookup 121 TryT = some ⟨.struct [(0, 9), (1, 3), (2, 3)], 3, 32, [.c (.str ⟨#[]⟩), .c (.int .i64 0), .c (.int .i64 0)], true⟩ := by kernel_rfl
@[simp] theorem TryT_137 : List.lookup 137 TryT = some ⟨.struct [(0, 76), (2, 3), (3, 22), (4, 3), (5, 9), (6, 9), (7, 3), (8, 76)], 10, 112, [.c (.int .i64 0), .c (.int .i64 0), .c (.int .i64 0), .nil, .c (.int .i64 0), .c (.str ⟨#[]⟩), .c (.str ⟨#[]⟩), .c (.int .i64 0), .c (.int .i64 0), .c (.int .i64 0)], false⟩ := by kernel_rfl
@[simp] theorem TryT_138 : List.lookup 138 TryT = some ⟨.struct [(0, 76), (2, 3), (3, 22), (4, 3), (5, 9), (6, 9), (7, 3), (8, 76)], 10, 112, [.c (.int .i64 0), .c (.int .i64 0), .c (.int .i64 0), .nil, .c (.int .i64 0), .c (.str ⟨#[]⟩), .c (.str ⟨#[]⟩), .c (.int .i64 0), .c (.int .i64 0), .c (.int .i64 0)], false⟩ := by kernel_rfl
@[simp] theorem TryT_139 : List.lookup 139 TryT = some ⟨.struct [(0, 4), (1, 138), (11, 36)], 17, 264, [.c (.bool false), .c (.int .i64 0), .c (.int .i64 0), .c (.int .i64 0), .nil, .c (.int .i64 0), .c (.str ⟨#[]⟩), .c (.str ⟨#[]⟩), .c (.int .i64 0), .c (.int .i64 0), .c (.int .i64 0), .nil, .nil, .nil, .nil, .nil, .nil], false⟩ := by kernel_rfl
@[simp] theorem TryT_140 : List.lookup 140 TryT = some ⟨.struct [(0, 4), (1, 138), (11, 36)], 17, 264, [.c (.bool false), .c (.int .i64 0), .c (.int .i64 0), .c (.int .i64 0), .nil, .c (.int .i64 0), .c (.str ⟨#[]⟩), .c (.str ⟨#[]⟩), .c (.int .i64 0), .c (.int .i64 0), .c (.int .i64 0), .nil, .nil, .nil, .nil, .nil, .nil], false⟩ := by kernel_rfl
@[simp] theorem TryT_144 : List.lookup 144 TryT = some ⟨.int .u32, 1, 4, [.c (.int .u32 0)], false⟩ := by kernel_rfl
@[simp] theorem TryT_151 : List.lookup 151 TryT = some ⟨.slice 5, 1, 24, [.nil], false⟩ := by kernel_rfl
@[simp] theorem TryT_157 : List.lookup 157 TryT = some ⟨.int .u64, 1, 8, [.c (.int .u64 0)], false⟩ := by kernel_rfl
@[simp] theorem TryT_164 : List.lookup 164 TryT = some ⟨.int .i64, 1, 8, [.c (.int .i64 0)], false⟩ := by kernel_rfl
@[simp] theorem TryT_173 : List.lookup 173 TryT = some ⟨.int .u64, 1, 8, [.c (.int .u64 0)], false⟩ := by kernel_rfl
@[simp] theorem TryT_174 : List.lookup 174 TryT = some ⟨.int .u64, 1, 8, [.c (.int .u64 0)], false⟩ := by kernel_rfl
@[simp] theorem TryT_187 : List.lookup 187 TryT = some ⟨.struct [(0, 186)], 0, 0, [], false⟩ := by kernel_rfl
@[simp] theorem TryT_188 : List.lookup 188 TryT = some ⟨.struct [(0, 186)], 0, 0, [], false⟩ := by kernel_rfl
@[simp] theorem TryT_190 : List.lookup 190 TryT = some ⟨.int .u8, 1, 1, [.c (.int .u8 0)], false⟩ := by kernel_rfl
@[simp] theorem TryT_191 : List.lookup 191 TryT = some ⟨.int .u8, 1, 1, [.c (.int .u8 0)], false⟩ := by kernel_rfl
@[simp] theorem TryT_194 : List.lookup 194 TryT = some ⟨.int .i32, 1, 4, [.c (.int .i32 0)], false⟩ := by kernel_rfl
@[simp] theorem TryT_195 : List.lookup 195 TryT = some ⟨.int .i32, 1, 4, [.c (.int .i32 0)], false⟩ := by kernel_rfl
end Am
