/- The types' table. No condition. -/
import Derived.Test.YtpgnllakcjajjaaGreatProg
import Derived.KernelRfl
import Derived.Test.YtpgnllakcjajjaaGreatL1
namespace Am
open Go Go.Proofs
def TryzT : Am.Ty := [
  (2, ⟨.int .i64, 1, 8, [.c (.int .i64 0)], false⟩),
  (3, ⟨.int .i64, 1, 8, [.c (.int .i64 0)], false⟩),
  (4, ⟨.bool, 1, 1, [.c (.bool false)], false⟩),
  (5, ⟨.int .u8, 1, 1, [.c (.int .u8 0)], false⟩),
  (6, ⟨.int .u8, 1, 1, [.c (.int .u8 0)], false⟩),
  (7, ⟨.struct [(0, 2), (1, 3), (2, 4), (3, 6)], 4, 24, [.c (.int .i64 0), .c (.int .i64 0), .c (.bool false), .c (.int .u8 0)], true⟩),
  (8, ⟨.struct [(0, 2), (1, 3), (2, 4), (3, 6)], 4, 24, [.c (.int .i64 0), .c (.int .i64 0), .c (.bool false), .c (.int .u8 0)], true⟩),
  (9, ⟨.str, 1, 16, [.c (.str ⟨#[]⟩)], false⟩),
  (10, ⟨.str, 1, 16, [.c (.str ⟨#[]⟩)], false⟩),
  (11, ⟨.str, 1, 16, [.c (.str ⟨#[]⟩)], false⟩),
  (12, ⟨.int .u64, 1, 8, [.c (.int .u64 0)], false⟩),
  (13, ⟨.struct [(0, 9), (1, 12)], 2, 24, [.c (.str ⟨#[]⟩), .c (.int .u64 0)], false⟩),
  (14, ⟨.struct [(0, 9), (1, 12)], 2, 24, [.c (.str ⟨#[]⟩), .c (.int .u64 0)], false⟩),
  (21, ⟨.int .i32, 1, 4, [.c (.int .i32 0)], false⟩),
  (22, ⟨.slice 3, 1, 24, [.nil], false⟩),
  (23, ⟨.slice 139, 1, 24, [.nil], false⟩),
  (24, ⟨.slice 143, 1, 24, [.nil], false⟩),
  (25, ⟨.slice 146, 1, 24, [.nil], false⟩),
  (26, ⟨.struct [(0, 22), (1, 23), (2, 24), (3, 25)], 4, 96, [.nil, .nil, .nil, .nil], false⟩),
  (27, ⟨.struct [(0, 22), (1, 23), (2, 24), (3, 25)], 4, 96, [.nil, .nil, .nil, .nil], false⟩),
  (29, ⟨.slice 118, 1, 24, [.nil], false⟩),
  (30, ⟨.slice 82, 1, 24, [.nil], false⟩),
  (31, ⟨.slice 121, 1, 24, [.nil], false⟩),
  (32, ⟨.struct [(0, 22), (1, 29), (2, 30), (3, 31)], 4, 96, [.nil, .nil, .nil, .nil], false⟩),
  (33, ⟨.struct [(0, 22), (1, 29), (2, 30), (3, 31)], 4, 96, [.nil, .nil, .nil, .nil], false⟩),
  (39, ⟨.slice 107, 1, 24, [.nil], false⟩),
  (44, ⟨.slice 80, 1, 24, [.nil], false⟩),
  (45, ⟨.struct [(0, 22), (1, 22), (2, 29), (3, 30), (4, 44), (5, 31)], 6, 144, [.nil, .nil, .nil, .nil, .nil, .nil], false⟩),
  (46, ⟨.struct [(0, 22), (1, 22), (2, 29), (3, 30), (4, 44), (5, 31)], 6, 144, [.nil, .nil, .nil, .nil, .nil, .nil], false⟩),
  (51, ⟨.slice 141, 1, 24, [.nil], false⟩),
  (52, ⟨.struct [(0, 22), (1, 22), (2, 23), (3, 24), (4, 51), (5, 25)], 6, 144, [.nil, .nil, .nil, .nil, .nil, .nil], false⟩),
  (53, ⟨.struct [(0, 22), (1, 22), (2, 23), (3, 24), (4, 51), (5, 25)], 6, 144, [.nil, .nil, .nil, .nil, .nil, .nil], false⟩),
  (59, ⟨.slice 189, 1, 24, [.nil], false⟩),
  (60, ⟨.struct [(0, 59), (1, 3)], 2, 32, [.nil, .c (.int .i64 0)], false⟩),
  (61, ⟨.struct [(0, 59), (1, 3)], 2, 32, [.nil, .c (.int .i64 0)], false⟩),
  (64, ⟨.slice 132, 1, 24, [.nil], false⟩),
  (65, ⟨.struct [(0, 64), (1, 3)], 2, 32, [.nil, .c (.int .i64 0)], false⟩),
  (66, ⟨.struct [(0, 64), (1, 3)], 2, 32, [.nil, .c (.int .i64 0)], false⟩),
  (79, ⟨.struct [(0, 3), (1, 3)], 2, 16, [.c (.int .i64 0), .c (.int .i64 0)], true⟩),
  (80, ⟨.struct [(0, 3), (1, 3)], 2, 16, [.c (.int .i64 0), .c (.int .i64 0)], true⟩),
  (81, ⟨.struct [(0, 4), (1, 9), (2, 9), (3, 3), (4, 80)], 6, 64, [.c (.bool false), .c (.str ⟨#[]⟩), .c (.str ⟨#[]⟩), .c (.int .i64 0), .c (.int .i64 0), .c (.int .i64 0)], true⟩),
  (82, ⟨.struct [(0, 4), (1, 9), (2, 9), (3, 3), (4, 80)], 6, 64, [.c (.bool false), .c (.str ⟨#[]⟩), .c (.str ⟨#[]⟩), .c (.int .i64 0), .c (.int .i64 0), .c (.int .i64 0)], true⟩),
  (101, ⟨.slice 9, 1, 24, [.nil], false⟩),
  (106, ⟨.struct [(0, 9), (1, 9)], 2, 32, [.c (.str ⟨#[]⟩), .c (.str ⟨#[]⟩)], true⟩),
  (107, ⟨.struct [(0, 9), (1, 9)], 2, 32, [.c (.str ⟨#[]⟩), .c (.str ⟨#[]⟩)], true⟩),
  (117, ⟨.struct [(0, 9), (1, 3), (2, 3)], 3, 32, [.c (.str ⟨#[]⟩), .c (.int .i64 0), .c (.int .i64 0)], true⟩),
  (118, ⟨.struct [(0, 9), (1, 3), (2, 3)], 3, 32, [.c (.str ⟨#[]⟩), .c (.int .i64 0), .c (.int .i64 0)], true⟩),
  (120, ⟨.struct [(0, 9), (1, 80), (3, 3), (4, 80), (6, 3), (7, 4)], 8, 72, [.c (.str ⟨#[]⟩), .c (.int .i64 0), .c (.int .i64 0), .c (.int .i64 0), .c (.int .i64 0), .c (.int .i64 0), .c (.int .i64 0), .c (.bool false)], true⟩),
  (121, ⟨.struct [(0, 9), (1, 80), (3, 3), (4, 80), (6, 3), (7, 4)], 8, 72, [.c (.str ⟨#[]⟩), .c (.int .i64 0), .c (.int .i64 0), .c (.int .i64 0), .c (.int .i64 0), .c (.int .i64 0), .c (.int .i64 0), .c (.bool false)], true⟩),
  (131, ⟨.struct [(0, 80), (2, 22), (3, 33)], 7, 136, [.c (.int .i64 0), .c (.int .i64 0), .nil, .nil, .nil, .nil, .nil], false⟩),
  (132, ⟨.struct [(0, 80), (2, 22), (3, 33)], 7, 136, [.c (.int .i64 0), .c (.int .i64 0), .nil, .nil, .nil, .nil, .nil], false⟩),
  (139, ⟨.struct [(0, 9), (1, 3), (2, 3)], 3, 32, [.c (.str ⟨#[]⟩), .c (.int .i64 0), .c (.int .i64 0)], true⟩),
  (141, ⟨.struct [(0, 3), (1, 3)], 2, 16, [.c (.int .i64 0), .c (.int .i64 0)], true⟩),
  (142, ⟨.struct [(0, 4), (1, 9), (2, 9), (3, 3), (4, 141)], 6, 64, [.c (.bool false), .c (.str ⟨#[]⟩), .c (.str ⟨#[]⟩), .c (.int .i64 0), .c (.int .i64 0), .c (.int .i64 0)], true⟩),
  (143, ⟨.struct [(0, 4), (1, 9), (2, 9), (3, 3), (4, 141)], 6, 64, [.c (.bool false), .c (.str ⟨#[]⟩), .c (.str ⟨#[]⟩), .c (.int .i64 0), .c (.int .i64 0), .c (.int .i64 0)], true⟩),
  (145, ⟨.struct [(0, 9), (1, 141), (3, 3), (4, 141), (6, 3), (7, 4)], 8, 72, [.c (.str ⟨#[]⟩), .c (.int .i64 0), .c (.int .i64 0), .c (.int .i64 0), .c (.int .i64 0), .c (.int .i64 0), .c (.int .i64 0), .c (.bool false)], true⟩),
  (146, ⟨.struct [(0, 9), (1, 141), (3, 3), (4, 141), (6, 3), (7, 4)], 8, 72, [.c (.str ⟨#[]⟩), .c (.int .i64 0), .c (.int .i64 0), .c (.int .i64 0), .c (.int .i64 0), .c (.int .i64 0), .c (.int .i64 0), .c (.bool false)], true⟩),
  (178, ⟨.int .u64, 1, 8, [.c (.int .u64 0)], false⟩),
  (180, ⟨.slice 5, 1, 24, [.nil], false⟩),
  (188, ⟨.struct [(0, 141), (2, 22), (3, 27)], 7, 136, [.c (.int .i64 0), .c (.int .i64 0), .nil, .nil, .nil, .nil, .nil], false⟩),
  (189, ⟨.struct [(0, 141), (2, 22), (3, 27)], 7, 136, [.c (.int .i64 0), .c (.int .i64 0), .nil, .nil, .nil, .nil, .nil], false⟩),
  (198, ⟨.int .i64, 1, 8, [.c (.int .i64 0)], false⟩),
  (205, ⟨.int .u32, 1, 4, [.c (.int .u32 0)], false⟩),
  (207, ⟨.int .u64, 1, 8, [.c (.int .u64 0)], false⟩),
  (231, ⟨.int .u64, 1, 8, [.c (.int .u64 0)], false⟩),
  (256, ⟨.struct [(0, 255)], 0, 0, [], false⟩),
  (257, ⟨.struct [(0, 255)], 0, 0, [], false⟩),
  (259, ⟨.int .u8, 1, 1, [.c (.int .u8 0)], false⟩),
  (260, ⟨.int .u8, 1, 1, [.c (.int .u8 0)], false⟩),
  (263, ⟨.int .i32, 1, 4, [.c (.int .i32 0)], false⟩),
  (264, ⟨.int .i32, 1, 4, [.c (.int .i32 0)], false⟩)]
theorem TryzT_ok : TyOK Tryz.prog TryzT := ⟨by kernel_rfl, by kernel_rfl⟩
@[simp] theorem TryzT_2 : List.lookup 2 TryzT = some ⟨.int .i64, 1, 8, [.c (.int .i64 0)], false⟩ := by kernel_rfl
@[simp] theorem TryzT_3 : List.lookup 3 TryzT = some ⟨.int .i64, 1, 8, [.c (.int .i64 0)], false⟩ := by kernel_rfl
@[simp] theorem TryzT_4 : List.lookup 4 TryzT = some ⟨.bool, 1, 1, [.c (.bool false)], false⟩ := by kernel_rfl
@[simp] theorem TryzT_5 : List.lookup 5 TryzT = some ⟨.int .u8, 1, 1, [.c (.int .u8 0)], false⟩ := by kernel_rfl
@[simp] theorem TryzT_6 : List.lookup 6 TryzT = some ⟨.int .u8, 1, 1, [.c (.int .u8 0)], false⟩ := by kernel_rfl
@[simp] theorem TryzT_7 : List.lookup 7 TryzT = some ⟨.struct [(0, 2), (1, 3), (2, 4), (3, 6)], 4, 24, [.c (.int .i64 0), .c (.int .i64 0), .c (.bool false), .c (.int .u8 0)], true⟩ := by kernel_rfl
@[simp] theorem TryzT_8 : List.lookup 8 TryzT = some ⟨.struct [(0, 2), (1, 3), (2, 4), (3, 6)], 4, 24, [.c (.int .i64 0), .c (.int .i64 0), .c (.bool false), .c (.int .u8 0)], true⟩ := by kernel_rfl
@[simp] theorem TryzT_9 : List.lookup 9 TryzT = some ⟨.str, 1, 16, [.c (.str ⟨#[]⟩)], false⟩ := by kernel_rfl
@[simp] theorem TryzT_10 : List.lookup 10 TryzT = some ⟨.str, 1, 16, [.c (.str ⟨#[]⟩)], false⟩ := by kernel_rfl
@[simp] theorem TryzT_11 : List.lookup 11 TryzT = some ⟨.str, 1, 16, [.c (.str ⟨#[]⟩)], false⟩ := by kernel_rfl
@[simp] theorem TryzT_12 : List.lookup 12 TryzT = some ⟨.int .u64, 1, 8, [.c (.int .u64 0)], false⟩ := by kernel_rfl
@[simp] theorem TryzT_13 : List.lookup 13 TryzT = some ⟨.struct [(0, 9), (1, 12)], 2, 24, [.c (.str ⟨#[]⟩), .c (.int .u64 0)], false⟩ := by kernel_rfl
@[simp] theorem TryzT_14 : List.lookup 14 TryzT = some ⟨.struct [(0, 9), (1, 12)], 2, 24, [.c (.str ⟨#[]⟩), .c (.int .u64 0)], false⟩ := by kernel_rfl
@[simp] theorem TryzT_21 : List.lookup 21 TryzT = some ⟨.int .i32, 1, 4, [.c (.int .i32 0)], false⟩ := by kernel_rfl
@[simp] theorem TryzT_22 : List.lookup 22 TryzT = some ⟨.slice 3, 1, 24, [.nil], false⟩ := by kernel_rfl
@[simp] theorem TryzT_23 : List.lookup 23 TryzT = some ⟨.slice 139, 1, 24, [.nil], false⟩ := by kernel_rfl
@[simp] theorem TryzT_24 : List.lookup 24 TryzT = some ⟨.slice 143, 1, 24, [.nil], false⟩ := by kernel_rfl
@[simp] theorem TryzT_25 : List.lookup 25 TryzT = some ⟨.slice 146, 1, 24, [.nil], false⟩ := by kernel_rfl
@[simp] theorem TryzT_26 : List.lookup 26 TryzT = some ⟨.struct [(0, 22), (1, 23), (2, 24), (3, 25)], 4, 96, [.nil, .nil, .nil, .nil], false⟩ := by kernel_rfl
@[simp] theorem TryzT_27 : List.lookup 27 TryzT = some ⟨.struct [(0, 22), (1, 23), (2, 24), (3, 25)], 4, 96, [.nil, .nil, .nil, .nil], false⟩ := by kernel_rfl
@[simp] theorem TryzT_29 : List.lookup 29 TryzT = some ⟨.slice 118, 1, 24, [.nil], false⟩ := by kernel_rfl
@[simp] theorem TryzT_30 : List.lookup 30 TryzT = some ⟨.slice 82, 1, 24, [.nil], false⟩ := by kernel_rfl
@[simp] theorem TryzT_31 : List.lookup 31 TryzT = some ⟨.slice 121, 1, 24, [.nil], false⟩ := by kernel_rfl
@[simp] theorem TryzT_32 : List.lookup 32 TryzT = some ⟨.struct [(0, 22), (1, 29), (2, 30), (3, 31)], 4, 96, [.nil, .nil, .nil, .nil], false⟩ := by kernel_rfl
@[simp] theorem TryzT_33 : List.lookup 33 TryzT = some ⟨.struct [(0, 22), (1, 29), (2, 30), (3, 31)], 4, 96, [.nil, .nil, .nil, .nil], false⟩ := by kernel_rfl
@[simp] theorem TryzT_39 : List.lookup 39 TryzT = some ⟨.slice 107, 1, 24, [.nil], false⟩ := by kernel_rfl
@[simp] theorem TryzT_44 : List.lookup 44 TryzT = some ⟨.slice 80, 1, 24, [.nil], false⟩ := by kernel_rfl
@[simp] theorem TryzT_45 : List.lookup 45 TryzT = some ⟨.struct [(0, 22), (1, 22), (2, 29), (3, 30), (4, 44), (5, 31)], 6, 144, [.nil, .nil, .nil, .nil, .nil, .nil], false⟩ := by kernel_rfl
@[simp] theorem TryzT_46 : List.lookup 46 TryzT = some ⟨.struct [(0, 22), (1, 22), (2, 29), (3, 30), (4, 44), (5, 31)], 6, 144, [.nil, .nil, .nil, .nil, .nil, .nil], false⟩ := by kernel_rfl
@[simp] theorem TryzT_51 : List.lookup 51 TryzT = some ⟨.slice 141, 1, 24, [.nil], false⟩ := by kernel_rfl
@[simp] theorem TryzT_52 : List.lookup 52 TryzT = some ⟨.struct [(0, 22), (1, 22), (2, 23), (3, 24), (4, 51), (5, 25)], 6, 144, [.nil, .nil, .nil, .nil, .nil, .nil], false⟩ := by kernel_rfl
@[simp] theorem TryzT_53 : List.lookup 53 TryzT = some ⟨.struct [(0, 22), (1, 22), (2, 23), (3, 24), (4, 51), (5, 25)], 6, 144, [.nil, .nil, .nil, .nil, .nil, .nil], false⟩ := by kernel_rfl
@[simp] theorem TryzT_59 : List.lookup 59 TryzT = some ⟨.slice 189, 1, 24, [.nil], false⟩ := by kernel_rfl
@[simp] theorem TryzT_60 : List.lookup 60 TryzT = some ⟨.struct [(0, 59), (1, 3)], 2, 32, [.nil, .c (.int .i64 0)], false⟩ := by kernel_rfl
@[simp] theorem TryzT_61 : List.lookup 61 TryzT = some ⟨.struct [(0, 59), (1, 3)], 2, 32, [.nil, .c (.int .i64 0)], false⟩ := by kernel_rfl
@[simp] theorem TryzT_64 : List.lookup 64 TryzT = some ⟨.slice 132, 1, 24, [.nil], false⟩ := by kernel_rfl
@[simp] theorem TryzT_65 : List.lookup 65 TryzT = some ⟨.struct [(0, 64), (1, 3)], 2, 32, [.nil, .c (.int .i64 0)], false⟩ := by kernel_rfl
@[simp] theorem TryzT_66 : List.lookup 66 TryzT = some ⟨.struct [(0, 64), (1, 3)], 2, 32, [.nil, .c (.int .i64 0)], false⟩ := by kernel_rfl
@[simp] theorem TryzT_79 : List.lookup 79 TryzT = some ⟨.struct [(0, 3), (1, 3)], 2, 16, [.c (.int .i64 0), .c (.int .i64 0)], true⟩ := by kernel_rfl
@[simp] theorem TryzT_80 : List.lookup 80 TryzT = some ⟨.struct [(0, 3), (1, 3)], 2, 16, [.c (.int .i64 0), .c (.int .i64 0)], true⟩ := by kernel_rfl
@[simp] theorem TryzT_81 : List.lookup 81 TryzT = some ⟨.struct [(0, 4), (1, 9), (2, 9), (3, 3), (4, 80)], 6, 64, [.c (.bool false), .c (.str ⟨#[]⟩), .c (.str ⟨#[]⟩), .c (.int .i64 0), .c (.int .i64 0), .c (.int .i64 0)], true⟩ := by kernel_rfl
@[simp] theorem TryzT_82 : List.lookup 82 TryzT = some ⟨.struct [(0, 4), (1, 9), (2, 9), (3, 3), (4, 80)], 6, 64, [.c (.bool false), .c (.str ⟨#[]⟩), .c (.str ⟨#[]⟩), .c (.int .i64 0), .c (.int .i64 0), .c (.int .i64 0)], true⟩ := by kernel_rfl
@[simp] theorem TryzT_101 : List.lookup 101 TryzT = some ⟨.slice 9, 1, 24, [.nil], false⟩ := by kernel_rfl
@[simp] theorem TryzT_106 : List.lookup 106 TryzT = some ⟨.struct [(0, 9), (1, 9)], 2, 32, [.c (.str ⟨#[]⟩), .c (.str ⟨#[]⟩)], true⟩ := by kernel_rfl
@[simp] theorem TryzT_107 : List.lookup 107 TryzT = some ⟨.struct [(0, 9), (1, 9)], 2, 32, [.c (.str ⟨#[]⟩), .c (.str ⟨#[]⟩)], true⟩ := by kernel_rfl
@[simp] theorem TryzT_117 : List.lookup 117 TryzT = some ⟨.struct [(0, 9), (1, 3), (2, 3)], 3, 32, [.c (.str ⟨#[]⟩), .c (.int .i64 0), .c (.int .i64 0)], true⟩ := by kernel_rfl
@[simp] theorem TryzT_118 : List.lookup 118 TryzT = some ⟨.struct [(0, 9), (1, 3), (2, 3)], 3, 32, [.c (.str ⟨#[]⟩), .c (.int .i64 0), .c (.int .i64 0)], true⟩ := by kernel_rfl
@[simp] theorem TryzT_120 : List.lookup 120 TryzT = some ⟨.struct [(0, 9), (1, 80), (3, 3), (4, 80), (6, 3), (7, 4)], 8, 72, [.c (.str ⟨#[]⟩), .c (.int .i64 0), .c (.int .i64 0), .c (.int .i64 0), .c (.int .i64 0), .c (.int .i64 0), .c (.int .i64 0), .c (.bool false)], true⟩ := by kernel_rfl
@[simp] theorem TryzT_121 : List.lookup 121 TryzT = some ⟨.struct [(0, 9), (1, 80), (3, 3), (4, 80), (6, 3), (7, 4)], 8, 72, [.c (.str ⟨#[]⟩), .c (.int .i64 0), .c (.int .i64 0), .c (.int .i64 0), .c (.int .i64 0), .c (.int .i64 0), .c (.int .i64 0), .c (.bool false)], true⟩ := by kernel_rfl
@[simp] theorem TryzT_131 : List.lookup 131 TryzT = some ⟨.struct [(0, 80), (2, 22), (3, 33)], 7, 136, [.c (.int .i64 0), .c (.int .i64 0), .nil, .nil, .nil, .nil, .nil], false⟩ := by kernel_rfl
@[simp] theorem TryzT_132 : List.lookup 132 TryzT = some ⟨.struct [(0, 80), (2, 22), (3, 33)], 7, 136, [.c (.int .i64 0), .c (.int .i64 0), .nil, .nil, .nil, .nil, .nil], false⟩ := by kernel_rfl
@[simp] theorem TryzT_139 : List.lookup 139 TryzT = some ⟨.struct [(0, 9), (1, 3), (2, 3)], 3, 32, [.c (.str ⟨#[]⟩), .c (.int .i64 0), .c (.int .i64 0)], true⟩ := by kernel_rfl
@[simp] theorem TryzT_141 : List.lookup 141 TryzT = some ⟨.struct [(0, 3), (1, 3)], 2, 16, [.c (.int .i64 0), .c (.int .i64 0)], true⟩ := by kernel_rfl
@[simp] theorem TryzT_142 : List.lookup 142 TryzT = some ⟨.struct [(0, 4), (1, 9), (2, 9), (3, 3), (4, 141)], 6, 64, [.c (.bool false), .c (.str ⟨#[]⟩), .c (.str ⟨#[]⟩), .c (.int .i64 0), .c (.int .i64 0), .c (.int .i64 0)], true⟩ := by kernel_rfl
@[simp] theorem TryzT_143 : List.lookup 143 TryzT = some ⟨.struct [(0, 4), (1, 9), (2, 9), (3, 3), (4, 141)], 6, 64, [.c (.bool false), .c (.str ⟨#[]⟩), .c (.str ⟨#[]⟩), .c (.int .i64 0), .c (.int .i64 0), .c (.int .i64 0)], true⟩ := by kernel_rfl
@[simp] theorem TryzT_145 : List.lookup 145 TryzT = some ⟨.struct [(0, 9), (1, 141), (3, 3), (4, 141), (6, 3), (7, 4)], 8, 72, [.c (.str ⟨#[]⟩), .c (.int .i64 0), .c (.int .i64 0), .c (.int .i64 0), .c (.int .i64 0), .c (.int .i64 0), .c (.int .i64 0), .c (.bool false)], true⟩ := by kernel_rfl
@[simp] theorem TryzT_146 : List.lookup 146 TryzT = some ⟨.struct [(0, 9), (1, 141), (3, 3), (4, 141), (6, 3), (7, 4)], 8, 72, [.c (.str ⟨#[]⟩), .c (.int .i64 0), .c (.int .i64 0), .c (.int .i64 0), .c (.int .i64 0), .c (.int .i64 0), .c (.int .i64 0), .c (.bool false)], true⟩ := by kernel_rfl
@[simp] theorem TryzT_178 : List.lookup 178 TryzT = some ⟨.int .u64, 1, 8, [.c (.int .u64 0)], false⟩ := by kernel_rfl
@[simp] theorem TryzT_180 : List.lookup 180 TryzT = some ⟨.slice 5, 1, 24, [.nil], false⟩ := by kernel_rfl
@[simp] theorem TryzT_188 : List.lookup 188 TryzT = some ⟨.struct [(0, 141), (2, 22), (3, 27)], 7, 136, [.c (.int .i64 0), .c (.int .i64 0), .nil, .nil, .nil, .nil, .nil], false⟩ := by kernel_rfl
@[simp] theorem TryzT_189 : List.lookup 189 TryzT = some ⟨.struct [(0, 141), (2, 22), (3, 27)], 7, 136, [.c (.int .i64 0), .c (.int .i64 0), .nil, .nil, .nil, .nil, .nil], false⟩ := by kernel_rfl
@[simp] theorem TryzT_198 : List.lookup 198 TryzT = some ⟨.int .i64, 1, 8, [.c (.int .i64 0)], false⟩ := by kernel_rfl
@[simp] theorem TryzT_205 : List.lookup 205 TryzT = some ⟨.int .u32, 1, 4, [.c (.int .u32 0)], false⟩ := by kernel_rfl
@[simp] theorem TryzT_207 : List.lookup 207 TryzT = some ⟨.int .u64, 1, 8, [.c (.int .u64 0)], false⟩ := by kernel_rfl
@[simp] theorem TryzT_231 : List.lookup 231 TryzT = some ⟨.int .u64, 1, 8, [.c (.int .u64 0)], false⟩ := by kernel_rfl
@[simp] theorem TryzT_256 : List.lookup 256 TryzT = some ⟨.struct [(0, 255)], 0, 0, [], false⟩ := by kernel_rfl
@[simp] theorem TryzT_257 : List.lookup 257 TryzT = some ⟨.struct [(0, 255)], 0, 0, [], false⟩ := by kernel_rfl
@[simp] theorem TryzT_259 : List.lookup 259 TryzT = some ⟨.int .u8, 1, 1, [.c (.int .u8 0)], false⟩ := by kernel_rfl
@[simp] theorem TryzT_260 : List.lookup 260 TryzT = some ⟨.int .u8, 1, 1, [.c (.int .u8 0)], false⟩ := by kernel_rfl
@[simp] theorem TryzT_263 : List.lookup 263 TryzT = some ⟨.int .i32, 1, 4, [.c (.int .i32 0)], false⟩ := by kernel_rfl
@[simp] theorem TryzT_264 : List.lookup 264 TryzT = some ⟨.int .i32, 1, 4, [.c (.int .i32 0)], false⟩ := by kernel_rfl
end Am
