/- The types' table. No condition. -/
import Derived.Test.YtmedpldnoehoiaaGreatProg
import Derived.KernelRfl
import Derived.Test.YtmedpldnoehoiaaGreatL1
namespace Am
open Go Go.Proofs
def TryzT : Am.Ty := [
  (2, ⟨.int .i64, 1, 8, [.c (.int .i64 0)], false⟩),
  (3, ⟨.int .i64, 1, 8, [.c (.int .i64 0)], false⟩),
  (4, ⟨.bool, 1, 1, [.c (.bool false)], false⟩),
  (5, ⟨.int .u8, 1, 1, [.c (.int .u8 0)], false⟩),
  (6, ⟨.int .u8, 1, 1, [.c (.int .u8 0)], false⟩),
  (7, ⟨.struct [(0, 2), (1, 3), (2, 4), (3, 6)], 4, 24, [.c (.int .i64 0), .c (.int .i64 0), .c (.bool false), .c (.int .u8 0)], true⟩),
  (8, ⟨.struct [(0, 2), (1, 3), (2, 4), (3, 6)], 4, 24, [.c (.int .i64 0), .c (.int .i64 0), .c (.bool false), .c (.int .u8 0)], true⟩),
  (9, ⟨.str, 1, 16, [.c (.str ⟨#[]⟩)], false⟩),
  (10, ⟨.str, 1, 16, [.c (.str ⟨#[]⟩)], false⟩),
  (11, ⟨.str, 1, 16, [.c (.str ⟨#[]⟩)], false⟩),
  (12, ⟨.int .u64, 1, 8, [.c (.int .u64 0)], false⟩),
  (13, ⟨.struct [(0, 9), (1, 12)], 2, 24, [.c (.str ⟨#[]⟩), .c (.int .u64 0)], false⟩),
  (14, ⟨.struct [(0, 9), (1, 12)], 2, 24, [.c (.str ⟨#[]⟩), .c (.int .u64 0)], false⟩),
  (21, ⟨.int .i32, 1, 4, [.c (.int .i32 0)], false⟩),
  (22, ⟨.slice 5, 1, 24, [.nil], false⟩),
  (24, ⟨.slice 3, 1, 24, [.nil], false⟩),
  (25, ⟨.slice 117, 1, 24, [.nil], false⟩),
  (26, ⟨.slice 107, 1, 24, [.nil], false⟩),
  (27, ⟨.slice 88, 1, 24, [.nil], false⟩),
  (28, ⟨.struct [(0, 24), (1, 25), (2, 26), (3, 27)], 4, 96, [.nil, .nil, .nil, .nil], false⟩),
  (29, ⟨.struct [(0, 24), (1, 25), (2, 26), (3, 27)], 4, 96, [.nil, .nil, .nil, .nil], false⟩),
  (37, ⟨.slice 43, 1, 24, [.nil], false⟩),
  (40, ⟨.struct [(0, 3), (1, 3)], 2, 16, [.c (.int .i64 0), .c (.int .i64 0)], true⟩),
  (41, ⟨.struct [(0, 3), (1, 3)], 2, 16, [.c (.int .i64 0), .c (.int .i64 0)], true⟩),
  (42, ⟨.struct [(0, 41), (2, 3), (3, 24), (4, 3), (5, 9), (6, 9), (7, 3), (8, 41)], 10, 112, [.c (.int .i64 0), .c (.int .i64 0), .c (.int .i64 0), .nil, .c (.int .i64 0), .c (.str ⟨#[]⟩), .c (.str ⟨#[]⟩), .c (.int .i64 0), .c (.int .i64 0), .c (.int .i64 0)], false⟩),
  (43, ⟨.struct [(0, 41), (2, 3), (3, 24), (4, 3), (5, 9), (6, 9), (7, 3), (8, 41)], 10, 112, [.c (.int .i64 0), .c (.int .i64 0), .c (.int .i64 0), .nil, .c (.int .i64 0), .c (.str ⟨#[]⟩), .c (.str ⟨#[]⟩), .c (.int .i64 0), .c (.int .i64 0), .c (.int .i64 0)], false⟩),
  (49, ⟨.slice 52, 1, 24, [.nil], false⟩),
  (51, ⟨.struct [(0, 9), (1, 9)], 2, 32, [.c (.str ⟨#[]⟩), .c (.str ⟨#[]⟩)], true⟩),
  (52, ⟨.struct [(0, 9), (1, 9)], 2, 32, [.c (.str ⟨#[]⟩), .c (.str ⟨#[]⟩)], true⟩),
  (53, ⟨.slice 41, 1, 24, [.nil], false⟩),
  (54, ⟨.struct [(0, 24), (1, 24), (2, 25), (3, 26), (4, 53), (5, 27)], 6, 144, [.nil, .nil, .nil, .nil, .nil, .nil], false⟩),
  (55, ⟨.struct [(0, 24), (1, 24), (2, 25), (3, 26), (4, 53), (5, 27)], 6, 144, [.nil, .nil, .nil, .nil, .nil, .nil], false⟩),
  (69, ⟨.struct [(0, 3), (1, 9), (2, 9), (3, 3), (4, 3)], 5, 56, [.c (.int .i64 0), .c (.str ⟨#[]⟩), .c (.str ⟨#[]⟩), .c (.int .i64 0), .c (.int .i64 0)], true⟩),
  (70, ⟨.struct [(0, 3), (1, 9), (2, 9), (3, 3), (4, 3)], 5, 56, [.c (.int .i64 0), .c (.str ⟨#[]⟩), .c (.str ⟨#[]⟩), .c (.int .i64 0), .c (.int .i64 0)], true⟩),
  (84, ⟨.slice 9, 1, 24, [.nil], false⟩),
  (87, ⟨.struct [(0, 9), (1, 41), (3, 3), (4, 41), (6, 3), (7, 4)], 8, 72, [.c (.str ⟨#[]⟩), .c (.int .i64 0), .c (.int .i64 0), .c (.int .i64 0), .c (.int .i64 0), .c (.int .i64 0), .c (.int .i64 0), .c (.bool false)], true⟩),
  (88, ⟨.struct [(0, 9), (1, 41), (3, 3), (4, 41), (6, 3), (7, 4)], 8, 72, [.c (.str ⟨#[]⟩), .c (.int .i64 0), .c (.int .i64 0), .c (.int .i64 0), .c (.int .i64 0), .c (.int .i64 0), .c (.int .i64 0), .c (.bool false)], true⟩),
  (106, ⟨.struct [(0, 4), (1, 9), (2, 9), (3, 3), (4, 41)], 6, 64, [.c (.bool false), .c (.str ⟨#[]⟩), .c (.str ⟨#[]⟩), .c (.int .i64 0), .c (.int .i64 0), .c (.int .i64 0)], true⟩),
  (107, ⟨.struct [(0, 4), (1, 9), (2, 9), (3, 3), (4, 41)], 6, 64, [.c (.bool false), .c (.str ⟨#[]⟩), .c (.str ⟨#[]⟩), .c (.int .i64 0), .c (.int .i64 0), .c (.int .i64 0)], true⟩),
  (116, ⟨.struct [(0, 9), (1, 3), (2, 3)], 3, 32, [.c (.str ⟨#[]⟩), .c (.int .i64 0), .c (.int .i64 0)], true⟩),
  (117, ⟨.struct [(0, 9), (1, 3), (2, 3)], 3, 32, [.c (.str ⟨#[]⟩), .c (.int .i64 0), .c (.int .i64 0)], true⟩),
  (159, ⟨.struct [(0, 22), (1, 3), (2, 3)], 3, 40, [.nil, .c (.int .i64 0), .c (.int .i64 0)], false⟩),
  (160, ⟨.struct [(0, 22), (1, 3), (2, 3)], 3, 40, [.nil, .c (.int .i64 0), .c (.int .i64 0)], false⟩),
  (171, ⟨.slice 29, 1, 24, [.nil], false⟩),
  (172, ⟨.int .u64, 1, 8, [.c (.int .u64 0)], false⟩),
  (195, ⟨.int .i64, 1, 8, [.c (.int .i64 0)], false⟩),
  (202, ⟨.int .u32, 1, 4, [.c (.int .u32 0)], false⟩),
  (204, ⟨.int .u64, 1, 8, [.c (.int .u64 0)], false⟩),
  (228, ⟨.int .u64, 1, 8, [.c (.int .u64 0)], false⟩),
  (262, ⟨.struct [(0, 261)], 0, 0, [], false⟩),
  (263, ⟨.struct [(0, 261)], 0, 0, [], false⟩),
  (265, ⟨.int .u8, 1, 1, [.c (.int .u8 0)], false⟩),
  (266, ⟨.int .u8, 1, 1, [.c (.int .u8 0)], false⟩),
  (269, ⟨.int .i32, 1, 4, [.c (.int .i32 0)], false⟩),
  (270, ⟨.int .i32, 1, 4, [.c (.int .i32 0)], false⟩)]
theorem TryzT_ok : TyOK Tryz.prog TryzT := ⟨by kernel_rfl, by kernel_rfl⟩
@[simp] theorem TryzT_2 : List.lookup 2 TryzT = some ⟨.int .i64, 1, 8, [.c (.int .i64 0)], false⟩ := by kernel_rfl
@[simp] theorem TryzT_3 : List.lookup 3 TryzT = some ⟨.int .i64, 1, 8, [.c (.int .i64 0)], false⟩ := by kernel_rfl
@[simp] theorem TryzT_4 : List.lookup 4 TryzT = some ⟨.bool, 1, 1, [.c (.bool false)], false⟩ := by kernel_rfl
@[simp] theorem TryzT_5 : List.lookup 5 TryzT = some ⟨.int .u8, 1, 1, [.c (.int .u8 0)], false⟩ := by kernel_rfl
@[simp] theorem TryzT_6 : List.lookup 6 TryzT = some ⟨.int .u8, 1, 1, [.c (.int .u8 0)], false⟩ := by kernel_rfl
@[simp] theorem TryzT_7 : List.lookup 7 TryzT = some ⟨.struct [(0, 2), (1, 3), (2, 4), (3, 6)], 4, 24, [.c (.int .i64 0), .c (.int .i64 0), .c (.bool false), .c (.int .u8 0)], true⟩ := by kernel_rfl
@[simp] theorem TryzT_8 : List.lookup 8 TryzT = some ⟨.struct [(0, 2), (1, 3), (2, 4), (3, 6)], 4, 24, [.c (.int .i64 0), .c (.int .i64 0), .c (.bool false), .c (.int .u8 0)], true⟩ := by kernel_rfl
@[simp] theorem TryzT_9 : List.lookup 9 TryzT = some ⟨.str, 1, 16, [.c (.str ⟨#[]⟩)], false⟩ := by kernel_rfl
@[simp] theorem TryzT_10 : List.lookup 10 TryzT = some ⟨.str, 1, 16, [.c (.str ⟨#[]⟩)], false⟩ := by kernel_rfl
@[simp] theorem TryzT_11 : List.lookup 11 TryzT = some ⟨.str, 1, 16, [.c (.str ⟨#[]⟩)], false⟩ := by kernel_rfl
@[simp] theorem TryzT_12 : List.lookup 12 TryzT = some ⟨.int .u64, 1, 8, [.c (.int .u64 0)], false⟩ := by kernel_rfl
@[simp] theorem TryzT_13 : List.lookup 13 TryzT = some ⟨.struct [(0, 9), (1, 12)], 2, 24, [.c (.str ⟨#[]⟩), .c (.int .u64 0)], false⟩ := by kernel_rfl
@[simp] theorem TryzT_14 : List.lookup 14 TryzT = some ⟨.struct [(0, 9), (1, 12)], 2, 24, [.c (.str ⟨#[]⟩), .c (.int .u64 0)], false⟩ := by kernel_rfl
@[simp] theorem TryzT_21 : List.lookup 21 TryzT = some ⟨.int .i32, 1, 4, [.c (.int .i32 0)], false⟩ := by kernel_rfl
@[simp] theorem TryzT_22 : List.lookup 22 TryzT = some ⟨.slice 5, 1, 24, [.nil], false⟩ := by kernel_rfl
@[simp] theorem TryzT_24 : List.lookup 24 TryzT = some ⟨.slice 3, 1, 24, [.nil], false⟩ := by kernel_rfl
@[simp] theorem TryzT_25 : List.lookup 25 TryzT = some ⟨.slice 117, 1, 24, [.nil], false⟩ := by kernel_rfl
@[simp] theorem TryzT_26 : List.lookup 26 TryzT = some ⟨.slice 107, 1, 24, [.nil], false⟩ := by kernel_rfl
@[simp] theorem TryzT_27 : List.lookup 27 TryzT = some ⟨.slice 88, 1, 24, [.nil], false⟩ := by kernel_rfl
@[simp] theorem TryzT_28 : List.lookup 28 TryzT = some ⟨.struct [(0, 24), (1, 25), (2, 26), (3, 27)], 4, 96, [.nil, .nil, .nil, .nil], false⟩ := by kernel_rfl
@[simp] theorem TryzT_29 : List.lookup 29 TryzT = some ⟨.struct [(0, 24), (1, 25), (2, 26), (3, 27)], 4, 96, [.nil, .nil, .nil, .nil], false⟩ := by kernel_rfl
@[simp] theorem TryzT_37 : List.lookup 37 TryzT = some ⟨.slice 43, 1, 24, [.nil], false⟩ := by kernel_rfl
@[simp] theorem TryzT_40 : List.lookup 40 TryzT = some ⟨.struct [(0, 3), (1, 3)], 2, 16, [.c (.int .i64 0), .c (.int .i64 0)], true⟩ := by kernel_rfl
@[simp] theorem TryzT_41 : List.lookup 41 TryzT = some ⟨.struct [(0, 3), (1, 3)], 2, 16, [.c (.int .i64 0), .c (.int .i64 0)], true⟩ := by kernel_rfl
@[simp] theorem TryzT_42 : List.lookup 42 TryzT = some ⟨.struct [(0, 41), (2, 3), (3, 24), (4, 3), (5, 9), (6, 9), (7, 3), (8, 41)], 10, 112, [.c (.int .i64 0), .c (.int .i64 0), .c (.int .i64 0), .nil, .c (.int .i64 0), .c (.str ⟨#[]⟩), .c (.str ⟨#[]⟩), .c (.int .i64 0), .c (.int .i64 0), .c (.int .i64 0)], false⟩ := by kernel_rfl
@[simp] theorem TryzT_43 : List.lookup 43 TryzT = some ⟨.struct [(0, 41), (2, 3), (3, 24), (4, 3), (5, 9), (6, 9), (7, 3), (8, 41)], 10, 112, [.c (.int .i64 0), .c (.int .i64 0), .c (.int .i64 0), .nil, .c (.int .i64 0), .c (.str ⟨#[]⟩), .c (.str ⟨#[]⟩), .c (.int .i64 0), .c (.int .i64 0), .c (.int .i64 0)], false⟩ := by kernel_rfl
@[simp] theorem TryzT_49 : List.lookup 49 TryzT = some ⟨.slice 52, 1, 24, [.nil], false⟩ := by kernel_rfl
@[simp] theorem TryzT_51 : List.lookup 51 TryzT = some ⟨.struct [(0, 9), (1, 9)], 2, 32, [.c (.str ⟨#[]⟩), .c (.str ⟨#[]⟩)], true⟩ := by kernel_rfl
@[simp] theorem TryzT_52 : List.lookup 52 TryzT = some ⟨.struct [(0, 9), (1, 9)], 2, 32, [.c (.str ⟨#[]⟩), .c (.str ⟨#[]⟩)], true⟩ := by kernel_rfl
@[simp] theorem TryzT_53 : List.lookup 53 TryzT = some ⟨.slice 41, 1, 24, [.nil], false⟩ := by kernel_rfl
@[simp] theorem TryzT_54 : List.lookup 54 TryzT = some ⟨.struct [(0, 24), (1, 24), (2, 25), (3, 26), (4, 53), (5, 27)], 6, 144, [.nil, .nil, .nil, .nil, .nil, .nil], false⟩ := by kernel_rfl
@[simp] theorem TryzT_55 : List.lookup 55 TryzT = some ⟨.struct [(0, 24), (1, 24), (2, 25), (3, 26), (4, 53), (5, 27)], 6, 144, [.nil, .nil, .nil, .nil, .nil, .nil], false⟩ := by kernel_rfl
@[simp] theorem TryzT_69 : List.lookup 69 TryzT = some ⟨.struct [(0, 3), (1, 9), (2, 9), (3, 3), (4, 3)], 5, 56, [.c (.int .i64 0), .c (.str ⟨#[]⟩), .c (.str ⟨#[]⟩), .c (.int .i64 0), .c (.int .i64 0)], true⟩ := by kernel_rfl
@[simp] theorem TryzT_70 : List.lookup 70 TryzT = some ⟨.struct [(0, 3), (1, 9), (2, 9), (3, 3), (4, 3)], 5, 56, [.c (.int .i64 0), .c (.str ⟨#[]⟩), .c (.str ⟨#[]⟩), .c (.int .i64 0), .c (.int .i64 0)], true⟩ := by kernel_rfl
@[simp] theorem TryzT_84 : List.lookup 84 TryzT = some ⟨.slice 9, 1, 24, [.nil], false⟩ := by kernel_rfl
@[simp] theorem TryzT_87 : List.lookup 87 TryzT = some ⟨.struct [(0, 9), (1, 41), (3, 3), (4, 41), (6, 3), (7, 4)], 8, 72, [.c (.str ⟨#[]⟩), .c (.int .i64 0), .c (.int .i64 0), .c (.int .i64 0), .c (.int .i64 0), .c (.int .i64 0), .c (.int .i64 0), .c (.bool false)], true⟩ := by kernel_rfl
@[simp] theorem TryzT_88 : List.lookup 88 TryzT = some ⟨.struct [(0, 9), (1, 41), (3, 3), (4, 41), (6, 3), (7, 4)], 8, 72, [.c (.str ⟨#[]⟩), .c (.int .i64 0), .c (.int .i64 0), .c (.int .i64 0), .c (.int .i64 0), .c (.int .i64 0), .c (.int .i64 0), .c (.bool false)], true⟩ := by kernel_rfl
@[simp] theorem TryzT_106 : List.lookup 106 TryzT = some ⟨.struct [(0, 4), (1, 9), (2, 9), (3, 3), (4, 41)], 6, 64, [.c (.bool false), .c (.str ⟨#[]⟩), .c (.str ⟨#[]⟩), .c (.int .i64 0), .c (.int .i64 0), .c (.int .i64 0)], true⟩ := by kernel_rfl
@[simp] theorem TryzT_107 : List.lookup 107 TryzT = some ⟨.struct [(0, 4), (1, 9), (2, 9), (3, 3), (4, 41)], 6, 64, [.c (.bool false), .c (.str ⟨#[]⟩), .c (.str ⟨#[]⟩), .c (.int .i64 0), .c (.int .i64 0), .c (.int .i64 0)], true⟩ := by kernel_rfl
@[simp] theorem TryzT_116 : List.lookup 116 TryzT = some ⟨.struct [(0, 9), (1, 3), (2, 3)], 3, 32, [.c (.str ⟨#[]⟩), .c (.int .i64 0), .c (.int .i64 0)], true⟩ := by kernel_rfl
@[simp] theorem TryzT_117 : List.lookup 117 TryzT = some ⟨.struct [(0, 9), (1, 3), (2, 3)], 3, 32, [.c (.str ⟨#[]⟩), .c (.int .i64 0), .c (.int .i64 0)], true⟩ := by kernel_rfl
@[simp] theorem TryzT_159 : List.lookup 159 TryzT = some ⟨.struct [(0, 22), (1, 3), (2, 3)], 3, 40, [.nil, .c (.int .i64 0), .c (.int .i64 0)], false⟩ := by kernel_rfl
@[simp] theorem TryzT_160 : List.lookup 160 TryzT = some ⟨.struct [(0, 22), (1, 3), (2, 3)], 3, 40, [.nil, .c (.int .i64 0), .c (.int .i64 0)], false⟩ := by kernel_rfl
@[simp] theorem TryzT_171 : List.lookup 171 TryzT = some ⟨.slice 29, 1, 24, [.nil], false⟩ := by kernel_rfl
@[simp] theorem TryzT_172 : List.lookup 172 TryzT = some ⟨.int .u64, 1, 8, [.c (.int .u64 0)], false⟩ := by kernel_rfl
@[simp] theorem TryzT_195 : List.lookup 195 TryzT = some ⟨.int .i64, 1, 8, [.c (.int .i64 0)], false⟩ := by kernel_rfl
@[simp] theorem TryzT_202 : List.lookup 202 TryzT = some ⟨.int .u32, 1, 4, [.c (.int .u32 0)], false⟩ := by kernel_rfl
@[simp] theorem TryzT_204 : List.lookup 204 TryzT = some ⟨.int .u64, 1, 8, [.c (.int .u64 0)], false⟩ := by kernel_rfl
@[simp] theorem TryzT_228 : List.lookup 228 TryzT = some ⟨.int .u64, 1, 8, [.c (.int .u64 0)], false⟩ := by kernel_rfl
@[simp] theorem TryzT_262 : List.lookup 262 TryzT = some ⟨.struct [(0, 261)], 0, 0, [], false⟩ := by kernel_rfl
@[simp] theorem TryzT_263 : List.lookup 263 TryzT = some ⟨.struct [(0, 261)], 0, 0, [], false⟩ := by kernel_rfl
@[simp] theorem TryzT_265 : List.lookup 265 TryzT = some ⟨.int .u8, 1, 1, [.c (.int .u8 0)], false⟩ := by kernel_rfl
@[simp] theorem TryzT_266 : List.lookup 266 TryzT = some ⟨.int .u8, 1, 1, [.c (.int .u8 0)], false⟩ := by kernel_rfl
@[simp] theorem TryzT_269 : List.lookup 269 TryzT = some ⟨.int .i32, 1, 4, [.c (.int .i32 0)], false⟩ := by kernel_rfl
@[simp] theorem TryzT_270 : List.lookup 270 TryzT = some ⟨.int .i32, 1, 4, [.c (.int .i32 0)], false⟩ := by kernel_rfl
end Am
