/- The types' table. No condition. -/
import Derived.Test.YtonemhaagbojeaaProg
import Derived.KernelRfl
import Derived.Test.YtonemhaagbojeaaL1
namespace Am
open Go Go.Proofs
def TryT : Am.Ty := [
  (2, ⟨.int .i64, 1, 8, [.c (.int .i64 0)], false⟩),
  (3, ⟨.int .i64, 1, 8, [.c (.int .i64 0)], false⟩),
  (4, ⟨.bool, 1, 1, [.c (.bool false)], false⟩),
  (5, ⟨.int .u8, 1, 1, [.c (.int .u8 0)], false⟩),
  (6, ⟨.int .u8, 1, 1, [.c (.int .u8 0)], false⟩),
  (7, ⟨.struct [(0, 2), (1, 3), (2, 4), (3, 6)], 4, 24, [.c (.int .i64 0), .c (.int .i64 0), .c (.bool false), .c (.int .u8 0)], true⟩),
  (8, ⟨.struct [(0, 2), (1, 3), (2, 4), (3, 6)], 4, 24, [.c (.int .i64 0), .c (.int .i64 0), .c (.bool false), .c (.int .u8 0)], true⟩),
  (9, ⟨.str, 1, 16, [.c (.str ⟨#[]⟩)], false⟩),
  (10, ⟨.str, 1, 16, [.c (.str ⟨#[]⟩)], false⟩),
  (11, ⟨.str, 1, 16, [.c (.str ⟨#[]⟩)], false⟩),
  (12, ⟨.int .u64, 1, 8, [.c (.int .u64 0)], false⟩),
  (13, ⟨.struct [(0, 9), (1, 12)], 2, 24, [.c (.str ⟨#[]⟩), .c (.int .u64 0)], false⟩),
  (14, ⟨.struct [(0, 9), (1, 12)], 2, 24, [.c (.str ⟨#[]⟩), .c (.int .u64 0)], false⟩),
  (21, ⟨.int .i32, 1, 4, [.c (.int .i32 0)], false⟩),
  (22, ⟨.slice 5, 1, 24, [.nil], false⟩),
  (24, ⟨.slice 3, 1, 24, [.nil], false⟩),
  (25, ⟨.slice 38, 1, 24, [.nil], false⟩),
  (26, ⟨.slice 40, 1, 24, [.nil], false⟩),
  (27, ⟨.slice 35, 1, 24, [.nil], false⟩),
  (28, ⟨.struct [(0, 24), (1, 25), (2, 26), (3, 27)], 4, 96, [.nil, .nil, .nil, .nil], false⟩),
  (29, ⟨.struct [(0, 24), (1, 25), (2, 26), (3, 27)], 4, 96, [.nil, .nil, .nil, .nil], false⟩),
  (32, ⟨.struct [(0, 3), (1, 3)], 2, 16, [.c (.int .i64 0), .c (.int .i64 0)], true⟩),
  (33, ⟨.struct [(0, 3), (1, 3)], 2, 16, [.c (.int .i64 0), .c (.int .i64 0)], true⟩),
  (34, ⟨.struct [(0, 9), (1, 33), (3, 3), (4, 33), (6, 3), (7, 4)], 8, 72, [.c (.str ⟨#[]⟩), .c (.int .i64 0), .c (.int .i64 0), .c (.int .i64 0), .c (.int .i64 0), .c (.int .i64 0), .c (.int .i64 0), .c (.bool false)], true⟩),
  (35, ⟨.struct [(0, 9), (1, 33), (3, 3), (4, 33), (6, 3), (7, 4)], 8, 72, [.c (.str ⟨#[]⟩), .c (.int .i64 0), .c (.int .i64 0), .c (.int .i64 0), .c (.int .i64 0), .c (.int .i64 0), .c (.int .i64 0), .c (.bool false)], true⟩),
  (37, ⟨.struct [(0, 9), (1, 3), (2, 3)], 3, 32, [.c (.str ⟨#[]⟩), .c (.int .i64 0), .c (.int .i64 0)], true⟩),
  (38, ⟨.struct [(0, 9), (1, 3), (2, 3)], 3, 32, [.c (.str ⟨#[]⟩), .c (.int .i64 0), .c (.int .i64 0)], true⟩),
  (39, ⟨.struct [(0, 4), (1, 9), (2, 9), (3, 3), (4, 33)], 6, 64, [.c (.bool false), .c (.str ⟨#[]⟩), .c (.str ⟨#[]⟩), .c (.int .i64 0), .c (.int .i64 0), .c (.int .i64 0)], true⟩),
  (40, ⟨.struct [(0, 4), (1, 9), (2, 9), (3, 3), (4, 33)], 6, 64, [.c (.bool false), .c (.str ⟨#[]⟩), .c (.str ⟨#[]⟩), .c (.int .i64 0), .c (.int .i64 0), .c (.int .i64 0)], true⟩),
  (53, ⟨.struct [(0, 33), (2, 3), (3, 24), (4, 3), (5, 9), (6, 9), (7, 3), (8, 33)], 10, 112, [.c (.int .i64 0), .c (.int .i64 0), .c (.int .i64 0), .nil, .c (.int .i64 0), .c (.str ⟨#[]⟩), .c (.str ⟨#[]⟩), .c (.int .i64 0), .c (.int .i64 0), .c (.int .i64 0)], false⟩),
  (54, ⟨.struct [(0, 33), (2, 3), (3, 24), (4, 3), (5, 9), (6, 9), (7, 3), (8, 33)], 10, 112, [.c (.int .i64 0), .c (.int .i64 0), .c (.int .i64 0), .nil, .c (.int .i64 0), .c (.str ⟨#[]⟩), .c (.str ⟨#[]⟩), .c (.int .i64 0), .c (.int .i64 0), .c (.int .i64 0)], false⟩),
  (59, ⟨.slice 54, 1, 24, [.nil], false⟩),
  (93, ⟨.struct [(0, 3), (1, 9), (2, 9), (3, 3), (4, 3)], 5, 56, [.c (.int .i64 0), .c (.str ⟨#[]⟩), .c (.str ⟨#[]⟩), .c (.int .i64 0), .c (.int .i64 0)], true⟩),
  (94, ⟨.struct [(0, 3), (1, 9), (2, 9), (3, 3), (4, 3)], 5, 56, [.c (.int .i64 0), .c (.str ⟨#[]⟩), .c (.str ⟨#[]⟩), .c (.int .i64 0), .c (.int .i64 0)], true⟩),
  (108, ⟨.struct [(0, 22), (1, 3), (2, 3)], 3, 40, [.nil, .c (.int .i64 0), .c (.int .i64 0)], false⟩),
  (109, ⟨.struct [(0, 22), (1, 3), (2, 3)], 3, 40, [.nil, .c (.int .i64 0), .c (.int .i64 0)], false⟩),
  (111, ⟨.slice 9, 1, 24, [.nil], false⟩),
  (129, ⟨.slice 29, 1, 24, [.nil], false⟩),
  (130, ⟨.int .u64, 1, 8, [.c (.int .u64 0)], false⟩),
  (142, ⟨.struct [(0, 141)], 0, 0, [], false⟩),
  (143, ⟨.struct [(0, 141)], 0, 0, [], false⟩),
  (145, ⟨.int .u32, 1, 4, [.c (.int .u32 0)], false⟩),
  (146, ⟨.int .u8, 1, 1, [.c (.int .u8 0)], false⟩),
  (147, ⟨.int .u8, 1, 1, [.c (.int .u8 0)], false⟩),
  (150, ⟨.int .i32, 1, 4, [.c (.int .i32 0)], false⟩),
  (151, ⟨.int .i32, 1, 4, [.c (.int .i32 0)], false⟩)]
theorem TryT_ok : TyOK Try.prog TryT := ⟨by kernel_rfl, by kernel_rfl⟩
@[simp] theorem TryT_2 : List.lookup 2 TryT = some ⟨.int .i64, 1, 8, [.c (.int .i64 0)], false⟩ := by kernel_rfl
@[simp] theorem TryT_3 : List.lookup 3 TryT = some ⟨.int .i64, 1, 8, [.c (.int .i64 0)], false⟩ := by kernel_rfl
@[simp] theorem TryT_4 : List.lookup 4 TryT = some ⟨.bool, 1, 1, [.c (.bool false)], false⟩ := by kernel_rfl
@[simp] theorem TryT_5 : List.lookup 5 TryT = some ⟨.int .u8, 1, 1, [.c (.int .u8 0)], false⟩ := by kernel_rfl
@[simp] theorem TryT_6 : List.lookup 6 TryT = some ⟨.int .u8, 1, 1, [.c (.int .u8 0)], false⟩ := by kernel_rfl
@[simp] theorem TryT_7 : List.lookup 7 TryT = some ⟨.struct [(0, 2), (1, 3), (2, 4), (3, 6)], 4, 24, [.c (.int .i64 0), .c (.int .i64 0), .c (.bool false), .c (.int .u8 0)], true⟩ := by kernel_rfl
@[simp] theorem TryT_8 : List.lookup 8 TryT = some ⟨.struct [(0, 2), (1, 3), (2, 4), (3, 6)], 4, 24, [.c (.int .i64 0), .c (.int .i64 0), .c (.bool false), .c (.int .u8 0)], true⟩ := by kernel_rfl
@[simp] theorem TryT_9 : List.lookup 9 TryT = some ⟨.str, 1, 16, [.c (.str ⟨#[]⟩)], false⟩ := by kernel_rfl
@[simp] theorem TryT_10 : List.lookup 10 TryT = some ⟨.str, 1, 16, [.c (.str ⟨#[]⟩)], false⟩ := by kernel_rfl
@[simp] theorem TryT_11 : List.lookup 11 TryT = some ⟨.str, 1, 16, [.c (.str ⟨#[]⟩)], false⟩ := by kernel_rfl
@[simp] theorem TryT_12 : List.lookup 12 TryT = some ⟨.int .u64, 1, 8, [.c (.int .u64 0)], false⟩ := by kernel_rfl
@[simp] theorem TryT_13 : List.lookup 13 TryT = some ⟨.struct [(0, 9), (1, 12)], 2, 24, [.c (.str ⟨#[]⟩), .c (.int .u64 0)], false⟩ := by kernel_rfl
@[simp] theorem TryT_14 : List.lookup 14 TryT = some ⟨.struct [(0, 9), (1, 12)], 2, 24, [.c (.str ⟨#[]⟩), .c (.int .u64 0)], false⟩ := by kernel_rfl
@[simp] theorem TryT_21 : List.lookup 21 TryT = some ⟨.int .i32, 1, 4, [.c (.int .i32 0)], false⟩ := by kernel_rfl
@[simp] theorem TryT_22 : List.lookup 22 TryT = some ⟨.slice 5, 1, 24, [.nil], false⟩ := by kernel_rfl
@[simp] theorem TryT_24 : List.lookup 24 TryT = some ⟨.slice 3, 1, 24, [.nil], false⟩ := by kernel_rfl
@[simp] theorem TryT_25 : List.lookup 25 TryT = some ⟨.slice 38, 1, 24, [.nil], false⟩ := by kernel_rfl
@[simp] theorem TryT_26 : List.lookup 26 TryT = some ⟨.slice 40, 1, 24, [.nil], false⟩ := by kernel_rfl
@[simp] theorem TryT_27 : List.lookup 27 TryT = some ⟨.slice 35, 1, 24, [.nil], false⟩ := by kernel_rfl
@[simp] theorem TryT_28 : List.lookup 28 TryT = some ⟨.struct [(0, 24), (1, 25), (2, 26), (3, 27)], 4, 96, [.nil, .nil, .nil, .nil], false⟩ := by kernel_rfl
@[simp] theorem TryT_29 : List.lookup 29 TryT = some ⟨.struct [(0, 24), (1, 25), (2, 26), (3, 27)], 4, 96, [.nil, .nil, .nil, .nil], false⟩ := by kernel_rfl
@[simp] theorem TryT_32 : List.lookup 32 TryT = some ⟨.struct [(0, 3), (1, 3)], 2, 16, [.c (.int .i64 0), .c (.int .i64 0)], true⟩ := by kernel_rfl
@[simp] theorem TryT_33 : List.lookup 33 TryT = some ⟨.struct [(0, 3), (1, 3)], 2, 16, [.c (.int .i64 0), .c (.int .i64 0)], true⟩ := by kernel_rfl
@[simp] theorem TryT_34 : List.lookup 34 TryT = some ⟨.struct [(0, 9), (1, 33), (3, 3), (4, 33), (6, 3), (7, 4)], 8, 72, [.c (.str ⟨#[]⟩), .c (.int .i64 0), .c (.int .i64 0), .c (.int .i64 0), .c (.int .i64 0), .c (.int .i64 0), .c (.int .i64 0), .c (.bool false)], true⟩ := by kernel_rfl
@[simp] theorem TryT_35 : List.lookup 35 TryT = some ⟨.struct [(0, 9), (1, 33), (3, 3), (4, 33), (6, 3), (7, 4)], 8, 72, [.c (.str ⟨#[]⟩), .c (.int .i64 0), .c (.int .i64 0), .c (.int .i64 0), .c (.int .i64 0), .c (.int .i64 0), .c (.int .i64 0), .c (.bool false)], true⟩ := by kernel_rfl
@[simp] theorem TryT_37 : List.lookup 37 TryT = some ⟨.struct [(0, 9), (1, 3), (2, 3)], 3, 32, [.c (.str ⟨#[]⟩), .c (.int .i64 0), .c (.int .i64 0)], true⟩ := by kernel_rfl
@[simp] theorem TryT_38 : List.lookup 38 TryT = some ⟨.struct [(0, 9), (1, 3), (2, 3)], 3, 32, [.c (.str ⟨#[]⟩), .c (.int .i64 0), .c (.int .i64 0)], true⟩ := by kernel_rfl
@[simp] theorem TryT_39 : List.lookup 39 TryT = some ⟨.struct [(0, 4), (1, 9), (2, 9), (3, 3), (4, 33)], 6, 64, [.c (.bool false), .c (.str ⟨#[]⟩), .c (.str ⟨#[]⟩), .c (.int .i64 0), .c (.int .i64 0), .c (.int .i64 0)], true⟩ := by kernel_rfl
@[simp] theorem TryT_40 : List.lookup 40 TryT = some ⟨.struct [(0, 4), (1, 9), (2, 9), (3, 3), (4, 33)], 6, 64, [.c (.bool false), .c (.str ⟨#[]⟩), .c (.str ⟨#[]⟩), .c (.int .i64 0), .c (.int .i64 0), .c (.int .i64 0)], true⟩ := by kernel_rfl
@[simp] theorem TryT_53 : List.lookup 53 TryT = some ⟨.struct [(0, 33), (2, 3), (3, 24), (4, 3), (5, 9), (6, 9), (7, 3), (8, 33)], 10, 112, [.c (.int .i64 0), .c (.int .i64 0), .c (.int .i64 0), .nil, .c (.int .i64 0), .c (.str ⟨#[]⟩), .c (.str ⟨#[]⟩), .c (.int .i64 0), .c (.int .i64 0), .c (.int .i64 0)], false⟩ := by kernel_rfl
@[simp] theorem TryT_54 : List.lookup 54 TryT = some ⟨.struct [(0, 33), (2, 3), (3, 24), (4, 3), (5, 9), (6, 9), (7, 3), (8, 33)], 10, 112, [.c (.int .i64 0), .c (.int .i64 0), .c (.int .i64 0), .nil, .c (.int .i64 0), .c (.str ⟨#[]⟩), .c (.str ⟨#[]⟩), .c (.int .i64 0), .c (.int .i64 0), .c (.int .i64 0)], false⟩ := by kernel_rfl
@[simp] theorem TryT_59 : List.lookup 59 TryT = some ⟨.slice 54, 1, 24, [.nil], false⟩ := by kernel_rfl
@[simp] theorem TryT_93 : List.lookup 93 TryT = some ⟨.struct [(0, 3), (1, 9), (2, 9), (3, 3), (4, 3)], 5, 56, [.c (.int .i64 0), .c (.str ⟨#[]⟩), .c (.str ⟨#[]⟩), .c (.int .i64 0), .c (.int .i64 0)], true⟩ := by kernel_rfl
@[simp] theorem TryT_94 : List.lookup 94 TryT = some ⟨.struct [(0, 3), (1, 9), (2, 9), (3, 3), (4, 3)], 5, 56, [.c (.int .i64 0), .c (.str ⟨#[]⟩), .c (.str ⟨#[]⟩), .c (.int .i64 0), .c (.int .i64 0)], true⟩ := by kernel_rfl
@[simp] theorem TryT_108 : List.lookup 108 TryT = some ⟨.struct [(0, 22), (1, 3), (2, 3)], 3, 40, [.nil, .c (.int .i64 0), .c (.int .i64 0)], false⟩ := by kernel_rfl
@[simp] theorem TryT_109 : List.lookup 109 TryT = some ⟨.struct [(0, 22), (1, 3), (2, 3)], 3, 40, [.nil, .c (.int .i64 0), .c (.int .i64 0)], false⟩ := by kernel_rfl
@[simp] theorem TryT_111 : List.lookup 111 TryT = some ⟨.slice 9, 1, 24, [.nil], false⟩ := by kernel_rfl
@[simp] theorem TryT_129 : List.lookup 129 TryT = some ⟨.slice 29, 1, 24, [.nil], false⟩ := by kernel_rfl
@[simp] theorem TryT_130 : List.lookup 130 TryT = some ⟨.int .u64, 1, 8, [.c (.int .u64 0)], false⟩ := by kernel_rfl
@[simp] theorem TryT_142 : List.lookup 142 TryT = some ⟨.struct [(0, 141)], 0, 0, [], false⟩ := by kernel_rfl
@[simp] theorem TryT_143 : List.lookup 143 TryT = some ⟨.struct [(0, 141)], 0, 0, [], false⟩ := by kernel_rfl
@[simp] theorem TryT_145 : List.lookup 145 TryT = some ⟨.int .u32, 1, 4, [.c (.int .u32 0)], false⟩ := by kernel_rfl
@[simp] theorem TryT_146 : List.lookup 146 TryT = some ⟨.int .u8, 1, 1, [.c (.int .u8 0)], false⟩ := by kernel_rfl
@[simp] theorem TryT_147 : List.lookup 147 TryT = some ⟨.int .u8, 1, 1, [.c (.int .u8 0)], false⟩ := by kernel_rfl
@[simp] theorem TryT_150 : List.lookup 150 TryT = some ⟨.int .i32, 1, 4, [.c (.int .i32 0)], false⟩ := by kernel_rfl
@[simp] theorem TryT_151 : List.lookup 151 TryT = some ⟨.int .i32, 1, 4, [.c (.int .i32 0)], false⟩ := by kernel_rfl
end Am
