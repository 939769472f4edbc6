/- Sums of texts; what is sealed. No condition. -/
import Derived.Test.YtkndgnnfgdfcbaaGreatT
import Derived.Test.YtkndgnnfgdfcbaaGreatD
import Derived.Test.YtkndgnnfgdfcbaaGreatE11
namespace Am
open Go Go.Proofs
open Cel (cells)
set_option maxRecDepth 100000
set_option linter.unusedSimpArgs false
set_option linter.unusedVariables false

/-- one way of two, bit by bit -/
def xor32 (a b : Int) : Int := IntKind.u32.wrap (BitVec.ofInt 32 a ^^^ BitVec.ofInt 32 b).toNat
@[simp ↓ high] theorem xor_u32 (a b : Int) : abits .u32 (BitVec.ofInt IntKind.u32.bits a ^^^ BitVec.ofInt IntKind.u32.bits b) = .int .u32 (xor32 a b) := rfl
def bit1 (s : Int) : Int := if s.tmod 2 = 1 then xor32 (IntKind.u32.wrap (s.tdiv 2)) 3558460437 else IntKind.u32.wrap (s.tdiv 2)
def bitK : Nat → Int → Int
  | 0, s => s
  | k + 1, s => bit1 (bitK k s)
def sumK (t : ByteArray) : Nat → Int → Int
  | 0, s => s
  | i + 1, s => bitK 8 (xor32 (sumK t i s) (IntKind.u32.wrap (bt t i)))
def sumMore (s : Int) (t : ByteArray) : Int := sumK t t.size s

@[simp] def h171 : Hts := {  }
theorem f171_ok (s : Int) (t : ByteArray) (ht : t.size ≤ 1073741824) : FnR Tryz.prog 171 [.v (.int .u32 s), .v (.str t)] (.v (.int .u32 (sumMore s t))) := by
  refine FnW.of_AW TryzT_ok 0 (fn := Tryz.f171) (by kernel_rfl) rfl (by kernel_rfl) rfl rfl rfl ?_
  refine AW_of h171 TryzT_ok (by kernel_rfl) ?_
  simp -dsimp
  refine AWh_loop (fun i : Nat => i ≤ t.size) (fun i => mkE [(0, .c (.int .u32 (sumK t i s))), (1, .c (.str t)), (5, .c (.int .i64 i))] []) (fun i => t.size - i) 0 (Wk_to [0, 1, 5] [] rfl rfl (by simp [sumK])) (by simp) ?_
  rintro i hi
  refine AW_of h171 TryzT_ok (by kernel_rfl) ?_
  rcases Nat.lt_or_ge i t.size with h1 | h1
  · simp -dsimp [h1, ne_of_lt h1]
    refine AWh_loop (fun k : Nat => k ≤ 8) (fun k => mkE [(0, .c (.int .u32 (bitK k (xor32 (sumK t i s) (IntKind.u32.wrap (bt t i)))))), (1, .c (.str t)), (5, .c (.int .i64 i)), (19, .c (.int .i64 k))] []) (fun k => 8 - k) 0 (Wk_to [0, 1, 5, 19] [] rfl rfl (by simp [bitK, xor_u32])) (by simp) ?_
    rintro k hk
    refine AW_of h171 TryzT_ok (by kernel_rfl) ?_
    rcases Nat.lt_or_ge k 8 with k1 | k1
    · have ki : (k : Int) < 8 := by omega
      simp -dsimp [ki, xor_u32]
      refine ⟨fun h => ?_, fun h => ?_⟩
      · exact Back_of (k + 1) [0, 1, 5, 19] [] rfl rfl (by simp [bitK, bit1, xor_u32, h]; rw [wrap64 (by omega) (by omega)]) (by omega) (by omega)
      · exact Back_of (k + 1) [0, 1, 5, 19] [] rfl rfl (by simp [bitK, bit1, xor_u32, h]; rw [wrap64 (by omega) (by omega)]) (by omega) (by omega)
    · obtain rfl : k = 8 := by omega
      simp -dsimp
      exact Back_of (i + 1) [0, 1, 5] [] rfl rfl (by simp [sumK]; rw [wrap64 (by omega) (by omega)]) (by omega) (by omega)
  · obtain rfl : i = t.size := by omega
    simp -dsimp
    rfl

@[simp] def h156 : Hts := {  }
theorem f156_ok (s : Int) (t : ByteArray) (ht : t.size ≤ 1073741824) : FnR Tryz.prog 156 [.v (.int .u32 s), .v (.str t)] (.v (.int .u32 (sumMore s t))) := by
  refine FnW.of_AW TryzT_ok 0 (fn := Tryz.f156) (by kernel_rfl) rfl (by kernel_rfl) rfl rfl rfl ?_
  refine AW_of h156 TryzT_ok (by kernel_rfl) ?_
  simp -dsimp
  refine AWh_loop (fun i : Nat => i ≤ t.size) (fun i => mkE [(0, .c (.int .u32 (sumK t i s))), (1, .c (.str t)), (5, .c (.int .i64 i))] []) (fun i => t.size - i) 0 (Wk_to [0, 1, 5] [] rfl rfl (by simp [sumK])) (by simp) ?_
  rintro i hi
  refine AW_of h156 TryzT_ok (by kernel_rfl) ?_
  rcases Nat.lt_or_ge i t.size with h1 | h1
  · simp -dsimp [h1, ne_of_lt h1]
    refine AWh_loop (fun k : Nat => k ≤ 8) (fun k => mkE [(0, .c (.int .u32 (bitK k (xor32 (sumK t i s) (IntKind.u32.wrap (bt t i)))))), (1, .c (.str t)), (5, .c (.int .i64 i)), (6, .c (.int .i64 k))] []) (fun k => 8 - k) 0 (Wk_to [0, 1, 5, 6] [] rfl rfl (by simp [bitK, xor_u32])) (by simp) ?_
    rintro k hk
    refine AW_of h156 TryzT_ok (by kernel_rfl) ?_
    rcases Nat.lt_or_ge k 8 with k1 | k1
    · have ki : (k : Int) < 8 := by omega
      simp -dsimp [ki, xor_u32]
      refine ⟨fun h => ?_, fun h => ?_⟩
      · exact Back_of (k + 1) [0, 1, 5, 6] [] rfl rfl (by simp [bitK, bit1, xor_u32, h]; rw [wrap64 (by omega) (by omega)]) (by omega) (by omega)
      · exact Back_of (k + 1) [0, 1, 5, 6] [] rfl rfl (by simp [bitK, bit1, xor_u32, h]; rw [wrap64 (by omega) (by omega)]) (by omega) (by omega)
    · obtain rfl : k = 8 := by omega
      simp -dsimp
      exact Back_of (i + 1) [0, 1, 5] [] rfl rfl (by simp [sumK]; rw [wrap64 (by omega) (by omega)]) (by omega) (by omega)
  · obtain rfl : i = t.size := by omega
    simp -dsimp
    rfl

end Am
