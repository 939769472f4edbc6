/- What is sealed. No condition. -/
import Derived.Test.YtkndgnnfgdfcbaaGreatT
import Derived.Test.YtkndgnnfgdfcbaaGreatD
import Derived.Test.YtkndgnnfgdfcbaaGreatE12
namespace Am
open Go Go.Proofs
open Cel (cells)
set_option maxRecDepth 100000
set_option linter.unusedSimpArgs false
set_option linter.unusedVariables false

theorem u32_range (x : Int) : 0 ≤ IntKind.u32.wrap x ∧ IntKind.u32.wrap x < 4294967296 := by
  have h1 : IntKind.u32.wrap x = x % 4294967296 := rfl
  omega
theorem xor32_range (a b : Int) : 0 ≤ xor32 a b ∧ xor32 a b < 4294967296 := u32_range _
theorem bit1_range (s : Int) : 0 ≤ bit1 s ∧ bit1 s < 4294967296 := by
  unfold bit1
  split
  · exact xor32_range _ _
  · exact u32_range _
theorem bitK_range {s : Int} (h : 0 ≤ s ∧ s < 4294967296) : ∀ k, 0 ≤ bitK k s ∧ bitK k s < 4294967296
  | 0 => h
  | k + 1 => bit1_range _
theorem sumK_range {t : ByteArray} {s : Int} (h : 0 ≤ s ∧ s < 4294967296) : ∀ i, 0 ≤ sumK t i s ∧ sumK t i s < 4294967296
  | 0 => h
  | i + 1 => bitK_range (xor32_range _ _) 8
def sumOf (t : ByteArray) : Int := sumMore 4294967295 t
theorem sumOf_range (t : ByteArray) : 0 ≤ sumOf t ∧ sumOf t < 4294967296 := sumK_range (by decide) _
def fourL (s : Int) : List UInt8 := [u8 (s / 16777216), u8 (s / 65536), u8 (s / 256), u8 s]
def fourS (s : Int) : ByteArray := str (fourL s)
theorem u8_of (v : Int) : UInt8.ofNat (IntKind.u8.wrap v).toNat = u8 v := by
  rw [u8_wrap]; simp
theorem u8_range (v : Int) : 0 ≤ IntKind.u8.wrap v ∧ IntKind.u8.wrap v < 256 := by
  have h1 : IntKind.u8.wrap v = v % 256 := rfl
  omega
theorem u8_mod (v : Int) : u8 (v % 256) = u8 v := by
  unfold u8; congr 2; omega

@[simp] def h95 : Hts := {  }
theorem f95_ok (t : ByteArray) (ht : t.size ≤ 1073741824) : FnR Tryz.prog 95 [.v (.str t)] (.v (.int .u32 (sumOf t))) := by
  refine FnW.of_AW TryzT_ok 0 (fn := Tryz.f95) (by kernel_rfl) rfl (by kernel_rfl) rfl rfl rfl ?_
  refine AW_of h95 TryzT_ok (by kernel_rfl) ?_
  simp -dsimp
  refine ACallK_of (f156_ok _ _ ht) ?_
  simp -dsimp
  rfl
@[simp] def h108 : Hts := {  }
theorem f108_ok (t : ByteArray) (ht : t.size ≤ 1073741824) : FnR Tryz.prog 108 [.v (.str t)] (.v (.int .u32 (sumOf t))) := by
  refine FnW.of_AW TryzT_ok 0 (fn := Tryz.f108) (by kernel_rfl) rfl (by kernel_rfl) rfl rfl rfl ?_
  refine AW_of h108 TryzT_ok (by kernel_rfl) ?_
  simp -dsimp
  refine ACallK_of (f171_ok _ _ ht) ?_
  simp -dsimp
  rfl
@[simp] def h94 : Hts := {  }
theorem f94_ok (s : Int) (h0 : 0 ≤ s) (h1 : s < 4294967296) : FnR Tryz.prog 94 [.v (.int .u32 s)] (.v (.str (fourS s))) := by
  have e1 : s.fdiv (2 ^ min 24 IntKind.u32.bits) = s / 16777216 := Int.fdiv_eq_ediv_of_nonneg _ (by decide)
  have e2 : s.fdiv (2 ^ min 16 IntKind.u32.bits) = s / 65536 := Int.fdiv_eq_ediv_of_nonneg _ (by decide)
  have e3 : s.fdiv (2 ^ min 8 IntKind.u32.bits) = s / 256 := Int.fdiv_eq_ediv_of_nonneg _ (by decide)
  refine FnW.of_AW TryzT_ok 0 (fn := Tryz.f94) (by kernel_rfl) rfl (by kernel_rfl) rfl rfl rfl ?_
  refine AW_of h94 TryzT_ok (by kernel_rfl) ?_
  simp -dsimp [e1, e2, e3]
  refine ⟨⟨u8_range _, u8_range _, u8_range _, u8_range _, trivial⟩, ?_⟩
  simp only [bytesOf, u8_of]
  rfl
def and64 (a b : Int) : Int := IntKind.i64.wrap (BitVec.ofInt 64 a &&& BitVec.ofInt 64 b).toNat
@[simp ↓ high] theorem and_i64 (a b : Int) : abits .i64 (BitVec.ofInt IntKind.i64.bits a &&& BitVec.ofInt IntKind.i64.bits b) = .int .i64 (and64 a b) := rfl
theorem and_255 {a : Int} (h : 0 ≤ a) (h' : a < 9223372036854775808) : and64 a 255 = a % 256 := by
  obtain ⟨n, rfl⟩ := Int.eq_ofNat_of_zero_le h
  unfold and64
  have e : (BitVec.ofInt 64 (n : Int) &&& BitVec.ofInt 64 255).toNat = n % 256 := by
    rw [BitVec.toNat_and]
    have e1 : (BitVec.ofInt 64 (n : Int)).toNat = n := by
      rw [BitVec.ofInt_natCast, BitVec.toNat_ofNat]; omega
    have e2 : (BitVec.ofInt 64 255).toNat = 255 := by decide
    rw [e1, e2]
    exact Nat.and_two_pow_sub_one_eq_mod n 8
  rw [e, wrap64 (by omega) (by omega)]
  omega
def hfL (s : Int) : Nat → List UInt8
  | 0 => List.replicate 4 0
  | j + 1 => (hfL s j).set (3 - j) (u8 (s / 256 ^ j))
theorem hfL_len (s : Int) : ∀ j, (hfL s j).length = 4
  | 0 => rfl
  | j + 1 => by rw [hfL, List.length_set, hfL_len s j]
theorem hfL_four (s : Int) : hfL s 4 = fourL s := by
  simp [hfL, fourL, List.replicate]
@[simp] def h107 : Hts := {  }
theorem f107_ok (s : Int) (h0 : 0 ≤ s) (h1 : s < 4294967296) : FnR Tryz.prog 107 [.v (.int .i64 s), .v (.int .i64 4)] (.v (.str (fourS s))) := by
  refine FnW.of_AW TryzT_ok 0 (fn := Tryz.f107) (by kernel_rfl) rfl (by kernel_rfl) rfl rfl rfl ?_
  refine AW_of h107 TryzT_ok (by kernel_rfl) ?_
  simp -dsimp
  refine ⟨by decide, ?_⟩
  refine AWh_loop (fun j : Nat => j ≤ 4) (fun j => mkE [(0, .c (.int .i64 (s / 256 ^ j))), (5, .arr 512), (6, .c (.int .i64 (3 - j)))] [(512, .arr 0 5 1 4 (flat (hfL s j)))]) (fun j => 4 - j) 0 (Wk_to [0, 5, 6] [(512, 512)] rfl rfl (by simp [hfL]; rfl)) (by simp) ?_
  rintro j hj
  have hl := hfL_len s j
  refine AW_of h107 TryzT_ok (by kernel_rfl) ?_
  have d1 : 0 ≤ s / 256 ^ j := Int.ediv_nonneg h0 (Int.pow_nonneg (by decide))
  have d2 : s / 256 ^ j ≤ s := Int.ediv_le_self _ h0
  rcases Nat.lt_or_ge j 4 with k1 | k1
  · have t1 : ((3 : Int) - j).toNat = 3 - j := by omega
    have hk : (j : Int) ≤ 3 := by omega
    have hm : 3 - j < (hfL s j).length := by omega
    have ha : and64 (s / 256 ^ j) 255 = s / 256 ^ j % 256 := and_255 d1 (by omega)
    have hs : (s / 256 ^ j).fdiv (2 ^ min 8 IntKind.i64.bits) = s / 256 ^ (j + 1) := by
      rw [Int.pow_succ, ← Int.ediv_ediv_of_nonneg (Int.pow_nonneg (by decide))]
      exact Int.fdiv_eq_ediv_of_nonneg _ (by decide)
    have hw : IntKind.i64.wrap ((3 : Int) - j - 1) = 3 - ((j + 1 : Nat) : Int) := by rw [wrap64 (by omega) (by omega)]; omega
    simp -dsimp [hk, t1, ha, hm]
    refine ⟨by omega, by omega, ?_⟩
    exact Back_of (j + 1) [0, 5, 6] [(512, 512)] rfl rfl (by simp only [hfL, u8_mod, hs, hw]; rfl) (by omega) (by omega)
  · obtain rfl : j = 4 := by omega
    simp -dsimp [hfL_four]
    simp [fourS, str, fourL]
end Am
