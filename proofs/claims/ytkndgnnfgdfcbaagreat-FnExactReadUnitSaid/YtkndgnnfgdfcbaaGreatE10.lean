/- Numbers in bytes. No condition. -/
import Derived.Test.YtkndgnnfgdfcbaaGreatT
import Derived.Test.YtkndgnnfgdfcbaaGreatD
import Derived.Test.YtkndgnnfgdfcbaaGreatE2
import Derived.Test.YtkndgnnfgdfcbaaGreatAm29
import Derived.Test.YtkndgnnfgdfcbaaGreatAm32
namespace Am
open Go Go.Proofs
open Cel (cells)
set_option maxRecDepth 100000
set_option linter.unusedSimpArgs false
set_option linter.unusedVariables false

def varB (n : Nat) : List UInt8 := if n ≤ 127 then [u8 n] else u8 ((n : Int) % 128 + 128) :: varB (n / 128)
termination_by n
decreasing_by omega
def varS (n : Int) : ByteArray := str (varB n.toNat)
theorem varB_small {n : Nat} (h : n ≤ 127) : varB n = [u8 n] := by rw [varB, if_pos h]
theorem varB_great {n : Nat} (h : ¬ n ≤ 127) : varB n = u8 ((n : Int) % 128 + 128) :: varB (n / 128) := by rw [varB, if_neg h]
theorem varB_len : ∀ (k n : Nat), n < 128 ^ (k + 1) → (varB n).length ≤ k + 1
  | 0, n, h => by rw [varB_small (by omega)]; simp
  | k + 1, n, h => by
    by_cases h1 : n ≤ 127
    · rw [varB_small h1]; simp
    · rw [varB_great h1]
      have := varB_len k (n / 128) (by rw [Nat.pow_succ] at h; omega)
      simp; omega
theorem varB_five {n : Nat} (h : n ≤ 1000000000) : (varB n).length ≤ 5 := varB_len 4 n (by omega)
theorem varS_five {n : Int} (h : n ≤ 1000000000) : (varS n).size ≤ 5 := by
  rw [varS, str_size]; exact varB_five (by omega)
theorem tmod_pos {n m : Nat} : (n : Int).tmod m = ((n % m : Nat) : Int) := by
  rw [Int.tmod_eq_emod_of_nonneg (by omega)]; rfl
theorem tdiv_pos {n m : Nat} : (n : Int).tdiv m = ((n / m : Nat) : Int) := by
  rw [Int.tdiv_eq_ediv_of_nonneg (by omega)]; rfl

@[simp] def h91 : Hts := {  }
theorem f91_ok (n : Int) (h0 : 0 ≤ n) (h1 : n ≤ 1000000000) : FnR Tryz.prog 91 [.v (.int .i64 n)] (.v (.str (varS n))) := by
  obtain ⟨m, rfl⟩ := Int.eq_ofNat_of_zero_le h0
  have hl := varB_five (n := m) (by omega)
  refine FnW.of_AW TryzT_ok 0 (fn := Tryz.f91) (by kernel_rfl) rfl (by kernel_rfl) rfl rfl rfl ?_
  refine AW_of h91 TryzT_ok (by kernel_rfl) ?_
  simp -dsimp
  refine AWh_loop (fun s : Nat × List UInt8 => s.1 ≤ 1000000000 ∧ s.2 ++ varB s.1 = varB m) (fun s => mkE [(0, .c (.int .i64 s.1)), (3, .arr 256)] [(256, .arr 0 5 1 s.2.length (flat s.2))]) (fun s => s.1) (m, []) (Wk_to [0, 3] [(256, 256)] rfl rfl (by simp)) (by simp; omega) ?_
  rintro ⟨k, p⟩ ⟨hk, hp⟩
  have hpl : p.length + (varB k).length ≤ 5 := by rw [← List.length_append, hp]; exact hl
  simp only at hk hp
  refine AW_of h91 TryzT_ok (by kernel_rfl) ?_
  rcases Nat.lt_or_ge 127 k with h1 | h1
  · have hi : (127 : Int) < k := by omega
    have e1 : (k : Int).tmod 128 = (k : Int) % 128 := tmod_pos (m := 128)
    have e2 : (k : Int).tdiv 128 = (k : Int) / 128 := tdiv_pos (m := 128)
    have w1 : IntKind.i64.wrap ((k : Int) % 128 + 128) = (k : Int) % 128 + 128 := wrap64 (by omega) (by omega)
    have w2 : IntKind.i64.wrap ((k : Int) / 128) = (k : Int) / 128 := wrap64 (by omega) (by omega)
    have hg : ¬ k ≤ 127 := by omega
    simp -dsimp [hi, e1, e2, w1, w2]
    refine ⟨by simp [capMax]; omega, ?_⟩
    exact Back_of (k / 128, p ++ [u8 ((k : Int) % 128 + 128)]) [0, 3] [(256, 832)] rfl rfl (by simp) ⟨by simp only; omega, by simp only; rw [← hp, varB_great hg]; simp⟩ (by simp only; omega)
  · have hi : ¬ (127 : Int) < k := by omega
    have hj : (k : Int) ≤ 127 := by omega
    simp -dsimp [hi, hj]
    refine ⟨by simp [capMax]; omega, ?_⟩
    rw [varB_small h1] at hp
    rw [varS, Int.toNat_natCast, ← hp]
    rfl

@[simp] def h113 : Hts := { mergeF := fun f => f == 124 }
theorem f113_ok (n : Int) (h0 : 0 ≤ n) (h1 : n ≤ 1000000000) : FnR Tryz.prog 113 [.v (.int .i64 n)] (.tup [.v (.str (varS n)), .v (.bool true)]) := by
  obtain ⟨m, rfl⟩ := Int.eq_ofNat_of_zero_le h0
  have hl := varB_five (n := m) (by omega)
  have hw : spIn m 0 1000000000 = true := by simp [spIn]; omega
  refine FnW.of_AW TryzT_ok 0 (fn := Tryz.f113) (by kernel_rfl) rfl (by kernel_rfl) rfl rfl rfl ?_
  refine AW_of h113 TryzT_ok (by kernel_rfl) ?_
  simp -dsimp
  refine ACallK_of (f124_ok _ _ _) ?_
  simp -dsimp [hw]
  refine AWh_loop (fun s : Nat × List UInt8 => s.1 ≤ 1000000000 ∧ s.2 ++ varB s.1 = varB m) (fun s => mkE [(0, .c (.int .i64 s.1)), (4, .arr 512)] [(512, .arr 0 5 1 s.2.length (flat s.2))]) (fun s => s.1) (m, []) (Wk_to [0, 4] [(512, 512)] rfl rfl (by simp)) (by simp; omega) ?_
  rintro ⟨k, p⟩ ⟨hk, hp⟩
  have hpl : p.length + (varB k).length ≤ 5 := by rw [← List.length_append, hp]; exact hl
  simp only at hk hp
  refine AW_of h113 TryzT_ok (by kernel_rfl) ?_
  rcases Nat.lt_or_ge 127 k with h1 | h1
  · have hi : (127 : Int) < k := by omega
    have e1 : (k : Int).tmod 128 = (k : Int) % 128 := tmod_pos (m := 128)
    have e2 : (k : Int).tdiv 128 = (k : Int) / 128 := tdiv_pos (m := 128)
    have w1 : IntKind.i64.wrap ((k : Int) % 128 + 128) = (k : Int) % 128 + 128 := wrap64 (by omega) (by omega)
    have w2 : IntKind.i64.wrap ((k : Int) / 128) = (k : Int) / 128 := wrap64 (by omega) (by omega)
    have hg : ¬ k ≤ 127 := by omega
    simp -dsimp [hi, e1, e2, w1, w2]
    refine ⟨by simp [capMax]; omega, ?_⟩
    exact Back_of (k / 128, p ++ [u8 ((k : Int) % 128 + 128)]) [0, 4] [(512, 1088)] rfl rfl (by simp) ⟨by simp only; omega, by simp only; rw [← hp, varB_great hg]; simp⟩ (by simp only; omega)
  · have hi : ¬ (127 : Int) < k := by omega
    have hj : (k : Int) ≤ 127 := by omega
    simp -dsimp [hi, hj]
    refine ⟨by simp [capMax]; omega, ?_⟩
    rw [varB_small h1] at hp
    rw [varS, Int.toNat_natCast, ← hp]
    rfl
end Am
