/- What two know together; what is copied; what is there. No condition. -/
import Derived.Test.YtkkaogfjlbigmaaT
import Derived.Test.YtkkaogfjlbigmaaD
import Derived.Test.YtkkaogfjlbigmaaE3
import Derived.Test.YtkkaogfjlbigmaaE24c
import Derived.Test.YtkkaogfjlbigmaaAm31
namespace Am
open Go Go.Proofs
open Cel (cells)
set_option maxRecDepth 100000
set_option linter.unusedSimpArgs false
set_option linter.unusedVariables false

def maxK (a b : List Int) : Nat → List Int
  | 0 => []
  | n + 1 => maxK a b n ++ [max (nth a n) (nth b n)]
def maxIn (a b : List Int) : Nat → List Int
  | 0 => a
  | n + 1 => (maxIn a b n).set n (max (nth a n) (nth b n))
def knowMax (a b : List Int) : List Int := if (knowOk a && knowOk b) = true then maxK a b a.length else []
theorem maxK_len (a b : List Int) : ∀ n, (maxK a b n).length = n
  | 0 => rfl
  | n + 1 => by simp [maxK, maxK_len a b n]
theorem maxIn_len (a b : List Int) : ∀ n, (maxIn a b n).length = a.length
  | 0 => rfl
  | n + 1 => by simp [maxIn, maxIn_len a b n]
theorem maxIn_eq (a b : List Int) : ∀ n, n ≤ a.length → maxIn a b n = maxK a b n ++ a.drop n
  | 0, _ => by simp [maxIn, maxK]
  | n + 1, h => by
    have hd : a.drop n = nth a n :: a.drop (n + 1) := by rw [List.drop_eq_getElem_cons (show n < a.length by omega), ← nth_eq (show n < a.length by omega)]
    rw [maxIn, maxIn_eq a b n (by omega), hd, maxK, List.set_append]
    simp [maxK_len]
theorem maxIn_nth (a b : List Int) {n : Nat} (h : n < a.length) : nth (maxIn a b n) n = nth a n := by
  have hd : a.drop n = nth a n :: a.drop (n + 1) := by rw [List.drop_eq_getElem_cons h, ← nth_eq h]
  rw [maxIn_eq a b n (by omega), hd, nth_eq (by simp [maxK_len])]
  rw [List.getElem_append_right (by simp [maxK_len])]
  simp [maxK_len]

def hasX {α : Type} [DecidableEq α] (l : List α) (x : α) : Bool := decide (x ∈ l)
theorem not_mem_nth {α : Type} [Cel α] {l : List α} {x : α} (h : ∀ i : Nat, i < l.length → nth l i ≠ x) : ¬ x ∈ l := by
  intro hx
  obtain ⟨i, hi, e⟩ := List.getElem_of_mem hx
  exact h i hi (by rw [nth_eq hi, e])
theorem idx_has {α : Type} [DecidableEq α] {x : α} : ∀ l : List α, decide (0 ≤ idx (fun y => decide (y = x)) l) = hasX l x
  | [] => by simp [idx, hasX]
  | y :: r => by
    have ih := idx_has (x := x) r
    have hr := idx_range (fun y => decide (y = x)) r
    rw [Bool.eq_iff_iff] at ih ⊢
    simp only [hasX, decide_eq_true_eq] at ih ⊢
    simp only [idx]
    by_cases e : y = x
    · subst e; simp
    · simp only [e, decide_false]
      rw [List.mem_cons, ← ih]
      simp only [Bool.false_eq_true, if_false]
      constructor
      · intro h
        split at h
        · omega
        · right; omega
      · rintro (h | h)
        · exact absurd h.symm e
        · rw [if_neg (by omega)]; omega

end Am
