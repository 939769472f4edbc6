/- States put together: the program's. No condition. -/
import Derived.Test.YteidfkbfocdnmaaGreatT
import Derived.Test.YteidfkbfocdnmaaGreatD
import Derived.Test.YteidfkbfocdnmaaGreatE50
import Derived.Test.YteidfkbfocdnmaaGreatE6
import Derived.Test.YteidfkbfocdnmaaGreatY2
import Derived.Test.YteidfkbfocdnmaaGreatAm31
import Derived.Test.YteidfkbfocdnmaaGreatE16
namespace Am
open Go Go.Proofs Go.Sort
open Cel (cells)
set_option maxRecDepth 100000
set_option linter.unusedSimpArgs false
set_option linter.unusedVariables false

theorem swo_of {α : Type} {lt : α → α → Bool} (hL : Lt lt) (hn : ∀ x y z, lt x y = false → lt y z = false → lt x z = false) : SWO lt where
  irrefl x := by
    cases h : lt x x
    · rfl
    · have := hL.asym x x h; rw [h] at this; cases this
  trans x y z := hL.trans x y z
  ntrans := hn
theorem stateOk_tallies {s : GState} (h : stateOk s = true) : s.tallies.Pairwise fun a b => tallyLt a b = true := by
  simp only [stateOk, talliesOk, Bool.and_eq_true] at h
  have h2 := allB_iff.1 h.1.1.1.2.2
  have step : ∀ (j i : Nat), i < j → j < s.tallies.length → tallyLt (nth s.tallies i) (nth s.tallies j) = true := by
    intro j
    induction j with
    | zero => intro i hi; omega
    | succ j ih =>
      intro i hi hj
      have h3 := h2 (j + 1) hj
      simp only [talAt, Bool.and_eq_true, Bool.or_eq_true, decide_eq_true_eq, Nat.add_sub_cancel] at h3
      have h4 : tallyLt (nth s.tallies j) (nth s.tallies (j + 1)) = true := by
        rcases h3.2 with h5 | h5
        · omega
        · exact h5
      by_cases e : i = j
      · rw [e]; exact h4
      · exact tallyLt_Lt.trans _ _ _ (ih i (by omega) (by omega)) h4
  exact pw_of_nth fun i j hij hj => step j i hij hj
theorem stateOk_lives {s : GState} (h : stateOk s = true) : (s.lives.Pairwise fun a b => liveLt a b = true) ∧ ∀ x, x ∈ s.lives → knows s.know x.dot = true := by
  simp only [stateOk, livKsOk, Bool.and_eq_true] at h
  have h2 := allB_iff.1 h.1.1.2.2
  have step : ∀ (j i : Nat), i < j → j < s.lives.length → liveLt (nth s.lives i) (nth s.lives j) = true := by
    intro j
    induction j with
    | zero => intro i hi; omega
    | succ j ih =>
      intro i hi hj
      have h3 := h2 (j + 1) hj
      simp only [livKAt, Bool.and_eq_true, Bool.or_eq_true, decide_eq_true_eq, Nat.add_sub_cancel] at h3
      have h4 : liveLt (nth s.lives j) (nth s.lives (j + 1)) = true := by
        rcases h3.2 with h5 | h5
        · omega
        · exact h5
      by_cases e : i = j
      · rw [e]; exact h4
      · exact liveLt_Lt.trans _ _ _ (ih i (by omega) (by omega)) h4
  refine ⟨pw_of_nth fun i j hij hj => step j i hij hj, fun x hx => ?_⟩
  obtain ⟨i, hi, rfl⟩ := mem_nth hx
  have h3 := h2 i hi
  simp only [livKAt, Bool.and_eq_true] at h3
  exact h3.1.1
end Am
namespace Am
open Go Go.Proofs Go.Sort
open Cel (cells)
set_option maxRecDepth 100000
set_option linter.unusedSimpArgs false
set_option linter.unusedVariables false

end Am
namespace Am
open Go Go.Proofs
open Cel (cells)
set_option maxRecDepth 100000
set_option linter.unusedSimpArgs false
set_option linter.unusedVariables false

end Am
namespace Am
open Go Go.Proofs
open Cel (cells)
set_option maxRecDepth 100000
set_option linter.unusedSimpArgs false
set_option linter.unusedVariables false

def behind (a b : GState) : Bool := stateOk a && (stateOk b && decide (mergeState a b = b))
end Am
namespace Am
open Go Go.Proofs
open Cel (cells)
set_option maxRecDepth 100000
set_option linter.unusedSimpArgs false
set_option linter.unusedVariables false
def tooMany (s : GState) : Bool := decide (120 < s.tallies.length) || (decide (120 < s.lives.length) || decide (120 < s.cs.length))
end Am
