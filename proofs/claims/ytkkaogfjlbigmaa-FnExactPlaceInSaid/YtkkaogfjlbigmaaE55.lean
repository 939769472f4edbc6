/- Cells put together, and states: the reference's. No condition. -/
import Derived.Test.YtkkaogfjlbigmaaT
import Derived.Test.YtkkaogfjlbigmaaD
import Derived.Test.YtkkaogfjlbigmaaE54
import Derived.Test.YtkkaogfjlbigmaaAm31
namespace Am
open Go Go.Proofs
open Cel (cells)
set_option maxRecDepth 100000
set_option linter.unusedSimpArgs false
set_option linter.unusedVariables false

def keepA (b : GState) (x : GLive) : Bool := !knows b.know x.dot || hasX b.lives x
def newB (a : GState) (x : GLive) : Bool := !knows a.know x.dot
def livA (a b : GState) (i : Nat) : List GLive := filK (keepA b) [] a.lives i
def livB (a b : GState) (i : Nat) : List GLive := insN liveLt (newB a) (livA a b a.lives.length) b.lives i
def mergeRaw (a b : GState) : GState := ⟨knowMax a.know b.know, talTwo a.know b.know a.tallies b.tallies, livB a b b.lives.length, cellsU a.cs b.cs⟩
def mergeState (a b : GState) : GState := if (stateOk a && stateOk b) = true then (if stateOk (mergeRaw a b) = true then mergeRaw a b else a) else a
theorem stateOk_know {s : GState} (h : stateOk s = true) : s.know.length = 3 := by
  simp only [stateOk, Bool.and_eq_true, knowOk, decide_eq_true_eq] at h
  exact h.1.1.1.1.1
theorem stateOk_reps {s : GState} (h : stateOk s = true) : repsIn s.tallies := by
  simp only [stateOk, talliesOk, Bool.and_eq_true] at h
  have h2 := h.1.1.1.2.2
  intro i hi
  have h3 := allB_iff.1 h2 i hi
  simp only [talAt, tallyOk, Bool.and_eq_true, spIn, decide_eq_true_eq] at h3
  omega
theorem stateOk_len {s : GState} (h : stateOk s = true) : s.tallies.length ≤ 120 ∧ s.lives.length ≤ 120 ∧ s.cs.length ≤ 120 := by
  simp only [stateOk, talliesOk, livKsOk, celKsOk, Bool.and_eq_true, decide_eq_true_eq] at h
  exact ⟨h.1.1.1.2.1, h.1.1.2.1, h.1.2.1⟩
theorem stateOk_cells {s : GState} (h : stateOk s = true) : SortC s.cs := by
  have hk : celKsOk s.cs s.know = true := by
    simp only [stateOk, Bool.and_eq_true] at h; exact h.1.2
  exact pw_of_nth fun i j hij hj => sorted_lt (celKs_sorted hk) j i hij hj
theorem livA_len (a b : GState) (i : Nat) : (livA a b i).length ≤ i := by
  have := filK_len (keepA b) [] a.lives i
  simpa [livA] using this
theorem livB_len (a b : GState) (i : Nat) : (livB a b i).length ≤ a.lives.length + i := by
  have := insN_len liveLt (newB a) (livA a b a.lives.length) b.lives i
  have := livA_len a b a.lives.length
  unfold livB; omega

theorem addT_mem {l : List GTally} {o : ByteArray} {r v : Int} {x : GTally} (h : x ∈ addT l o r v) : x ∈ l ∨ x.obj = o := by
  unfold addT at h
  split at h
  · rcases List.mem_or_eq_of_mem_set h with h | rfl
    · exact .inl h
    · exact .inr rfl
  · rcases List.mem_cons.1 ((insF_perm _ _).mem_iff.1 h) with rfl | h
    · exact .inr rfl
    · exact .inl h
theorem addN_ok {p : GTally → Bool} {base l : List GTally} (hb : ∀ x, x ∈ base → x.Ok) (hl : ∀ x, x ∈ l → x.Ok) : ∀ {n : Nat}, n ≤ l.length → ∀ x, x ∈ addN p base l n → x.Ok
  | 0, _, x, h => hb x h
  | n + 1, hn, x, h => by
    simp only [addN] at h
    split at h
    · rcases addT_mem h with h | h
      · exact addN_ok hb hl (by omega) x h
      · have := hl _ (nth_mem (show n < l.length by omega))
        simp only [GTally.Ok] at this ⊢
        rw [h]; exact this
    · exact addN_ok hb hl (by omega) x h
theorem goneAt_mem {l : List GCell} {d : GDot} {g : Bool} {x : GCell} (h : x ∈ goneAt l d g) : ∃ y, y ∈ l ∧ y.obj = x.obj := by
  obtain ⟨y, hy, e⟩ := List.mem_map.1 h
  refine ⟨y, hy, ?_⟩
  rw [← e]; split <;> rfl
theorem cellsI_ok {a b : List GCell} (ha : ∀ x, x ∈ a → x.Ok) (hb : ∀ x, x ∈ b → x.Ok) : ∀ {n : Nat}, n ≤ b.length → ∀ x, x ∈ cellsI a b n → x.Ok
  | 0, _, x, h => ha x h
  | n + 1, hn, x, h => by
    simp only [cellsI] at h
    split at h
    · obtain ⟨y, hy, e⟩ := goneAt_mem h
      have := cellsI_ok ha hb (by omega) y hy
      simp only [GCell.Ok] at this ⊢
      rw [← e]; exact this
    · rcases List.mem_cons.1 ((insF_perm _ _).mem_iff.1 h) with rfl | h
      · exact hb _ (nth_mem (by omega))
      · exact cellsI_ok ha hb (by omega) x h
theorem knowMax_len (a b : List Int) : (knowMax a b).length ≤ a.length := by
  unfold knowMax; split
  · rw [maxK_len]; exact Nat.le_refl _
  · simp
theorem mergeRaw_ok {a b : GState} (ha : a.Ok) (hb : b.Ok) (ka : stateOk a = true) (kb : stateOk b = true) : (mergeRaw a b).Ok := by
  have la := stateOk_len ka
  have lb := stateOk_len kb
  simp only [GState.Ok] at ha hb ⊢
  obtain ⟨a0, a1, a2, a3, a4, a5, a6⟩ := ha
  obtain ⟨b0, b1, b2, b3, b4, b5, b6⟩ := hb
  have k1 := knowMax_len a.know b.know
  have t1 := addN_len (noMore a.know b.know) [] a.tallies a.tallies.length
  have t2 := addN_len (more a.know b.know) (addN (noMore a.know b.know) [] a.tallies a.tallies.length) b.tallies b.tallies.length
  have l1 := livB_len a b b.lives.length
  have c1 := cellsI_len a.cs b.cs b.cs.length
  simp only [List.length_nil] at t1
  refine ⟨?_, ?_, ?_, ?_, ?_, ?_, ?_⟩
  · simp only [mergeRaw]; omega
  · simp only [mergeRaw, talTwo]; omega
  · exact addN_ok (addN_ok (by simp) a2 (Nat.le_refl _)) b2 (Nat.le_refl _)
  · simp only [mergeRaw]; omega
  · intro y hy
    have h2 := (filK_mem (Nat.le_refl _)).1 ((insN_perm _ _ _ _ _).mem_iff.1 hy)
    rcases h2 with h2 | ⟨i, hi, e, _⟩
    · rcases (filK_mem (Nat.le_refl _)).1 h2 with h3 | ⟨i, hi, e, _⟩
      · cases h3
      · rw [← e]; exact a4 _ (nth_mem hi)
    · rw [← e]; exact b4 _ (nth_mem hi)
  · simp only [mergeRaw, cellsU]; omega
  · exact cellsI_ok a6 b6 (Nat.le_refl _)

end Am
