/- The text of a state, of both. No condition. -/
import Derived.Test.YtkndgnnfgdfcbaaT
import Derived.Test.YtkndgnnfgdfcbaaD
import Derived.Test.YtkndgnnfgdfcbaaE15
import Derived.Test.YtkndgnnfgdfcbaaE16
import Derived.Test.YtkndgnnfgdfcbaaAm31
namespace Am
open Go Go.Proofs
open Cel (cells)
set_option maxRecDepth 100000
set_option linter.unusedSimpArgs false
set_option linter.unusedVariables false

theorem stateOk_facts {s : GState} (h : stateOk s = true) :
    (s.know.length = 3 ∧ ∀ i : Nat, i < s.know.length → numOk (nth s.know i)) ∧ (s.tallies.length ≤ 120 ∧ ∀ i : Nat, i < s.tallies.length → talR (nth s.tallies i)) ∧
    (s.lives.length ≤ 120 ∧ ∀ i : Nat, i < s.lives.length → liveR (nth s.lives i)) ∧ (s.cs.length ≤ 120 ∧ ∀ i : Nat, i < s.cs.length → cellR (nth s.cs i)) := by
  have h' := h
  rw [← stateOkS_eq] at h'
  simp only [stateOk, Bool.and_eq_true] at h
  simp only [stateOkS, Bool.and_eq_true, celsOk, allB_iff, celAt] at h'
  obtain ⟨⟨⟨⟨h1, h2⟩, h3⟩, h4⟩, h5⟩ := h
  exact ⟨knowOk_facts h1, talliesOk_facts h2, livKsOk_facts h3, celKsOk_facts h4 fun i hi => refZ_R (h'.1.1.2.2 i hi).1.2⟩
def stateS (s : GState) : ByteArray := varsS s.know ++ (talsS s.tallies ++ (livesS s.lives ++ cellsS s.cs))
def stateText (s : GState) : ByteArray := if stateOk s = true then sealS (stateS s) else ⟨#[]⟩
def stateTextOk (s : GState) : Bool := stateOk s && sealOk (stateS s)

@[simp] def h41 : Hts := { dr := fun id => if id = 3 then [{}, {}, { cr := true }, { mb := [9] }, { mb := [9] }, { cr := true }, { mb := [16, 20] }, { mb := [9, 12] }, { mb := [9, 12] }, { cr := true }, { mb := [20] }, { mb := [9, 12, 16] }, { mb := [9, 12, 16] }, { cr := true }, {}, { cr := true }, {}, {}, {}, {}] else [] }
set_option maxHeartbeats 2000000 in
theorem f41_ok (s : GState) (hd : s.Ok) : FnR Try.prog 41 [.agg [.im s.know.length (flat s.know), .im s.tallies.length (flat s.tallies), .im s.lives.length (flat s.lives), .im s.cs.length (flat s.cs)]] (.tup [.v (.str (stateText s)), .v (.bool (stateTextOk s))]) := by
  refine FnW.of_AW TryT_ok 0 (fn := Try.f41) (by kernel_rfl) rfl (by kernel_rfl) rfl rfl rfl ?_
  refine AW_of h41 TryT_ok (by kernel_rfl) ?_
  simp -dsimp
  refine ACallK_of (f91_ok _ hd) ?_
  rw [stateOkS_eq]
  cases hk : stateOk s
  · simp -dsimp
    simp [stateText, stateTextOk, hk]
  · simp -dsimp
    obtain ⟨⟨b0, b1⟩, t, l, c⟩ := stateOk_facts hk
    have z1 := varsS_size b1
    have z3 := talsS_size t
    have z4 := livesS_size l
    have z6 := cellsS_size c
    refine ACallK_of (f93_ok _ (by omega) b1) ?_
    simp -dsimp
    repeat (first | refine ⟨by omega, ?_⟩ | refine ⟨by simp [capMax, ByteArray.size_append]; omega, ?_⟩)
    refine ACallK_of (f94_ok _ t.1 t.2) ?_
    simp -dsimp
    repeat (first | refine ⟨by omega, ?_⟩ | refine ⟨by simp [capMax, ByteArray.size_append]; omega, ?_⟩)
    refine ACallK_of (f95_ok _ l.1 l.2) ?_
    simp -dsimp
    repeat (first | refine ⟨by omega, ?_⟩ | refine ⟨by simp [capMax, ByteArray.size_append]; omega, ?_⟩)
    refine ACallK_of (f96_ok _ c.1 c.2) ?_
    simp -dsimp
    repeat (first | refine ⟨by omega, ?_⟩ | refine ⟨by simp [capMax, ByteArray.size_append]; omega, ?_⟩)
    refine ACallK_of (f92_ok _ (by simp [ByteArray.size_append]; omega)) ?_
    simp -dsimp
    simp [stateText, stateTextOk, hk, stateS, app_assoc]

end Am
