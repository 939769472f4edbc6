/- The law FnExactReadDelta returns true, whatever it is handed, and leaves it as it is. No condition. -/
import Derived.Test.YtkndgnnfgdfcbaaG13
import Derived.Test.YtkndgnnfgdfcbaaI
import Derived.Test.YtkndgnnfgdfcbaaP
import Derived.Test.YtkndgnnfgdfcbaaRows
namespace Go.Proofs.Ytkndgnnfgdfcbaa
open Am Go.RowKit
open Cel (cells)
set_option maxRecDepth 100000
theorem fnExactReadDelta_lifted (os : Os) (started : os.Started) (H : Type) (enc : TypeId × Value → H) :
    ReturnsInHanded {} Try.checked os 5 .any (Rows.fnExactReadDeltaSpec.pre6 enc Try.prog Try.f5 Rows.fnExactReadDeltaRow.domain false) (Rows.fnExactReadDeltaSpec.post enc Try.prog Try.f5 false true false false) := by
  refine lifted (C := Try.checked) (T := TryT) (tb := 4) TryT_ok Try.own Try.laidOut started (by kernel_rfl) Try.func5 rfl ?_ rfl (by kernel_rfl) (by kernel_rfl) (by kernel_rfl)
    (ChangeSpec.witness6 (enc := enc) (C := Try.checked) false ⟨#[], #[.string ⟨#[]⟩], []⟩ 8 (by kernel_rfl) (by kernel_rfl) (by kernel_rfl) (by kernel_rfl)) ?_
  · intro ds hd
    match ds, hd with
    | [d0], _ => rfl
  · intro cs hcs
    match cs, hcs with
    | [c0], hcs =>
      replace hcs : ShCs TryT [9] [c0] := hcs
      simp only [ShCs, ShC, TryT_9] at hcs
      obtain ⟨⟨ps0, rfl, t0⟩, _⟩ := hcs
      obtain ⟨a0, ea0, g0⟩ := Sh_str TryT_9 t0
      cases ea0
      exact f5_ok a0 g0

theorem fnExactReadDelta_named : Try.prog.funcNamed Rows.fnExactReadDeltaRow.func = some 5 := by kernel_rfl
theorem fnExactReadDelta_inPlace : (Rows.fnExactReadDeltaRow.inPlace == Try.prog.inPlace 5) = true := by kernel_rfl
theorem fnExactReadDelta_unfollowed : (Rows.fnExactReadDeltaRow.unfollowed == Try.prog.unfollowed 5) = true := by kernel_rfl
theorem fnExactReadDelta_recurses : (Rows.fnExactReadDeltaRow.recurses == Try.prog.recurses 5) = true := by kernel_rfl
theorem fnExactReadDelta_vars : (Rows.fnExactReadDeltaRow.named == Try.prog.varsNamed 5) = true := by kernel_rfl
theorem fnExactReadDelta_facts : joinedFacts Try.prog 5 Try.f5 Rows.fnExactReadDeltaSpec Rows.fnExactReadDeltaRow = true :=
  joined_of (by as_aux_lemma => kernel_rfl) Try.laidOut Try.mapsRowed (by as_aux_lemma => kernel_rfl) (by as_aux_lemma => kernel_rfl) rfl Try.noStops rfl Try.noStopKnobs fnExactReadDelta_inPlace fnExactReadDelta_unfollowed fnExactReadDelta_recurses fnExactReadDelta_vars
    (by as_aux_lemma => kernel_rfl) (by as_aux_lemma => kernel_rfl) (by as_aux_lemma => kernel_rfl) (by as_aux_lemma => kernel_rfl) (by as_aux_lemma => kernel_rfl) rfl (by as_aux_lemma => kernel_rfl) (by as_aux_lemma => kernel_rfl) (by as_aux_lemma => kernel_rfl)
    Try.keys rfl Try.heard Try.entered Try.lifts Try.made (by as_aux_lemma => kernel_rfl) rfl (by as_aux_lemma => kernel_rfl) (by as_aux_lemma => kernel_rfl)
theorem fnExactReadDelta_holds : Rows.FnExactReadDeltaSaid :=
  OpenClaim.holds_of_wide 5 Try.f5 rfl rfl rfl rfl rfl rfl rfl ⟨rfl, rfl, rfl, rfl, rfl⟩ rfl rfl rfl rfl rfl fnExactReadDelta_named Try.func5 fnExactReadDelta_facts
    (of_decide_eq_true (by kernel_rfl)) (by unfold Func.isWrapper; first | (rw [if_pos (by decide +kernel)]; kernel_rfl) | (rw [if_neg (by decide +kernel)]; exact ⟨rfl, rfl⟩))
    (fun os started H enc _ => fnExactReadDelta_lifted os started H enc)
end Go.Proofs.Ytkndgnnfgdfcbaa
