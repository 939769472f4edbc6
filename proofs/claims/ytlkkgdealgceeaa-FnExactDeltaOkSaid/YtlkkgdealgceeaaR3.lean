/- The law FnExactDeltaOk returns true, whatever it is handed, and leaves it as it is. No condition. -/
import Derived.Test.YtlkkgdealgceeaaG3
import Derived.Test.YtlkkgdealgceeaaI
import Derived.Test.YtlkkgdealgceeaaP
import Derived.Test.YtlkkgdealgceeaaRows
namespace Go.Proofs.Ytlkkgdealgceeaa
open Am Go.RowKit
open Cel (cells)
set_option maxRecDepth 100000
theorem fnExactDeltaOk_lifted (os : Os) (started : os.Started) (H : Type) (enc : TypeId × Value → H) :
    ReturnsInHanded {} Try.checked os 3 .any (Rows.fnExactDeltaOkSpec.pre6 enc Try.prog Try.f3 Rows.fnExactDeltaOkRow.domain false) (Rows.fnExactDeltaOkSpec.post enc Try.prog Try.f3 false true false false) := by
  refine lifted (C := Try.checked) (T := TryT) (tb := 4) TryT_ok Try.own Try.laidOut started (by kernel_rfl) Try.func3 rfl ?_ rfl (by kernel_rfl) (by kernel_rfl) (by kernel_rfl)
    (ChangeSpec.witness6 (enc := enc) (C := Try.checked) false ⟨#[], #[.agg #[.slice none 0 0, .slice none 0 0, .slice none 0 0, .slice none 0 0, .slice none 0 0, .slice none 0 0]], []⟩ 8 (by kernel_rfl) (by kernel_rfl) (by kernel_rfl) (by kernel_rfl)) ?_
  · intro ds hd
    match ds, hd with
    | [d0], _ => rfl
  · intro cs hcs
    match cs, hcs with
    | [c0], hcs =>
      replace hcs : ShCs TryT [28] [c0] := hcs
      simp only [ShCs, ShC, TryT_28] at hcs
      obtain ⟨⟨ps0, rfl, t0⟩, _⟩ := hcs
      obtain ⟨a0, rfl, g0⟩ := inv_28 t0
      exact f3_ok a0 g0

theorem fnExactDeltaOk_named : Try.prog.funcNamed Rows.fnExactDeltaOkRow.func = some 3 := by kernel_rfl
theorem fnExactDeltaOk_inPlace : (Rows.fnExactDeltaOkRow.inPlace == Try.prog.inPlace 3) = true := by kernel_rfl
theorem fnExactDeltaOk_unfollowed : (Rows.fnExactDeltaOkRow.unfollowed == Try.prog.unfollowed 3) = true := by kernel_rfl
theorem fnExactDeltaOk_recurses : (Rows.fnExactDeltaOkRow.recurses == Try.prog.recurses 3) = true := by kernel_rfl
theorem fnExactDeltaOk_vars : (Rows.fnExactDeltaOkRow.named == Try.prog.varsNamed 3) = true := by kernel_rfl
theorem fnExactDeltaOk_facts : joinedFacts Try.prog 3 Try.f3 Rows.fnExactDeltaOkSpec Rows.fnExactDeltaOkRow = true :=
  joined_of (by as_aux_lemma => kernel_rfl) Try.laidOut Try.mapsRowed (by as_aux_lemma => kernel_rfl) (by as_aux_lemma => kernel_rfl) rfl Try.noStops rfl Try.noStopKnobs fnExactDeltaOk_inPlace fnExactDeltaOk_unfollowed fnExactDeltaOk_recurses fnExactDeltaOk_vars
    (by as_aux_lemma => kernel_rfl) (by as_aux_lemma => kernel_rfl) (by as_aux_lemma => kernel_rfl) (by as_aux_lemma => kernel_rfl) (by as_aux_lemma => kernel_rfl) rfl (by as_aux_lemma => kernel_rfl) (by as_aux_lemma => kernel_rfl) (by as_aux_lemma => kernel_rfl)
    Try.keys rfl Try.heard Try.entered Try.lifts Try.made (by as_aux_lemma => kernel_rfl) rfl (by as_aux_lemma => kernel_rfl) (by as_aux_lemma => kernel_rfl)
theorem fnExactDeltaOk_holds : Rows.FnExactDeltaOkSaid :=
  OpenClaim.holds_of_wide 3 Try.f3 rfl rfl rfl rfl rfl rfl rfl ⟨rfl, rfl, rfl, rfl, rfl⟩ rfl rfl rfl rfl rfl fnExactDeltaOk_named Try.func3 fnExactDeltaOk_facts
    (of_decide_eq_true (by kernel_rfl)) (by unfold Func.isWrapper; first | (rw [if_pos (by decide +kernel)]; kernel_rfl) | (rw [if_neg (by decide +kernel)]; exact ⟨rfl, rfl⟩))
    (fun os started H enc _ => fnExactDeltaOk_lifted os started H enc)
end Go.Proofs.Ytlkkgdealgceeaa
