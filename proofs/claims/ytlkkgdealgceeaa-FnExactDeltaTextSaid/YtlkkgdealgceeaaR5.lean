/- The law FnExactDeltaText returns true, whatever it is handed, and leaves it as it is. No condition. -/
import Derived.Test.YtlkkgdealgceeaaG5
import Derived.Test.YtlkkgdealgceeaaI
import Derived.Test.YtlkkgdealgceeaaP
import Derived.Test.YtlkkgdealgceeaaRows
namespace Go.Proofs.Ytlkkgdealgceeaa
open Am Go.RowKit
open Cel (cells)
set_option maxRecDepth 100000
theorem fnExactDeltaText_lifted (os : Os) (started : os.Started) (H : Type) (enc : TypeId × Value → H) :
    ReturnsInHanded {} Try.checked os 6 .any (Rows.fnExactDeltaTextSpec.pre6 enc Try.prog Try.f6 Rows.fnExactDeltaTextRow.domain false) (Rows.fnExactDeltaTextSpec.post enc Try.prog Try.f6 false true false false) := by
  refine lifted (C := Try.checked) (T := TryT) (tb := 4) TryT_ok Try.own Try.laidOut started (by kernel_rfl) Try.func6 rfl ?_ rfl (by kernel_rfl) (by kernel_rfl) (by kernel_rfl)
    (ChangeSpec.witness6 (enc := enc) (C := Try.checked) false ⟨#[], #[.agg #[.slice none 0 0, .slice none 0 0, .slice none 0 0, .slice none 0 0, .slice none 0 0, .slice none 0 0]], []⟩ 8 (by kernel_rfl) (by kernel_rfl) (by kernel_rfl) (by kernel_rfl)) ?_
  · intro ds hd
    match ds, hd with
    | [d0], _ => rfl
  · intro cs hcs
    match cs, hcs with
    | [c0], hcs =>
      replace hcs : ShCs TryT [28] [c0] := hcs
      simp only [ShCs, ShC, TryT_28] at hcs
      obtain ⟨⟨ps0, rfl, t0⟩, _⟩ := hcs
      obtain ⟨a0, rfl, g0⟩ := inv_28 t0
      exact f6_ok a0 g0

theorem fnExactDeltaText_named : Try.prog.funcNamed Rows.fnExactDeltaTextRow.func = some 6 := by kernel_rfl
theorem fnExactDeltaText_inPlace : (Rows.fnExactDeltaTextRow.inPlace == Try.prog.inPlace 6) = true := by kernel_rfl
theorem fnExactDeltaText_unfollowed : (Rows.fnExactDeltaTextRow.unfollowed == Try.prog.unfollowed 6) = true := by kernel_rfl
theorem fnExactDeltaText_recurses : (Rows.fnExactDeltaTextRow.recurses == Try.prog.recurses 6) = true := by kernel_rfl
theorem fnExactDeltaText_vars : (Rows.fnExactDeltaTextRow.named == Try.prog.varsNamed 6) = true := by kernel_rfl
theorem fnExactDeltaText_facts : joinedFacts Try.prog 6 Try.f6 Rows.fnExactDeltaTextSpec Rows.fnExactDeltaTextRow = true :=
  joined_of (by as_aux_lemma => kernel_rfl) Try.laidOut Try.mapsRowed (by as_aux_lemma => kernel_rfl) (by as_aux_lemma => kernel_rfl) rfl Try.noStops rfl Try.noStopKnobs fnExactDeltaText_inPlace fnExactDeltaText_unfollowed fnExactDeltaText_recurses fnExactDeltaText_vars
    (by as_aux_lemma => kernel_rfl) (by as_aux_lemma => kernel_rfl) (by as_aux_lemma => kernel_rfl) (by as_aux_lemma => kernel_rfl) (by as_aux_lemma => kernel_rfl) rfl (by as_aux_lemma => kernel_rfl) (by as_aux_lemma => kernel_rfl) (by as_aux_lemma => kernel_rfl)
    Try.keys rfl Try.heard Try.entered Try.lifts Try.made (by as_aux_lemma => kernel_rfl) rfl (by as_aux_lemma => kernel_rfl) (by as_aux_lemma => kernel_rfl)
theorem fnExactDeltaText_holds : Rows.FnExactDeltaTextSaid :=
  OpenClaim.holds_of_wide 6 Try.f6 rfl rfl rfl rfl rfl rfl rfl ⟨rfl, rfl, rfl, rfl, rfl⟩ rfl rfl rfl rfl rfl fnExactDeltaText_named Try.func6 fnExactDeltaText_facts
    (of_decide_eq_true (by kernel_rfl)) (by unfold Func.isWrapper; first | (rw [if_pos (by decide +kernel)]; kernel_rfl) | (rw [if_neg (by decide +kernel)]; exact ⟨rfl, rfl⟩))
    (fun os started H enc _ => fnExactDeltaText_lifted os started H enc)
end Go.Proofs.Ytlkkgdealgceeaa
