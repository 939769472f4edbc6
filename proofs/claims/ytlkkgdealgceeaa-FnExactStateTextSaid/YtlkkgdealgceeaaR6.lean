/- The law FnExactStateText returns true, whatever it is handed, and leaves it as it is. No condition. -/
import Derived.Test.YtlkkgdealgceeaaG6
import Derived.Test.YtlkkgdealgceeaaI
import Derived.Test.YtlkkgdealgceeaaP
import Derived.Test.YtlkkgdealgceeaaRows
namespace Go.Proofs.Ytlkkgdealgceeaa
open Am Go.RowKit
open Cel (cells)
set_option maxRecDepth 100000
theorem fnExactStateText_lifted (os : Os) (started : os.Started) (H : Type) (enc : TypeId × Value → H) :
    ReturnsInHanded {} Try.checked os 5 .any (Rows.fnExactStateTextSpec.pre6 enc Try.prog Try.f5 Rows.fnExactStateTextRow.domain false) (Rows.fnExactStateTextSpec.post enc Try.prog Try.f5 false true false false) := by
  refine lifted (C := Try.checked) (T := TryT) (tb := 4) TryT_ok Try.own Try.laidOut started (by kernel_rfl) Try.func5 rfl ?_ rfl (by kernel_rfl) (by kernel_rfl) (by kernel_rfl)
    (ChangeSpec.witness6 (enc := enc) (C := Try.checked) false ⟨#[], #[.agg #[.slice none 0 0, .slice none 0 0, .slice none 0 0, .slice none 0 0]], []⟩ 8 (by kernel_rfl) (by kernel_rfl) (by kernel_rfl) (by kernel_rfl)) ?_
  · intro ds hd
    match ds, hd with
    | [d0], _ => rfl
  · intro cs hcs
    match cs, hcs with
    | [c0], hcs =>
      replace hcs : ShCs TryT [50] [c0] := hcs
      simp only [ShCs, ShC, TryT_50] at hcs
      obtain ⟨⟨ps0, rfl, t0⟩, _⟩ := hcs
      obtain ⟨a0, rfl, g0⟩ := inv_50 t0
      exact f5_ok a0 g0

theorem fnExactStateText_named : Try.prog.funcNamed Rows.fnExactStateTextRow.func = some 5 := by kernel_rfl
theorem fnExactStateText_inPlace : (Rows.fnExactStateTextRow.inPlace == Try.prog.inPlace 5) = true := by kernel_rfl
theorem fnExactStateText_unfollowed : (Rows.fnExactStateTextRow.unfollowed == Try.prog.unfollowed 5) = true := by kernel_rfl
theorem fnExactStateText_recurses : (Rows.fnExactStateTextRow.recurses == Try.prog.recurses 5) = true := by kernel_rfl
theorem fnExactStateText_vars : (Rows.fnExactStateTextRow.named == Try.prog.varsNamed 5) = true := by kernel_rfl
theorem fnExactStateText_facts : joinedFacts Try.prog 5 Try.f5 Rows.fnExactStateTextSpec Rows.fnExactStateTextRow = true :=
  joined_of (by as_aux_lemma => kernel_rfl) Try.laidOut Try.mapsRowed (by as_aux_lemma => kernel_rfl) (by as_aux_lemma => kernel_rfl) rfl Try.noStops rfl Try.noStopKnobs fnExactStateText_inPlace fnExactStateText_unfollowed fnExactStateText_recurses fnExactStateText_vars
    (by as_aux_lemma => kernel_rfl) (by as_aux_lemma => kernel_rfl) (by as_aux_lemma => kernel_rfl) (by as_aux_lemma => kernel_rfl) (by as_aux_lemma => kernel_rfl) rfl (by as_aux_lemma => kernel_rfl) (by as_aux_lemma => kernel_rfl) (by as_aux_lemma => kernel_rfl)
    Try.keys rfl Try.heard Try.entered Try.lifts Try.made (by as_aux_lemma => kernel_rfl) rfl (by as_aux_lemma => kernel_rfl) (by as_aux_lemma => kernel_rfl)
theorem fnExactStateText_holds : Rows.FnExactStateTextSaid :=
  OpenClaim.holds_of_wide 5 Try.f5 rfl rfl rfl rfl rfl rfl rfl ⟨rfl, rfl, rfl, rfl, rfl⟩ rfl rfl rfl rfl rfl fnExactStateText_named Try.func5 fnExactStateText_facts
    (of_decide_eq_true (by kernel_rfl)) (by unfold Func.isWrapper; first | (rw [if_pos (by decide +kernel)]; kernel_rfl) | (rw [if_neg (by decide +kernel)]; exact ⟨rfl, rfl⟩))
    (fun os started H enc _ => fnExactStateText_lifted os started H enc)
end Go.Proofs.Ytlkkgdealgceeaa
