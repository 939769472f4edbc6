/- The law FnExactGraphOk returns true, whatever it is handed, and leaves it as it is. No condition. -/
import Derived.Test.YtpgnllakcjajjaaGreatG17
import Derived.Test.YtpgnllakcjajjaaGreatI
import Derived.Test.YtpgnllakcjajjaaGreatP17
import Derived.Test.YtpgnllakcjajjaaGreatRows
namespace Go.Proofs.YtpgnllakcjajjaaGreat
open Am Go.RowKit
open Cel (cells)
set_option maxRecDepth 100000
theorem fnExactGraphOk_lifted (os : Os) (started : os.Started) (H : Type) (enc : TypeId × Value → H) :
    ReturnsInHanded {} Tryz.checked os 8 .any (Rows.fnExactGraphOkSpec.pre6 enc Tryz.prog Tryz.f8 Rows.fnExactGraphOkRow.domain false) (Rows.fnExactGraphOkSpec.post enc Tryz.prog Tryz.f8 false true false false) := by
  refine lifted (C := Tryz.checked) (T := TryzT) (tb := 4) TryzT_ok Tryz.own Tryz.laidOut started (by kernel_rfl) Tryz.func8 rfl ?_ rfl (by kernel_rfl) (by kernel_rfl) (by kernel_rfl)
    (ChangeSpec.witness6 (enc := enc) (C := Tryz.checked) false ⟨#[], #[.agg #[.slice none 0 0, .int .i64 0]], []⟩ 8 (by kernel_rfl) (by kernel_rfl) (by kernel_rfl) (by kernel_rfl)) ?_
  · intro ds hd
    match ds, hd with
    | [d0], _ => rfl
  · intro cs hcs
    match cs, hcs with
    | [c0], hcs =>
      replace hcs : ShCs TryzT [61] [c0] := hcs
      simp only [ShCs, ShC, TryzT_61] at hcs
      obtain ⟨⟨ps0, rfl, t0⟩, _⟩ := hcs
      obtain ⟨a0, rfl, g0⟩ := inv_61 t0
      exact f8_ok a0 g0

theorem fnExactGraphOk_named : Tryz.prog.funcNamed Rows.fnExactGraphOkRow.func = some 8 := by kernel_rfl
theorem fnExactGraphOk_inPlace : (Rows.fnExactGraphOkRow.inPlace == Tryz.prog.inPlace 8) = true := by kernel_rfl
theorem fnExactGraphOk_unfollowed : (Rows.fnExactGraphOkRow.unfollowed == Tryz.prog.unfollowed 8) = true := by kernel_rfl
theorem fnExactGraphOk_recurses : (Rows.fnExactGraphOkRow.recurses == Tryz.prog.recurses 8) = true := by kernel_rfl
theorem fnExactGraphOk_vars : (Rows.fnExactGraphOkRow.named == Tryz.prog.varsNamed 8) = true := by kernel_rfl
theorem fnExactGraphOk_facts : joinedFacts Tryz.prog 8 Tryz.f8 Rows.fnExactGraphOkSpec Rows.fnExactGraphOkRow = true :=
  joined_of (by as_aux_lemma => kernel_rfl) Tryz.laidOut Tryz.mapsRowed (by as_aux_lemma => kernel_rfl) (by as_aux_lemma => kernel_rfl) rfl Tryz.noStops rfl Tryz.noStopKnobs fnExactGraphOk_inPlace fnExactGraphOk_unfollowed fnExactGraphOk_recurses fnExactGraphOk_vars
    (by as_aux_lemma => kernel_rfl) (by as_aux_lemma => kernel_rfl) (by as_aux_lemma => kernel_rfl) (by as_aux_lemma => kernel_rfl) (by as_aux_lemma => kernel_rfl) rfl (by as_aux_lemma => kernel_rfl) (by as_aux_lemma => kernel_rfl) (by as_aux_lemma => kernel_rfl)
    Tryz.keys rfl Tryz.heard Tryz.entered Tryz.lifts Tryz.made (by as_aux_lemma => kernel_rfl) rfl (by as_aux_lemma => kernel_rfl) (by as_aux_lemma => kernel_rfl)
theorem fnExactGraphOk_holds : Rows.FnExactGraphOkSaid :=
  OpenClaim.holds_of_wide 8 Tryz.f8 rfl rfl rfl rfl rfl rfl rfl ⟨rfl, rfl, rfl, rfl, rfl⟩ rfl rfl rfl rfl rfl fnExactGraphOk_named Tryz.func8 fnExactGraphOk_facts
    (of_decide_eq_true (by kernel_rfl)) (by unfold Func.isWrapper; first | (rw [if_pos (by decide +kernel)]; kernel_rfl) | (rw [if_neg (by decide +kernel)]; exact ⟨rfl, rfl⟩))
    (fun os started H enc _ => fnExactGraphOk_lifted os started H enc)
end Go.Proofs.YtpgnllakcjajjaaGreat
