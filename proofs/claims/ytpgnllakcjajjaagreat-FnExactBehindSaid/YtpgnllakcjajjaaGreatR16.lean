/- The law FnExactBehind returns true, whatever it is handed, and leaves it as it is. No condition. -/
import Derived.Test.YtpgnllakcjajjaaGreatG16
import Derived.Test.YtpgnllakcjajjaaGreatI
import Derived.Test.YtpgnllakcjajjaaGreatP16
import Derived.Test.YtpgnllakcjajjaaGreatRows
namespace Go.Proofs.YtpgnllakcjajjaaGreat
open Am Go.RowKit
open Cel (cells)
set_option maxRecDepth 100000
theorem fnExactBehind_lifted (os : Os) (started : os.Started) (H : Type) (enc : TypeId × Value → H) :
    ReturnsInHanded {} Tryz.checked os 4 .any (Rows.fnExactBehindSpec.pre6 enc Tryz.prog Tryz.f4 Rows.fnExactBehindRow.domain false) (Rows.fnExactBehindSpec.post enc Tryz.prog Tryz.f4 false true false false) := by
  refine lifted (C := Tryz.checked) (T := TryzT) (tb := 4) TryzT_ok Tryz.own Tryz.laidOut started (by kernel_rfl) Tryz.func4 rfl ?_ rfl (by kernel_rfl) (by kernel_rfl) (by kernel_rfl)
    (ChangeSpec.witness6 (enc := enc) (C := Tryz.checked) false ⟨#[], #[.agg #[.slice none 0 0, .slice none 0 0, .slice none 0 0, .slice none 0 0], .agg #[.slice none 0 0, .slice none 0 0, .slice none 0 0, .slice none 0 0]], []⟩ 8 (by kernel_rfl) (by kernel_rfl) (by kernel_rfl) (by kernel_rfl)) ?_
  · intro ds hd
    match ds, hd with
    | [d0, d1], _ => rfl
  · intro cs hcs
    match cs, hcs with
    | [c0, c1], hcs =>
      replace hcs : ShCs TryzT [27, 27] [c0, c1] := hcs
      simp only [ShCs, ShC, TryzT_27] at hcs
      obtain ⟨⟨ps0, rfl, t0⟩, ⟨ps1, rfl, t1⟩, _⟩ := hcs
      obtain ⟨a0, rfl, g0⟩ := inv_27 t0
      obtain ⟨a1, rfl, g1⟩ := inv_27 t1
      exact f4_ok a0 a1 g0 g1

theorem fnExactBehind_named : Tryz.prog.funcNamed Rows.fnExactBehindRow.func = some 4 := by kernel_rfl
theorem fnExactBehind_inPlace : (Rows.fnExactBehindRow.inPlace == Tryz.prog.inPlace 4) = true := by kernel_rfl
theorem fnExactBehind_unfollowed : (Rows.fnExactBehindRow.unfollowed == Tryz.prog.unfollowed 4) = true := by kernel_rfl
theorem fnExactBehind_recurses : (Rows.fnExactBehindRow.recurses == Tryz.prog.recurses 4) = true := by kernel_rfl
theorem fnExactBehind_vars : (Rows.fnExactBehindRow.named == Tryz.prog.varsNamed 4) = true := by kernel_rfl
theorem fnExactBehind_facts : joinedFacts Tryz.prog 4 Tryz.f4 Rows.fnExactBehindSpec Rows.fnExactBehindRow = true :=
  joined_of (by as_aux_lemma => kernel_rfl) Tryz.laidOut Tryz.mapsRowed (by as_aux_lemma => kernel_rfl) (by as_aux_lemma => kernel_rfl) rfl Tryz.noStops rfl Tryz.noStopKnobs fnExactBehind_inPlace fnExactBehind_unfollowed fnExactBehind_recurses fnExactBehind_vars
    (by as_aux_lemma => kernel_rfl) (by as_aux_lemma => kernel_rfl) (by as_aux_lemma => kernel_rfl) (by as_aux_lemma => kernel_rfl) (by as_aux_lemma => kernel_rfl) rfl (by as_aux_lemma => kernel_rfl) (by as_aux_lemma => kernel_rfl) (by as_aux_lemma => kernel_rfl)
    Tryz.keys rfl Tryz.heard Tryz.entered Tryz.lifts Tryz.made (by as_aux_lemma => kernel_rfl) rfl (by as_aux_lemma => kernel_rfl) (by as_aux_lemma => kernel_rfl)
theorem fnExactBehind_holds : Rows.FnExactBehindSaid :=
  OpenClaim.holds_of_wide 4 Tryz.f4 rfl rfl rfl rfl rfl rfl rfl ⟨rfl, rfl, rfl, rfl, rfl⟩ rfl rfl rfl rfl rfl fnExactBehind_named Tryz.func4 fnExactBehind_facts
    (of_decide_eq_true (by kernel_rfl)) (by unfold Func.isWrapper; first | (rw [if_pos (by decide +kernel)]; kernel_rfl) | (rw [if_neg (by decide +kernel)]; exact ⟨rfl, rfl⟩))
    (fun os started H enc _ => fnExactBehind_lifted os started H enc)
end Go.Proofs.YtpgnllakcjajjaaGreat
