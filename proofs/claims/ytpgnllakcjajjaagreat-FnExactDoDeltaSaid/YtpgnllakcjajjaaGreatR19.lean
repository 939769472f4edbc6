/- The law FnExactDoDelta returns true, whatever it is handed, and leaves it as it is. No condition. -/
import Derived.Test.YtpgnllakcjajjaaGreatG19
import Derived.Test.YtpgnllakcjajjaaGreatI
import Derived.Test.YtpgnllakcjajjaaGreatP19
import Derived.Test.YtpgnllakcjajjaaGreatRows
namespace Go.Proofs.YtpgnllakcjajjaaGreat
open Am Go.RowKit
open Cel (cells)
set_option maxRecDepth 100000
theorem fnExactDoDelta_lifted (os : Os) (started : os.Started) (H : Type) (enc : TypeId × Value → H) :
    ReturnsInHanded {} Tryz.checked os 7 .any (Rows.fnExactDoDeltaSpec.pre6 enc Tryz.prog Tryz.f7 Rows.fnExactDoDeltaRow.domain false) (Rows.fnExactDoDeltaSpec.post enc Tryz.prog Tryz.f7 false true false false) := by
  refine lifted (C := Tryz.checked) (T := TryzT) (tb := 4) TryzT_ok Tryz.own Tryz.laidOut started (by kernel_rfl) Tryz.func7 rfl ?_ rfl (by kernel_rfl) (by kernel_rfl) (by kernel_rfl)
    (ChangeSpec.witness6 (enc := enc) (C := Tryz.checked) false ⟨#[], #[.agg #[.slice none 0 0, .slice none 0 0, .slice none 0 0, .slice none 0 0], .agg #[.slice none 0 0, .slice none 0 0, .slice none 0 0, .slice none 0 0, .slice none 0 0, .slice none 0 0]], []⟩ 8 (by kernel_rfl) (by kernel_rfl) (by kernel_rfl) (by kernel_rfl)) ?_
  · intro ds hd
    match ds, hd with
    | [d0, d1], _ => rfl
  · intro cs hcs
    match cs, hcs with
    | [c0, c1], hcs =>
      replace hcs : ShCs TryzT [27, 53] [c0, c1] := hcs
      simp only [ShCs, ShC, TryzT_27, TryzT_53] at hcs
      obtain ⟨⟨ps0, rfl, t0⟩, ⟨ps1, rfl, t1⟩, _⟩ := hcs
      obtain ⟨a0, rfl, g0⟩ := inv_27 t0
      obtain ⟨a1, rfl, g1⟩ := inv_53 t1
      exact f7_ok a0 a1 g0 g1

theorem fnExactDoDelta_named : Tryz.prog.funcNamed Rows.fnExactDoDeltaRow.func = some 7 := by kernel_rfl
theorem fnExactDoDelta_inPlace : (Rows.fnExactDoDeltaRow.inPlace == Tryz.prog.inPlace 7) = true := by kernel_rfl
theorem fnExactDoDelta_unfollowed : (Rows.fnExactDoDeltaRow.unfollowed == Tryz.prog.unfollowed 7) = true := by kernel_rfl
theorem fnExactDoDelta_recurses : (Rows.fnExactDoDeltaRow.recurses == Tryz.prog.recurses 7) = true := by kernel_rfl
theorem fnExactDoDelta_vars : (Rows.fnExactDoDeltaRow.named == Tryz.prog.varsNamed 7) = true := by kernel_rfl
theorem fnExactDoDelta_facts : joinedFacts Tryz.prog 7 Tryz.f7 Rows.fnExactDoDeltaSpec Rows.fnExactDoDeltaRow = true :=
  joined_of (by as_aux_lemma => kernel_rfl) Tryz.laidOut Tryz.mapsRowed (by as_aux_lemma => kernel_rfl) (by as_aux_lemma => kernel_rfl) rfl Tryz.noStops rfl Tryz.noStopKnobs fnExactDoDelta_inPlace fnExactDoDelta_unfollowed fnExactDoDelta_recurses fnExactDoDelta_vars
    (by as_aux_lemma => kernel_rfl) (by as_aux_lemma => kernel_rfl) (by as_aux_lemma => kernel_rfl) (by as_aux_lemma => kernel_rfl) (by as_aux_lemma => kernel_rfl) rfl (by as_aux_lemma => kernel_rfl) (by as_aux_lemma => kernel_rfl) (by as_aux_lemma => kernel_rfl)
    Tryz.keys rfl Tryz.heard Tryz.entered Tryz.lifts Tryz.made (by as_aux_lemma => kernel_rfl) rfl (by as_aux_lemma => kernel_rfl) (by as_aux_lemma => kernel_rfl)
theorem fnExactDoDelta_holds : Rows.FnExactDoDeltaSaid :=
  OpenClaim.holds_of_wide 7 Tryz.f7 rfl rfl rfl rfl rfl rfl rfl ⟨rfl, rfl, rfl, rfl, rfl⟩ rfl rfl rfl rfl rfl fnExactDoDelta_named Tryz.func7 fnExactDoDelta_facts
    (of_decide_eq_true (by kernel_rfl)) (by unfold Func.isWrapper; first | (rw [if_pos (by decide +kernel)]; kernel_rfl) | (rw [if_neg (by decide +kernel)]; exact ⟨rfl, rfl⟩))
    (fun os started H enc _ => fnExactDoDelta_lifted os started H enc)
end Go.Proofs.YtpgnllakcjajjaaGreat
