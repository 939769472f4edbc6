/- The law FnExactDeltaOf returns true, whatever it is handed, and leaves it as it is. No condition. -/
import Derived.Test.YtpgnllakcjajjaaGreatG18
import Derived.Test.YtpgnllakcjajjaaGreatI
import Derived.Test.YtpgnllakcjajjaaGreatP18
import Derived.Test.YtpgnllakcjajjaaGreatRows
namespace Go.Proofs.YtpgnllakcjajjaaGreat
open Am Go.RowKit
open Cel (cells)
set_option maxRecDepth 100000
theorem fnExactDeltaOf_lifted (os : Os) (started : os.Started) (H : Type) (enc : TypeId × Value → H) :
    ReturnsInHanded {} Tryz.checked os 6 .any (Rows.fnExactDeltaOfSpec.pre6 enc Tryz.prog Tryz.f6 Rows.fnExactDeltaOfRow.domain false) (Rows.fnExactDeltaOfSpec.post enc Tryz.prog Tryz.f6 false true false false) := by
  refine lifted (C := Tryz.checked) (T := TryzT) (tb := 4) TryzT_ok Tryz.own Tryz.laidOut started (by kernel_rfl) Tryz.func6 rfl ?_ rfl (by kernel_rfl) (by kernel_rfl) (by kernel_rfl)
    (ChangeSpec.witness6 (enc := enc) (C := Tryz.checked) false ⟨#[], #[.agg #[.slice none 0 0, .slice none 0 0, .slice none 0 0, .slice none 0 0], .agg #[.slice none 0 0, .slice none 0 0, .slice none 0 0, .slice none 0 0]], []⟩ 8 (by kernel_rfl) (by kernel_rfl) (by kernel_rfl) (by kernel_rfl)) ?_
  · intro ds hd
    match ds, hd with
    | [d0, d1], _ => rfl
  · intro cs hcs
    match cs, hcs with
    | [c0, c1], hcs =>
      replace hcs : ShCs TryzT [27, 27] [c0, c1] := hcs
      simp only [ShCs, ShC, TryzT_27] at hcs
      obtain ⟨⟨ps0, rfl, t0⟩, ⟨ps1, rfl, t1⟩, _⟩ := hcs
      obtain ⟨a0, rfl, g0⟩ := inv_27 t0
      obtain ⟨a1, rfl, g1⟩ := inv_27 t1
      exact f6_ok a0 a1 g0 g1

theorem fnExactDeltaOf_named : Tryz.prog.funcNamed Rows.fnExactDeltaOfRow.func = some 6 := by kernel_rfl
theorem fnExactDeltaOf_inPlace : (Rows.fnExactDeltaOfRow.inPlace == Tryz.prog.inPlace 6) = true := by kernel_rfl
theorem fnExactDeltaOf_unfollowed : (Rows.fnExactDeltaOfRow.unfollowed == Tryz.prog.unfollowed 6) = true := by kernel_rfl
theorem fnExactDeltaOf_recurses : (Rows.fnExactDeltaOfRow.recurses == Tryz.prog.recurses 6) = true := by kernel_rfl
theorem fnExactDeltaOf_vars : (Rows.fnExactDeltaOfRow.named == Tryz.prog.varsNamed 6) = true := by kernel_rfl
theorem fnExactDeltaOf_facts : joinedFacts Tryz.prog 6 Tryz.f6 Rows.fnExactDeltaOfSpec Rows.fnExactDeltaOfRow = true :=
  joined_of (by as_aux_lemma => kernel_rfl) Tryz.laidOut Tryz.mapsRowed (by as_aux_lemma => kernel_rfl) (by as_aux_lemma => kernel_rfl) rfl Tryz.noStops rfl Tryz.noStopKnobs fnExactDeltaOf_inPlace fnExactDeltaOf_unfollowed fnExactDeltaOf_recurses fnExactDeltaOf_vars
    (by as_aux_lemma => kernel_rfl) (by as_aux_lemma => kernel_rfl) (by as_aux_lemma => kernel_rfl) (by as_aux_lemma => kernel_rfl) (by as_aux_lemma => kernel_rfl) rfl (by as_aux_lemma => kernel_rfl) (by as_aux_lemma => kernel_rfl) (by as_aux_lemma => kernel_rfl)
    Tryz.keys rfl Tryz.heard Tryz.entered Tryz.lifts Tryz.made (by as_aux_lemma => kernel_rfl) rfl (by as_aux_lemma => kernel_rfl) (by as_aux_lemma => kernel_rfl)
theorem fnExactDeltaOf_holds : Rows.FnExactDeltaOfSaid :=
  OpenClaim.holds_of_wide 6 Tryz.f6 rfl rfl rfl rfl rfl rfl rfl ⟨rfl, rfl, rfl, rfl, rfl⟩ rfl rfl rfl rfl rfl fnExactDeltaOf_named Tryz.func6 fnExactDeltaOf_facts
    (of_decide_eq_true (by kernel_rfl)) (by unfold Func.isWrapper; first | (rw [if_pos (by decide +kernel)]; kernel_rfl) | (rw [if_neg (by decide +kernel)]; exact ⟨rfl, rfl⟩))
    (fun os started H enc _ => fnExactDeltaOf_lifted os started H enc)
end Go.Proofs.YtpgnllakcjajjaaGreat
