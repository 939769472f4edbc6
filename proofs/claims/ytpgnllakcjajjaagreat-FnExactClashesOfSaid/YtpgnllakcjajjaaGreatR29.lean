/- The law FnExactClashesOf returns true, whatever it is handed, and leaves it as it is. No condition. -/
import Derived.Test.YtpgnllakcjajjaaGreatG29
import Derived.Test.YtpgnllakcjajjaaGreatI
import Derived.Test.YtpgnllakcjajjaaGreatP29
import Derived.Test.YtpgnllakcjajjaaGreatRows
namespace Go.Proofs.YtpgnllakcjajjaaGreat
open Am Go.RowKit
open Cel (cells)
set_option maxRecDepth 100000
theorem fnExactClashesOf_lifted (os : Os) (started : os.Started) (H : Type) (enc : TypeId × Value → H) :
    ReturnsInHanded {} Tryz.checked os 5 .any (Rows.fnExactClashesOfSpec.pre6 enc Tryz.prog Tryz.f5 Rows.fnExactClashesOfRow.domain false) (Rows.fnExactClashesOfSpec.post enc Tryz.prog Tryz.f5 false true false false) := by
  refine lifted (C := Tryz.checked) (T := TryzT) (tb := 4) TryzT_ok Tryz.own Tryz.laidOut started (by kernel_rfl) Tryz.func5 rfl ?_ rfl (by kernel_rfl) (by kernel_rfl) (by kernel_rfl)
    (ChangeSpec.witness6 (enc := enc) (C := Tryz.checked) false ⟨#[], #[.agg #[.slice none 0 0, .slice none 0 0, .slice none 0 0, .slice none 0 0], .agg #[.slice none 0 0, .slice none 0 0, .slice none 0 0, .slice none 0 0], .agg #[.slice none 0 0, .slice none 0 0, .slice none 0 0, .slice none 0 0]], []⟩ 8 (by kernel_rfl) (by kernel_rfl) (by kernel_rfl) (by kernel_rfl)) ?_
  · intro ds hd
    match ds, hd with
    | [d0, d1, d2], _ => rfl
  · intro cs hcs
    match cs, hcs with
    | [c0, c1, c2], hcs =>
      replace hcs : ShCs TryzT [27, 27, 27] [c0, c1, c2] := hcs
      simp only [ShCs, ShC, TryzT_27] at hcs
      obtain ⟨⟨ps0, rfl, t0⟩, ⟨ps1, rfl, t1⟩, ⟨ps2, rfl, t2⟩, _⟩ := hcs
      obtain ⟨a0, rfl, g0⟩ := inv_27 t0
      obtain ⟨a1, rfl, g1⟩ := inv_27 t1
      obtain ⟨a2, rfl, g2⟩ := inv_27 t2
      exact f5_ok a0 a1 a2 g0 g1 g2

theorem fnExactClashesOf_named : Tryz.prog.funcNamed Rows.fnExactClashesOfRow.func = some 5 := by kernel_rfl
theorem fnExactClashesOf_inPlace : (Rows.fnExactClashesOfRow.inPlace == Tryz.prog.inPlace 5) = true := by kernel_rfl
theorem fnExactClashesOf_unfollowed : (Rows.fnExactClashesOfRow.unfollowed == Tryz.prog.unfollowed 5) = true := by kernel_rfl
theorem fnExactClashesOf_recurses : (Rows.fnExactClashesOfRow.recurses == Tryz.prog.recurses 5) = true := by kernel_rfl
theorem fnExactClashesOf_vars : (Rows.fnExactClashesOfRow.named == Tryz.prog.varsNamed 5) = true := by kernel_rfl
theorem fnExactClashesOf_facts : joinedFacts Tryz.prog 5 Tryz.f5 Rows.fnExactClashesOfSpec Rows.fnExactClashesOfRow = true :=
  joined_of (by as_aux_lemma => kernel_rfl) Tryz.laidOut Tryz.mapsRowed (by as_aux_lemma => kernel_rfl) (by as_aux_lemma => kernel_rfl) rfl Tryz.noStops rfl Tryz.noStopKnobs fnExactClashesOf_inPlace fnExactClashesOf_unfollowed fnExactClashesOf_recurses fnExactClashesOf_vars
    (by as_aux_lemma => kernel_rfl) (by as_aux_lemma => kernel_rfl) (by as_aux_lemma => kernel_rfl) (by as_aux_lemma => kernel_rfl) (by as_aux_lemma => kernel_rfl) rfl (by as_aux_lemma => kernel_rfl) (by as_aux_lemma => kernel_rfl) (by as_aux_lemma => kernel_rfl)
    Tryz.keys rfl Tryz.heard Tryz.entered Tryz.lifts Tryz.made (by as_aux_lemma => kernel_rfl) rfl (by as_aux_lemma => kernel_rfl) (by as_aux_lemma => kernel_rfl)
theorem fnExactClashesOf_holds : Rows.FnExactClashesOfSaid :=
  OpenClaim.holds_of_wide 5 Tryz.f5 rfl rfl rfl rfl rfl rfl rfl ⟨rfl, rfl, rfl, rfl, rfl⟩ rfl rfl rfl rfl rfl fnExactClashesOf_named Tryz.func5 fnExactClashesOf_facts
    (of_decide_eq_true (by kernel_rfl)) (by unfold Func.isWrapper; first | (rw [if_pos (by decide +kernel)]; kernel_rfl) | (rw [if_neg (by decide +kernel)]; exact ⟨rfl, rfl⟩))
    (fun os started H enc _ => fnExactClashesOf_lifted os started H enc)
end Go.Proofs.YtpgnllakcjajjaaGreat
