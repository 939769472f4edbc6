/- The law FnExactJointsOf returns true, whatever it is handed, and leaves it as it is. No condition. -/
import Derived.Test.YtkkaogfjlbigmaaGreatG26
import Derived.Test.YtkkaogfjlbigmaaGreatI
import Derived.Test.YtkkaogfjlbigmaaGreatP26
import Derived.Test.YtkkaogfjlbigmaaGreatRows
namespace Go.Proofs.YtkkaogfjlbigmaaGreat
open Am Go.RowKit
open Cel (cells)
set_option maxRecDepth 100000
theorem fnExactJointsOf_lifted (os : Os) (started : os.Started) (H : Type) (enc : TypeId × Value → H) :
    ReturnsInHanded {} Tryz.checked os 5 .any (Rows.fnExactJointsOfSpec.pre6 enc Tryz.prog Tryz.f5 Rows.fnExactJointsOfRow.domain false) (Rows.fnExactJointsOfSpec.post enc Tryz.prog Tryz.f5 false true false false) := by
  refine lifted (C := Tryz.checked) (T := TryzT) (tb := 4) TryzT_ok Tryz.own Tryz.laidOut started (by kernel_rfl) Tryz.func5 rfl ?_ rfl (by kernel_rfl) (by kernel_rfl) (by kernel_rfl)
    (ChangeSpec.witness6 (enc := enc) (C := Tryz.checked) false ⟨#[], #[.agg #[.slice none 0 0, .int .i64 0], .int .i64 0, .int .i64 0], []⟩ 8 (by kernel_rfl) (by kernel_rfl) (by kernel_rfl) (by kernel_rfl)) ?_
  · intro ds hd
    match ds, hd with
    | [d0, d1, d2], _ => rfl
  · intro cs hcs
    match cs, hcs with
    | [c0, c1, c2], hcs =>
      replace hcs : ShCs TryzT [53, 3, 3] [c0, c1, c2] := hcs
      simp only [ShCs, ShC, TryzT_3, TryzT_53] at hcs
      obtain ⟨⟨ps0, rfl, t0⟩, ⟨ps1, rfl, t1⟩, ⟨ps2, rfl, t2⟩, _⟩ := hcs
      obtain ⟨a0, rfl, g0⟩ := inv_53 t0
      obtain ⟨a1, ea1, g1, g'1⟩ := Sh_int TryzT_3 t1
      cases ea1
      obtain ⟨a2, ea2, g2, g'2⟩ := Sh_int TryzT_3 t2
      cases ea2
      exact f5_ok a0 a1 a2 g0 g1 g'1 g2 g'2

theorem fnExactJointsOf_named : Tryz.prog.funcNamed Rows.fnExactJointsOfRow.func = some 5 := by kernel_rfl
theorem fnExactJointsOf_inPlace : (Rows.fnExactJointsOfRow.inPlace == Tryz.prog.inPlace 5) = true := by kernel_rfl
theorem fnExactJointsOf_unfollowed : (Rows.fnExactJointsOfRow.unfollowed == Tryz.prog.unfollowed 5) = true := by kernel_rfl
theorem fnExactJointsOf_recurses : (Rows.fnExactJointsOfRow.recurses == Tryz.prog.recurses 5) = true := by kernel_rfl
theorem fnExactJointsOf_vars : (Rows.fnExactJointsOfRow.named == Tryz.prog.varsNamed 5) = true := by kernel_rfl
theorem fnExactJointsOf_facts : joinedFacts Tryz.prog 5 Tryz.f5 Rows.fnExactJointsOfSpec Rows.fnExactJointsOfRow = true :=
  joined_of (by as_aux_lemma => kernel_rfl) Tryz.laidOut Tryz.mapsRowed (by as_aux_lemma => kernel_rfl) (by as_aux_lemma => kernel_rfl) rfl Tryz.noStops rfl Tryz.noStopKnobs fnExactJointsOf_inPlace fnExactJointsOf_unfollowed fnExactJointsOf_recurses fnExactJointsOf_vars
    (by as_aux_lemma => kernel_rfl) (by as_aux_lemma => kernel_rfl) (by as_aux_lemma => kernel_rfl) (by as_aux_lemma => kernel_rfl) (by as_aux_lemma => kernel_rfl) rfl (by as_aux_lemma => kernel_rfl) (by as_aux_lemma => kernel_rfl) (by as_aux_lemma => kernel_rfl)
    Tryz.keys rfl Tryz.heard Tryz.entered Tryz.lifts Tryz.made (by as_aux_lemma => kernel_rfl) rfl (by as_aux_lemma => kernel_rfl) (by as_aux_lemma => kernel_rfl)
theorem fnExactJointsOf_holds : Rows.FnExactJointsOfSaid :=
  OpenClaim.holds_of_wide 5 Tryz.f5 rfl rfl rfl rfl rfl rfl rfl ⟨rfl, rfl, rfl, rfl, rfl⟩ rfl rfl rfl rfl rfl fnExactJointsOf_named Tryz.func5 fnExactJointsOf_facts
    (of_decide_eq_true (by kernel_rfl)) (by unfold Func.isWrapper; first | (rw [if_pos (by decide +kernel)]; kernel_rfl) | (rw [if_neg (by decide +kernel)]; exact ⟨rfl, rfl⟩))
    (fun os started H enc _ => fnExactJointsOf_lifted os started H enc)
end Go.Proofs.YtkkaogfjlbigmaaGreat
