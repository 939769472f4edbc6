/- The law FnExactUpsOf returns true, whatever it is handed, and leaves it as it is. No condition. -/
import Derived.Test.YtkkaogfjlbigmaaGreatG25
import Derived.Test.YtkkaogfjlbigmaaGreatI
import Derived.Test.YtkkaogfjlbigmaaGreatP25
import Derived.Test.YtkkaogfjlbigmaaGreatRows
namespace Go.Proofs.YtkkaogfjlbigmaaGreat
open Am Go.RowKit
open Cel (cells)
set_option maxRecDepth 100000
theorem fnExactUpsOf_lifted (os : Os) (started : os.Started) (H : Type) (enc : TypeId × Value → H) :
    ReturnsInHanded {} Tryz.checked os 4 .any (Rows.fnExactUpsOfSpec.pre6 enc Tryz.prog Tryz.f4 Rows.fnExactUpsOfRow.domain false) (Rows.fnExactUpsOfSpec.post enc Tryz.prog Tryz.f4 false true false false) := by
  refine lifted (C := Tryz.checked) (T := TryzT) (tb := 4) TryzT_ok Tryz.own Tryz.laidOut started (by kernel_rfl) Tryz.func4 rfl ?_ rfl (by kernel_rfl) (by kernel_rfl) (by kernel_rfl)
    (ChangeSpec.witness6 (enc := enc) (C := Tryz.checked) false ⟨#[], #[.agg #[.slice none 0 0, .int .i64 0], .int .i64 0], []⟩ 8 (by kernel_rfl) (by kernel_rfl) (by kernel_rfl) (by kernel_rfl)) ?_
  · intro ds hd
    match ds, hd with
    | [d0, d1], _ => rfl
  · intro cs hcs
    match cs, hcs with
    | [c0, c1], hcs =>
      replace hcs : ShCs TryzT [53, 3] [c0, c1] := hcs
      simp only [ShCs, ShC, TryzT_3, TryzT_53] at hcs
      obtain ⟨⟨ps0, rfl, t0⟩, ⟨ps1, rfl, t1⟩, _⟩ := hcs
      obtain ⟨a0, rfl, g0⟩ := inv_53 t0
      obtain ⟨a1, ea1, g1, g'1⟩ := Sh_int TryzT_3 t1
      cases ea1
      exact f4_ok a0 a1 g0 g1 g'1

theorem fnExactUpsOf_named : Tryz.prog.funcNamed Rows.fnExactUpsOfRow.func = some 4 := by kernel_rfl
theorem fnExactUpsOf_inPlace : (Rows.fnExactUpsOfRow.inPlace == Tryz.prog.inPlace 4) = true := by kernel_rfl
theorem fnExactUpsOf_unfollowed : (Rows.fnExactUpsOfRow.unfollowed == Tryz.prog.unfollowed 4) = true := by kernel_rfl
theorem fnExactUpsOf_recurses : (Rows.fnExactUpsOfRow.recurses == Tryz.prog.recurses 4) = true := by kernel_rfl
theorem fnExactUpsOf_vars : (Rows.fnExactUpsOfRow.named == Tryz.prog.varsNamed 4) = true := by kernel_rfl
theorem fnExactUpsOf_facts : joinedFacts Tryz.prog 4 Tryz.f4 Rows.fnExactUpsOfSpec Rows.fnExactUpsOfRow = true :=
  joined_of (by as_aux_lemma => kernel_rfl) Tryz.laidOut Tryz.mapsRowed (by as_aux_lemma => kernel_rfl) (by as_aux_lemma => kernel_rfl) rfl Tryz.noStops rfl Tryz.noStopKnobs fnExactUpsOf_inPlace fnExactUpsOf_unfollowed fnExactUpsOf_recurses fnExactUpsOf_vars
    (by as_aux_lemma => kernel_rfl) (by as_aux_lemma => kernel_rfl) (by as_aux_lemma => kernel_rfl) (by as_aux_lemma => kernel_rfl) (by as_aux_lemma => kernel_rfl) rfl (by as_aux_lemma => kernel_rfl) (by as_aux_lemma => kernel_rfl) (by as_aux_lemma => kernel_rfl)
    Tryz.keys rfl Tryz.heard Tryz.entered Tryz.lifts Tryz.made (by as_aux_lemma => kernel_rfl) rfl (by as_aux_lemma => kernel_rfl) (by as_aux_lemma => kernel_rfl)
theorem fnExactUpsOf_holds : Rows.FnExactUpsOfSaid :=
  OpenClaim.holds_of_wide 4 Tryz.f4 rfl rfl rfl rfl rfl rfl rfl ⟨rfl, rfl, rfl, rfl, rfl⟩ rfl rfl rfl rfl rfl fnExactUpsOf_named Tryz.func4 fnExactUpsOf_facts
    (of_decide_eq_true (by kernel_rfl)) (by unfold Func.isWrapper; first | (rw [if_pos (by decide +kernel)]; kernel_rfl) | (rw [if_neg (by decide +kernel)]; exact ⟨rfl, rfl⟩))
    (fun os started H enc _ => fnExactUpsOf_lifted os started H enc)
end Go.Proofs.YtkkaogfjlbigmaaGreat
