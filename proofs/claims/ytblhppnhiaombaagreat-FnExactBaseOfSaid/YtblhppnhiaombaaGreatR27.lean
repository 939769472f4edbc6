/- The law FnExactBaseOf returns true, whatever it is handed, and leaves it as it is. No condition. -/
import Derived.Test.YtblhppnhiaombaaGreatG27
import Derived.Test.YtblhppnhiaombaaGreatI
import Derived.Test.YtblhppnhiaombaaGreatP27
import Derived.Test.YtblhppnhiaombaaGreatRows
namespace Go.Proofs.YtblhppnhiaombaaGreat
open Am Go.RowKit
open Cel (cells)
set_option maxRecDepth 100000
theorem fnExactBaseOf_lifted (os : Os) (started : os.Started) (H : Type) (enc : TypeId × Value → H) :
    ReturnsInHanded {} Tryz.checked os 4 .any (Rows.fnExactBaseOfSpec.pre6 enc Tryz.prog Tryz.f4 Rows.fnExactBaseOfRow.domain false) (Rows.fnExactBaseOfSpec.post enc Tryz.prog Tryz.f4 false true false false) := by
  refine lifted (C := Tryz.checked) (T := TryzT) (tb := 4) TryzT_ok Tryz.own Tryz.laidOut started (by kernel_rfl) Tryz.func4 rfl ?_ rfl (by kernel_rfl) (by kernel_rfl) (by kernel_rfl)
    (ChangeSpec.witness6 (enc := enc) (C := Tryz.checked) false ⟨#[], #[.agg #[.slice none 0 0, .int .i64 0], .int .i64 0, .int .i64 0], []⟩ 8 (by kernel_rfl) (by kernel_rfl) (by kernel_rfl) (by kernel_rfl)) ?_
  · intro ds hd
    match ds, hd with
    | [d0, d1, d2], _ => rfl
  · intro cs hcs
    match cs, hcs with
    | [c0, c1, c2], hcs =>
      replace hcs : ShCs TryzT [63, 3, 3] [c0, c1, c2] := hcs
      simp only [ShCs, ShC, TryzT_3, TryzT_63] at hcs
      obtain ⟨⟨ps0, rfl, t0⟩, ⟨ps1, rfl, t1⟩, ⟨ps2, rfl, t2⟩, _⟩ := hcs
      obtain ⟨a0, rfl, g0⟩ := inv_63 t0
      obtain ⟨a1, ea1, g1, g'1⟩ := Sh_int TryzT_3 t1
      cases ea1
      obtain ⟨a2, ea2, g2, g'2⟩ := Sh_int TryzT_3 t2
      cases ea2
      exact f4_ok a0 a1 a2 g0 g1 g'1 g2 g'2

theorem fnExactBaseOf_named : Tryz.prog.funcNamed Rows.fnExactBaseOfRow.func = some 4 := by kernel_rfl
theorem fnExactBaseOf_inPlace : (Rows.fnExactBaseOfRow.inPlace == Tryz.prog.inPlace 4) = true := by kernel_rfl
theorem fnExactBaseOf_unfollowed : (Rows.fnExactBaseOfRow.unfollowed == Tryz.prog.unfollowed 4) = true := by kernel_rfl
theorem fnExactBaseOf_recurses : (Rows.fnExactBaseOfRow.recurses == Tryz.prog.recurses 4) = true := by kernel_rfl
theorem fnExactBaseOf_vars : (Rows.fnExactBaseOfRow.named == Tryz.prog.varsNamed 4) = true := by kernel_rfl
theorem fnExactBaseOf_facts : joinedFacts Tryz.prog 4 Tryz.f4 Rows.fnExactBaseOfSpec Rows.fnExactBaseOfRow = true :=
  joined_of (by as_aux_lemma => kernel_rfl) Tryz.laidOut Tryz.mapsRowed (by as_aux_lemma => kernel_rfl) (by as_aux_lemma => kernel_rfl) rfl Tryz.noStops rfl Tryz.noStopKnobs fnExactBaseOf_inPlace fnExactBaseOf_unfollowed fnExactBaseOf_recurses fnExactBaseOf_vars
    (by as_aux_lemma => kernel_rfl) (by as_aux_lemma => kernel_rfl) (by as_aux_lemma => kernel_rfl) (by as_aux_lemma => kernel_rfl) (by as_aux_lemma => kernel_rfl) rfl (by as_aux_lemma => kernel_rfl) (by as_aux_lemma => kernel_rfl) (by as_aux_lemma => kernel_rfl)
    Tryz.keys rfl Tryz.heard Tryz.entered Tryz.lifts Tryz.made (by as_aux_lemma => kernel_rfl) rfl (by as_aux_lemma => kernel_rfl) (by as_aux_lemma => kernel_rfl)
theorem fnExactBaseOf_holds : Rows.FnExactBaseOfSaid :=
  OpenClaim.holds_of_wide 4 Tryz.f4 rfl rfl rfl rfl rfl rfl rfl ⟨rfl, rfl, rfl, rfl, rfl⟩ rfl rfl rfl rfl rfl fnExactBaseOf_named Tryz.func4 fnExactBaseOf_facts
    (of_decide_eq_true (by kernel_rfl)) (by unfold Func.isWrapper; first | (rw [if_pos (by decide +kernel)]; kernel_rfl) | (rw [if_neg (by decide +kernel)]; exact ⟨rfl, rfl⟩))
    (fun os started H enc _ => fnExactBaseOf_lifted os started H enc)
end Go.Proofs.YtblhppnhiaombaaGreat
