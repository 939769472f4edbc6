/- The law FnExactDoUnit returns true, whatever it is handed, and leaves it as it is. No condition. -/
import Derived.Test.YtblhppnhiaombaaGreatG24
import Derived.Test.YtblhppnhiaombaaGreatI
import Derived.Test.YtblhppnhiaombaaGreatP24
import Derived.Test.YtblhppnhiaombaaGreatRows
namespace Go.Proofs.YtblhppnhiaombaaGreat
open Am Go.RowKit
open Cel (cells)
set_option maxRecDepth 100000
theorem fnExactDoUnit_lifted (os : Os) (started : os.Started) (H : Type) (enc : TypeId × Value → H) :
    ReturnsInHanded {} Tryz.checked os 3 .any (Rows.fnExactDoUnitSpec.pre6 enc Tryz.prog Tryz.f3 Rows.fnExactDoUnitRow.domain false) (Rows.fnExactDoUnitSpec.post enc Tryz.prog Tryz.f3 false true false false) := by
  refine lifted (C := Tryz.checked) (T := TryzT) (tb := 4) TryzT_ok Tryz.own Tryz.laidOut started (by kernel_rfl) Tryz.func3 rfl ?_ rfl (by kernel_rfl) (by kernel_rfl) (by kernel_rfl)
    (ChangeSpec.witness6 (enc := enc) (C := Tryz.checked) false ⟨#[], #[.agg #[.slice none 0 0, .slice none 0 0, .slice none 0 0, .slice none 0 0], .agg #[.bool false, .int .i64 0, .int .i64 0, .int .i64 0, .slice none 0 0, .int .i64 0, .string ⟨#[]⟩, .string ⟨#[]⟩, .int .i64 0, .int .i64 0, .int .i64 0, .slice none 0 0, .slice none 0 0, .slice none 0 0, .slice none 0 0, .slice none 0 0, .slice none 0 0]], []⟩ 8 (by kernel_rfl) (by kernel_rfl) (by kernel_rfl) (by kernel_rfl)) ?_
  · intro ds hd
    match ds, hd with
    | [d0, d1], _ => rfl
  · intro cs hcs
    match cs, hcs with
    | [c0, c1], hcs =>
      replace hcs : ShCs TryzT [27, 36] [c0, c1] := hcs
      simp only [ShCs, ShC, TryzT_27, TryzT_36] at hcs
      obtain ⟨⟨ps0, rfl, t0⟩, ⟨ps1, rfl, t1⟩, _⟩ := hcs
      obtain ⟨a0, rfl, g0⟩ := inv_27 t0
      obtain ⟨a1, rfl, g1⟩ := inv_36 t1
      exact f3_ok a0 a1 g0 g1

theorem fnExactDoUnit_named : Tryz.prog.funcNamed Rows.fnExactDoUnitRow.func = some 3 := by kernel_rfl
theorem fnExactDoUnit_inPlace : (Rows.fnExactDoUnitRow.inPlace == Tryz.prog.inPlace 3) = true := by kernel_rfl
theorem fnExactDoUnit_unfollowed : (Rows.fnExactDoUnitRow.unfollowed == Tryz.prog.unfollowed 3) = true := by kernel_rfl
theorem fnExactDoUnit_recurses : (Rows.fnExactDoUnitRow.recurses == Tryz.prog.recurses 3) = true := by kernel_rfl
theorem fnExactDoUnit_vars : (Rows.fnExactDoUnitRow.named == Tryz.prog.varsNamed 3) = true := by kernel_rfl
theorem fnExactDoUnit_facts : joinedFacts Tryz.prog 3 Tryz.f3 Rows.fnExactDoUnitSpec Rows.fnExactDoUnitRow = true :=
  joined_of (by as_aux_lemma => kernel_rfl) Tryz.laidOut Tryz.mapsRowed (by as_aux_lemma => kernel_rfl) (by as_aux_lemma => kernel_rfl) rfl Tryz.noStops rfl Tryz.noStopKnobs fnExactDoUnit_inPlace fnExactDoUnit_unfollowed fnExactDoUnit_recurses fnExactDoUnit_vars
    (by as_aux_lemma => kernel_rfl) (by as_aux_lemma => kernel_rfl) (by as_aux_lemma => kernel_rfl) (by as_aux_lemma => kernel_rfl) (by as_aux_lemma => kernel_rfl) rfl (by as_aux_lemma => kernel_rfl) (by as_aux_lemma => kernel_rfl) (by as_aux_lemma => kernel_rfl)
    Tryz.keys rfl Tryz.heard Tryz.entered Tryz.lifts Tryz.made (by as_aux_lemma => kernel_rfl) rfl (by as_aux_lemma => kernel_rfl) (by as_aux_lemma => kernel_rfl)
theorem fnExactDoUnit_holds : Rows.FnExactDoUnitSaid :=
  OpenClaim.holds_of_wide 3 Tryz.f3 rfl rfl rfl rfl rfl rfl rfl ⟨rfl, rfl, rfl, rfl, rfl⟩ rfl rfl rfl rfl rfl fnExactDoUnit_named Tryz.func3 fnExactDoUnit_facts
    (of_decide_eq_true (by kernel_rfl)) (by unfold Func.isWrapper; first | (rw [if_pos (by decide +kernel)]; kernel_rfl) | (rw [if_neg (by decide +kernel)]; exact ⟨rfl, rfl⟩))
    (fun os started H enc _ => fnExactDoUnit_lifted os started H enc)
end Go.Proofs.YtblhppnhiaombaaGreat
