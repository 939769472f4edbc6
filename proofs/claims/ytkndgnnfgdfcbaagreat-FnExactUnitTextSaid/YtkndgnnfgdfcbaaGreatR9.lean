/- The law FnExactUnitText returns true, whatever it is handed, and leaves it as it is. No condition. -/
import Derived.Test.YtkndgnnfgdfcbaaGreatG9
import Derived.Test.YtkndgnnfgdfcbaaGreatI
import Derived.Test.YtkndgnnfgdfcbaaGreatP
import Derived.Test.YtkndgnnfgdfcbaaGreatRows
namespace Go.Proofs.YtkndgnnfgdfcbaaGreat
open Am Go.RowKit
open Cel (cells)
set_option maxRecDepth 100000
theorem fnExactUnitText_lifted (os : Os) (started : os.Started) (H : Type) (enc : TypeId × Value → H) :
    ReturnsInHanded {} Tryz.checked os 3 .any (Rows.fnExactUnitTextSpec.pre6 enc Tryz.prog Tryz.f3 Rows.fnExactUnitTextRow.domain false) (Rows.fnExactUnitTextSpec.post enc Tryz.prog Tryz.f3 false true false false) := by
  refine lifted (C := Tryz.checked) (T := TryzT) (tb := 4) TryzT_ok Tryz.own Tryz.laidOut started (by kernel_rfl) Tryz.func3 rfl ?_ rfl (by kernel_rfl) (by kernel_rfl) (by kernel_rfl)
    (ChangeSpec.witness6 (enc := enc) (C := Tryz.checked) false ⟨#[], #[.agg #[.bool false, .int .i64 0, .int .i64 0, .int .i64 0, .slice none 0 0, .int .i64 0, .string ⟨#[]⟩, .string ⟨#[]⟩, .int .i64 0, .int .i64 0, .int .i64 0, .slice none 0 0, .slice none 0 0, .slice none 0 0, .slice none 0 0, .slice none 0 0, .slice none 0 0]], []⟩ 8 (by kernel_rfl) (by kernel_rfl) (by kernel_rfl) (by kernel_rfl)) ?_
  · intro ds hd
    match ds, hd with
    | [d0], _ => rfl
  · intro cs hcs
    match cs, hcs with
    | [c0], hcs =>
      replace hcs : ShCs TryzT [34] [c0] := hcs
      simp only [ShCs, ShC, TryzT_34] at hcs
      obtain ⟨⟨ps0, rfl, t0⟩, _⟩ := hcs
      obtain ⟨a0, rfl, g0⟩ := inv_34 t0
      exact f3_ok a0 g0

theorem fnExactUnitText_named : Tryz.prog.funcNamed Rows.fnExactUnitTextRow.func = some 3 := by kernel_rfl
theorem fnExactUnitText_inPlace : (Rows.fnExactUnitTextRow.inPlace == Tryz.prog.inPlace 3) = true := by kernel_rfl
theorem fnExactUnitText_unfollowed : (Rows.fnExactUnitTextRow.unfollowed == Tryz.prog.unfollowed 3) = true := by kernel_rfl
theorem fnExactUnitText_recurses : (Rows.fnExactUnitTextRow.recurses == Tryz.prog.recurses 3) = true := by kernel_rfl
theorem fnExactUnitText_vars : (Rows.fnExactUnitTextRow.named == Tryz.prog.varsNamed 3) = true := by kernel_rfl
theorem fnExactUnitText_facts : joinedFacts Tryz.prog 3 Tryz.f3 Rows.fnExactUnitTextSpec Rows.fnExactUnitTextRow = true :=
  joined_of (by as_aux_lemma => kernel_rfl) Tryz.laidOut Tryz.mapsRowed (by as_aux_lemma => kernel_rfl) (by as_aux_lemma => kernel_rfl) rfl Tryz.noStops rfl Tryz.noStopKnobs fnExactUnitText_inPlace fnExactUnitText_unfollowed fnExactUnitText_recurses fnExactUnitText_vars
    (by as_aux_lemma => kernel_rfl) (by as_aux_lemma => kernel_rfl) (by as_aux_lemma => kernel_rfl) (by as_aux_lemma => kernel_rfl) (by as_aux_lemma => kernel_rfl) rfl (by as_aux_lemma => kernel_rfl) (by as_aux_lemma => kernel_rfl) (by as_aux_lemma => kernel_rfl)
    Tryz.keys rfl Tryz.heard Tryz.entered Tryz.lifts Tryz.made (by as_aux_lemma => kernel_rfl) rfl (by as_aux_lemma => kernel_rfl) (by as_aux_lemma => kernel_rfl)
theorem fnExactUnitText_holds : Rows.FnExactUnitTextSaid :=
  OpenClaim.holds_of_wide 3 Tryz.f3 rfl rfl rfl rfl rfl rfl rfl ⟨rfl, rfl, rfl, rfl, rfl⟩ rfl rfl rfl rfl rfl fnExactUnitText_named Tryz.func3 fnExactUnitText_facts
    (of_decide_eq_true (by kernel_rfl)) (by unfold Func.isWrapper; first | (rw [if_pos (by decide +kernel)]; kernel_rfl) | (rw [if_neg (by decide +kernel)]; exact ⟨rfl, rfl⟩))
    (fun os started H enc _ => fnExactUnitText_lifted os started H enc)
end Go.Proofs.YtkndgnnfgdfcbaaGreat
