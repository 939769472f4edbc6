/- The law FnExactReadUnit returns true, whatever it is handed, and leaves it as it is. No condition. -/
import Derived.Test.YtkndgnnfgdfcbaaGreatG14
import Derived.Test.YtkndgnnfgdfcbaaGreatI
import Derived.Test.YtkndgnnfgdfcbaaGreatP
import Derived.Test.YtkndgnnfgdfcbaaGreatRows
namespace Go.Proofs.YtkndgnnfgdfcbaaGreat
open Am Go.RowKit
open Cel (cells)
set_option maxRecDepth 100000
theorem fnExactReadUnit_lifted (os : Os) (started : os.Started) (H : Type) (enc : TypeId × Value → H) :
    ReturnsInHanded {} Tryz.checked os 5 .any (Rows.fnExactReadUnitSpec.pre6 enc Tryz.prog Tryz.f5 Rows.fnExactReadUnitRow.domain false) (Rows.fnExactReadUnitSpec.post enc Tryz.prog Tryz.f5 false true false false) := by
  refine lifted (C := Tryz.checked) (T := TryzT) (tb := 4) TryzT_ok Tryz.own Tryz.laidOut started (by kernel_rfl) Tryz.func5 rfl ?_ rfl (by kernel_rfl) (by kernel_rfl) (by kernel_rfl)
    (ChangeSpec.witness6 (enc := enc) (C := Tryz.checked) false ⟨#[], #[.string ⟨#[]⟩], []⟩ 8 (by kernel_rfl) (by kernel_rfl) (by kernel_rfl) (by kernel_rfl)) ?_
  · intro ds hd
    match ds, hd with
    | [d0], _ => rfl
  · intro cs hcs
    match cs, hcs with
    | [c0], hcs =>
      replace hcs : ShCs TryzT [9] [c0] := hcs
      simp only [ShCs, ShC, TryzT_9] at hcs
      obtain ⟨⟨ps0, rfl, t0⟩, _⟩ := hcs
      obtain ⟨a0, ea0, g0⟩ := Sh_str TryzT_9 t0
      cases ea0
      exact f5_ok a0 g0

theorem fnExactReadUnit_named : Tryz.prog.funcNamed Rows.fnExactReadUnitRow.func = some 5 := by kernel_rfl
theorem fnExactReadUnit_inPlace : (Rows.fnExactReadUnitRow.inPlace == Tryz.prog.inPlace 5) = true := by kernel_rfl
theorem fnExactReadUnit_unfollowed : (Rows.fnExactReadUnitRow.unfollowed == Tryz.prog.unfollowed 5) = true := by kernel_rfl
theorem fnExactReadUnit_recurses : (Rows.fnExactReadUnitRow.recurses == Tryz.prog.recurses 5) = true := by kernel_rfl
theorem fnExactReadUnit_vars : (Rows.fnExactReadUnitRow.named == Tryz.prog.varsNamed 5) = true := by kernel_rfl
theorem fnExactReadUnit_facts : joinedFacts Tryz.prog 5 Tryz.f5 Rows.fnExactReadUnitSpec Rows.fnExactReadUnitRow = true :=
  joined_of (by as_aux_lemma => kernel_rfl) Tryz.laidOut Tryz.mapsRowed (by as_aux_lemma => kernel_rfl) (by as_aux_lemma => kernel_rfl) rfl Tryz.noStops rfl Tryz.noStopKnobs fnExactReadUnit_inPlace fnExactReadUnit_unfollowed fnExactReadUnit_recurses fnExactReadUnit_vars
    (by as_aux_lemma => kernel_rfl) (by as_aux_lemma => kernel_rfl) (by as_aux_lemma => kernel_rfl) (by as_aux_lemma => kernel_rfl) (by as_aux_lemma => kernel_rfl) rfl (by as_aux_lemma => kernel_rfl) (by as_aux_lemma => kernel_rfl) (by as_aux_lemma => kernel_rfl)
    Tryz.keys rfl Tryz.heard Tryz.entered Tryz.lifts Tryz.made (by as_aux_lemma => kernel_rfl) rfl (by as_aux_lemma => kernel_rfl) (by as_aux_lemma => kernel_rfl)
theorem fnExactReadUnit_holds : Rows.FnExactReadUnitSaid :=
  OpenClaim.holds_of_wide 5 Tryz.f5 rfl rfl rfl rfl rfl rfl rfl ⟨rfl, rfl, rfl, rfl, rfl⟩ rfl rfl rfl rfl rfl fnExactReadUnit_named Tryz.func5 fnExactReadUnit_facts
    (of_decide_eq_true (by kernel_rfl)) (by unfold Func.isWrapper; first | (rw [if_pos (by decide +kernel)]; kernel_rfl) | (rw [if_neg (by decide +kernel)]; exact ⟨rfl, rfl⟩))
    (fun os started H enc _ => fnExactReadUnit_lifted os started H enc)
end Go.Proofs.YtkndgnnfgdfcbaaGreat
