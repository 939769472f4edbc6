/- The law FnExactReadState returns true, whatever it is handed, and leaves it as it is. No condition. -/
import Derived.Test.YtkndgnnfgdfcbaaG12
import Derived.Test.YtkndgnnfgdfcbaaI
import Derived.Test.YtkndgnnfgdfcbaaP
import Derived.Test.YtkndgnnfgdfcbaaRows
namespace Go.Proofs.Ytkndgnnfgdfcbaa
open Am Go.RowKit
open Cel (cells)
set_option maxRecDepth 100000
theorem fnExactReadState_lifted (os : Os) (started : os.Started) (H : Type) (enc : TypeId × Value → H) :
    ReturnsInHanded {} Try.checked os 4 .any (Rows.fnExactReadStateSpec.pre6 enc Try.prog Try.f4 Rows.fnExactReadStateRow.domain false) (Rows.fnExactReadStateSpec.post enc Try.prog Try.f4 false true false false) := by
  refine lifted (C := Try.checked) (T := TryT) (tb := 4) TryT_ok Try.own Try.laidOut started (by kernel_rfl) Try.func4 rfl ?_ rfl (by kernel_rfl) (by kernel_rfl) (by kernel_rfl)
    (ChangeSpec.witness6 (enc := enc) (C := Try.checked) false ⟨#[], #[.string ⟨#[]⟩], []⟩ 8 (by kernel_rfl) (by kernel_rfl) (by kernel_rfl) (by kernel_rfl)) ?_
  · intro ds hd
    match ds, hd with
    | [d0], _ => rfl
  · intro cs hcs
    match cs, hcs with
    | [c0], hcs =>
      replace hcs : ShCs TryT [9] [c0] := hcs
      simp only [ShCs, ShC, TryT_9] at hcs
      obtain ⟨⟨ps0, rfl, t0⟩, _⟩ := hcs
      obtain ⟨a0, ea0, g0⟩ := Sh_str TryT_9 t0
      cases ea0
      exact f4_ok a0 g0

theorem fnExactReadState_named : Try.prog.funcNamed Rows.fnExactReadStateRow.func = some 4 := by kernel_rfl
theorem fnExactReadState_inPlace : (Rows.fnExactReadStateRow.inPlace == Try.prog.inPlace 4) = true := by kernel_rfl
theorem fnExactReadState_unfollowed : (Rows.fnExactReadStateRow.unfollowed == Try.prog.unfollowed 4) = true := by kernel_rfl
theorem fnExactReadState_recurses : (Rows.fnExactReadStateRow.recurses == Try.prog.recurses 4) = true := by kernel_rfl
theorem fnExactReadState_vars : (Rows.fnExactReadStateRow.named == Try.prog.varsNamed 4) = true := by kernel_rfl
theorem fnExactReadState_facts : joinedFacts Try.prog 4 Try.f4 Rows.fnExactReadStateSpec Rows.fnExactReadStateRow = true :=
  joined_of (by as_aux_lemma => kernel_rfl) Try.laidOut Try.mapsRowed (by as_aux_lemma => kernel_rfl) (by as_aux_lemma => kernel_rfl) rfl Try.noStops rfl Try.noStopKnobs fnExactReadState_inPlace fnExactReadState_unfollowed fnExactReadState_recurses fnExactReadState_vars
    (by as_aux_lemma => kernel_rfl) (by as_aux_lemma => kernel_rfl) (by as_aux_lemma => kernel_rfl) (by as_aux_lemma => kernel_rfl) (by as_aux_lemma => kernel_rfl) rfl (by as_aux_lemma => kernel_rfl) (by as_aux_lemma => kernel_rfl) (by as_aux_lemma => kernel_rfl)
    Try.keys rfl Try.heard Try.entered Try.lifts Try.made (by as_aux_lemma => kernel_rfl) rfl (by as_aux_lemma => kernel_rfl) (by as_aux_lemma => kernel_rfl)
theorem fnExactReadState_holds : Rows.FnExactReadStateSaid :=
  OpenClaim.holds_of_wide 4 Try.f4 rfl rfl rfl rfl rfl rfl rfl ⟨rfl, rfl, rfl, rfl, rfl⟩ rfl rfl rfl rfl rfl fnExactReadState_named Try.func4 fnExactReadState_facts
    (of_decide_eq_true (by kernel_rfl)) (by unfold Func.isWrapper; first | (rw [if_pos (by decide +kernel)]; kernel_rfl) | (rw [if_neg (by decide +kernel)]; exact ⟨rfl, rfl⟩))
    (fun os started H enc _ => fnExactReadState_lifted os started H enc)
end Go.Proofs.Ytkndgnnfgdfcbaa
