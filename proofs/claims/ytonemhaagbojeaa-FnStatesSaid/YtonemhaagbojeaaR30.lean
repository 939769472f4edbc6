/- The law FnStates returns true, whatever it is handed, and leaves it as it is. No condition. -/
import Derived.Test.YtonemhaagbojeaaG30
import Derived.Test.YtonemhaagbojeaaI
import Derived.Test.YtonemhaagbojeaaP30
import Derived.Test.YtonemhaagbojeaaRows
namespace Go.Proofs.Ytonemhaagbojeaa
open Am Go.RowKit
open Cel (cells)
set_option maxRecDepth 100000
theorem fnStates_lifted (os : Os) (started : os.Started) (H : Type) (enc : TypeId × Value → H) :
    ReturnsInHanded {} Try.checked os 3 .any (Rows.fnStatesSpec.pre6 enc Try.prog Try.f3 Rows.fnStatesRow.domain false) (Rows.fnStatesSpec.post enc Try.prog Try.f3 false true false false) := by
  refine lifted (C := Try.checked) (T := TryT) (tb := 4) TryT_ok Try.own Try.laidOut started (by kernel_rfl) Try.func3 rfl ?_ rfl (by kernel_rfl) (by kernel_rfl) (by kernel_rfl)
    (ChangeSpec.witness6 (enc := enc) (C := Try.checked) false ⟨#[], #[.slice none 0 0], []⟩ 8 (by kernel_rfl) (by kernel_rfl) (by kernel_rfl) (by kernel_rfl)) ?_
  · intro ds hd
    match ds, hd with
    | [d0], _ => rfl
  · intro cs hcs
    match cs, hcs with
    | [c0], hcs =>
      replace hcs : ShCs TryT [22] [c0] := hcs
      simp only [ShCs, ShC, TryT_22] at hcs
      obtain ⟨⟨ps0, rfl, t0⟩, _⟩ := hcs
      obtain ⟨xss0, ea0, g0, k0⟩ := Sh_slice TryT_22 t0
      obtain ⟨a0, e0, l0, q0⟩ := unflat (fun x hx => inv_u8 hx) xss0 k0
      rw [e0, l0] at ea0
      cases ea0
      rw [l0] at g0
      exact f3_ok a0 g0

theorem fnStates_named : Try.prog.funcNamed Rows.fnStatesRow.func = some 3 := by kernel_rfl
theorem fnStates_inPlace : (Rows.fnStatesRow.inPlace == Try.prog.inPlace 3) = true := by kernel_rfl
theorem fnStates_unfollowed : (Rows.fnStatesRow.unfollowed == Try.prog.unfollowed 3) = true := by kernel_rfl
theorem fnStates_recurses : (Rows.fnStatesRow.recurses == Try.prog.recurses 3) = true := by kernel_rfl
theorem fnStates_vars : (Rows.fnStatesRow.named == Try.prog.varsNamed 3) = true := by kernel_rfl
theorem fnStates_facts : joinedFacts Try.prog 3 Try.f3 Rows.fnStatesSpec Rows.fnStatesRow = true :=
  joined_of (by as_aux_lemma => kernel_rfl) Try.laidOut Try.mapsRowed (by as_aux_lemma => kernel_rfl) (by as_aux_lemma => kernel_rfl) rfl Try.noStops rfl Try.noStopKnobs fnStates_inPlace fnStates_unfollowed fnStates_recurses fnStates_vars
    (by as_aux_lemma => kernel_rfl) (by as_aux_lemma => kernel_rfl) (by as_aux_lemma => kernel_rfl) (by as_aux_lemma => kernel_rfl) (by as_aux_lemma => kernel_rfl) rfl (by as_aux_lemma => kernel_rfl) (by as_aux_lemma => kernel_rfl) (by as_aux_lemma => kernel_rfl)
    Try.keys rfl Try.heard Try.entered Try.lifts Try.made (by as_aux_lemma => kernel_rfl) rfl (by as_aux_lemma => kernel_rfl) (by as_aux_lemma => kernel_rfl)
theorem fnStates_holds : Rows.FnStatesSaid :=
  OpenClaim.holds_of_wide 3 Try.f3 rfl rfl rfl rfl rfl rfl rfl ⟨rfl, rfl, rfl, rfl, rfl⟩ rfl rfl rfl rfl rfl fnStates_named Try.func3 fnStates_facts
    (of_decide_eq_true (by kernel_rfl)) (by unfold Func.isWrapper; first | (rw [if_pos (by decide +kernel)]; kernel_rfl) | (rw [if_neg (by decide +kernel)]; exact ⟨rfl, rfl⟩))
    (fun os started H enc _ => fnStates_lifted os started H enc)
end Go.Proofs.Ytonemhaagbojeaa
