/- The law FnOrders returns true, whatever it is handed, and leaves it as it is. No condition. -/
import Derived.Test.YtonemhaagbojeaaG30
import Derived.Test.YtonemhaagbojeaaI
import Derived.Test.YtonemhaagbojeaaP32
import Derived.Test.YtonemhaagbojeaaRows
namespace Go.Proofs.Ytonemhaagbojeaa
open Am Go.RowKit
open Cel (cells)
set_option maxRecDepth 100000
theorem fnOrders_lifted (os : Os) (started : os.Started) (H : Type) (enc : TypeId × Value → H) :
    ReturnsInHanded {} Try.checked os 5 .any (Rows.fnOrdersSpec.pre6 enc Try.prog Try.f5 Rows.fnOrdersRow.domain false) (Rows.fnOrdersSpec.post enc Try.prog Try.f5 false true false false) := by
  refine lifted (C := Try.checked) (T := TryT) (tb := 4) TryT_ok Try.own Try.laidOut started (by kernel_rfl) Try.func5 rfl ?_ rfl (by kernel_rfl) (by kernel_rfl) (by kernel_rfl)
    (ChangeSpec.witness6 (enc := enc) (C := Try.checked) false ⟨#[], #[.slice none 0 0], []⟩ 8 (by kernel_rfl) (by kernel_rfl) (by kernel_rfl) (by kernel_rfl)) ?_
  · intro ds hd
    match ds, hd with
    | [d0], _ => rfl
  · intro cs hcs
    match cs, hcs with
    | [c0], hcs =>
      replace hcs : ShCs TryT [22] [c0] := hcs
      simp only [ShCs, ShC, TryT_22] at hcs
      obtain ⟨⟨ps0, rfl, t0⟩, _⟩ := hcs
      obtain ⟨xss0, ea0, g0, k0⟩ := Sh_slice TryT_22 t0
      obtain ⟨a0, e0, l0, q0⟩ := unflat (fun x hx => inv_u8 hx) xss0 k0
      rw [e0, l0] at ea0
      cases ea0
      rw [l0] at g0
      exact f5_ok a0 g0

theorem fnOrders_named : Try.prog.funcNamed Rows.fnOrdersRow.func = some 5 := by kernel_rfl
theorem fnOrders_inPlace : (Rows.fnOrdersRow.inPlace == Try.prog.inPlace 5) = true := by kernel_rfl
theorem fnOrders_unfollowed : (Rows.fnOrdersRow.unfollowed == Try.prog.unfollowed 5) = true := by kernel_rfl
theorem fnOrders_recurses : (Rows.fnOrdersRow.recurses == Try.prog.recurses 5) = true := by kernel_rfl
theorem fnOrders_vars : (Rows.fnOrdersRow.named == Try.prog.varsNamed 5) = true := by kernel_rfl
theorem fnOrders_facts : joinedFacts Try.prog 5 Try.f5 Rows.fnOrdersSpec Rows.fnOrdersRow = true :=
  joined_of (by as_aux_lemma => kernel_rfl) Try.laidOut Try.mapsRowed (by as_aux_lemma => kernel_rfl) (by as_aux_lemma => kernel_rfl) rfl Try.noStops rfl Try.noStopKnobs fnOrders_inPlace fnOrders_unfollowed fnOrders_recurses fnOrders_vars
    (by as_aux_lemma => kernel_rfl) (by as_aux_lemma => kernel_rfl) (by as_aux_lemma => kernel_rfl) (by as_aux_lemma => kernel_rfl) (by as_aux_lemma => kernel_rfl) rfl (by as_aux_lemma => kernel_rfl) (by as_aux_lemma => kernel_rfl) (by as_aux_lemma => kernel_rfl)
    Try.keys rfl Try.heard Try.entered Try.lifts Try.made (by as_aux_lemma => kernel_rfl) rfl (by as_aux_lemma => kernel_rfl) (by as_aux_lemma => kernel_rfl)
theorem fnOrders_holds : Rows.FnOrdersSaid :=
  OpenClaim.holds_of_wide 5 Try.f5 rfl rfl rfl rfl rfl rfl rfl ⟨rfl, rfl, rfl, rfl, rfl⟩ rfl rfl rfl rfl rfl fnOrders_named Try.func5 fnOrders_facts
    (of_decide_eq_true (by kernel_rfl)) (by unfold Func.isWrapper; first | (rw [if_pos (by decide +kernel)]; kernel_rfl) | (rw [if_neg (by decide +kernel)]; exact ⟨rfl, rfl⟩))
    (fun os started H enc _ => fnOrders_lifted os started H enc)
end Go.Proofs.Ytonemhaagbojeaa
