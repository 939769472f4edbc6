/- The law FnDeltas returns true, whatever it is handed, and leaves it as it is. No condition. -/
import Derived.Test.YtmedpldnoehoiaaGreatG34
import Derived.Test.YtmedpldnoehoiaaGreatI
import Derived.Test.YtmedpldnoehoiaaGreatP34
import Derived.Test.YtmedpldnoehoiaaGreatRows
namespace Go.Proofs.YtmedpldnoehoiaaGreat
open Am Go.RowKit
open Cel (cells)
set_option maxRecDepth 100000
theorem fnDeltas_lifted (os : Os) (started : os.Started) (H : Type) (enc : TypeId × Value → H) :
    ReturnsInHanded {} Tryz.checked os 5 .any (Rows.fnDeltasSpec.pre6 enc Tryz.prog Tryz.f5 Rows.fnDeltasRow.domain false) (Rows.fnDeltasSpec.post enc Tryz.prog Tryz.f5 false true false false) := by
  refine lifted (C := Tryz.checked) (T := TryzT) (tb := 4) TryzT_ok Tryz.own Tryz.laidOut started (by kernel_rfl) Tryz.func5 rfl ?_ rfl (by kernel_rfl) (by kernel_rfl) (by kernel_rfl)
    (ChangeSpec.witness6 (enc := enc) (C := Tryz.checked) false ⟨#[], #[.slice none 0 0], []⟩ 8 (by kernel_rfl) (by kernel_rfl) (by kernel_rfl) (by kernel_rfl)) ?_
  · intro ds hd
    match ds, hd with
    | [d0], _ => rfl
  · intro cs hcs
    match cs, hcs with
    | [c0], hcs =>
      replace hcs : ShCs TryzT [22] [c0] := hcs
      simp only [ShCs, ShC, TryzT_22] at hcs
      obtain ⟨⟨ps0, rfl, t0⟩, _⟩ := hcs
      obtain ⟨xss0, ea0, g0, k0⟩ := Sh_slice TryzT_22 t0
      obtain ⟨a0, e0, l0, q0⟩ := unflat (fun x hx => inv_u8 hx) xss0 k0
      rw [e0, l0] at ea0
      cases ea0
      rw [l0] at g0
      exact f5_ok a0 g0

theorem fnDeltas_named : Tryz.prog.funcNamed Rows.fnDeltasRow.func = some 5 := by kernel_rfl
theorem fnDeltas_inPlace : (Rows.fnDeltasRow.inPlace == Tryz.prog.inPlace 5) = true := by kernel_rfl
theorem fnDeltas_unfollowed : (Rows.fnDeltasRow.unfollowed == Tryz.prog.unfollowed 5) = true := by kernel_rfl
theorem fnDeltas_recurses : (Rows.fnDeltasRow.recurses == Tryz.prog.recurses 5) = true := by kernel_rfl
theorem fnDeltas_vars : (Rows.fnDeltasRow.named == Tryz.prog.varsNamed 5) = true := by kernel_rfl
theorem fnDeltas_facts : joinedFacts Tryz.prog 5 Tryz.f5 Rows.fnDeltasSpec Rows.fnDeltasRow = true :=
  joined_of (by as_aux_lemma => kernel_rfl) Tryz.laidOut Tryz.mapsRowed (by as_aux_lemma => kernel_rfl) (by as_aux_lemma => kernel_rfl) rfl Tryz.noStops rfl Tryz.noStopKnobs fnDeltas_inPlace fnDeltas_unfollowed fnDeltas_recurses fnDeltas_vars
    (by as_aux_lemma => kernel_rfl) (by as_aux_lemma => kernel_rfl) (by as_aux_lemma => kernel_rfl) (by as_aux_lemma => kernel_rfl) (by as_aux_lemma => kernel_rfl) rfl (by as_aux_lemma => kernel_rfl) (by as_aux_lemma => kernel_rfl) (by as_aux_lemma => kernel_rfl)
    Tryz.keys rfl Tryz.heard Tryz.entered Tryz.lifts Tryz.made (by as_aux_lemma => kernel_rfl) rfl (by as_aux_lemma => kernel_rfl) (by as_aux_lemma => kernel_rfl)
theorem fnDeltas_holds : Rows.FnDeltasSaid :=
  OpenClaim.holds_of_wide 5 Tryz.f5 rfl rfl rfl rfl rfl rfl rfl ⟨rfl, rfl, rfl, rfl, rfl⟩ rfl rfl rfl rfl rfl fnDeltas_named Tryz.func5 fnDeltas_facts
    (of_decide_eq_true (by kernel_rfl)) (by unfold Func.isWrapper; first | (rw [if_pos (by decide +kernel)]; kernel_rfl) | (rw [if_neg (by decide +kernel)]; exact ⟨rfl, rfl⟩))
    (fun os started H enc _ => fnDeltas_lifted os started H enc)
end Go.Proofs.YtmedpldnoehoiaaGreat
