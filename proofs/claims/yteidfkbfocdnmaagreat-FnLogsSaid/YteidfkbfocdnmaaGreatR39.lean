/- The law FnLogs returns true, whatever it is handed, and leaves it as it is. No condition. -/
import Derived.Test.YteidfkbfocdnmaaGreatG39
import Derived.Test.YteidfkbfocdnmaaGreatI
import Derived.Test.YteidfkbfocdnmaaGreatP39
import Derived.Test.YteidfkbfocdnmaaGreatRows
namespace Go.Proofs.YteidfkbfocdnmaaGreat
open Am Go.RowKit
open Cel (cells)
set_option maxRecDepth 100000
theorem fnLogs_lifted (os : Os) (started : os.Started) (H : Type) (enc : TypeId × Value → H) :
    ReturnsInHanded {} Tryz.checked os 9 .any (Rows.fnLogsSpec.pre6 enc Tryz.prog Tryz.f9 Rows.fnLogsRow.domain false) (Rows.fnLogsSpec.post enc Tryz.prog Tryz.f9 false true false false) := by
  refine lifted (C := Tryz.checked) (T := TryzT) (tb := 4) TryzT_ok Tryz.own Tryz.laidOut started (by kernel_rfl) Tryz.func9 rfl ?_ rfl (by kernel_rfl) (by kernel_rfl) (by kernel_rfl)
    (ChangeSpec.witness6 (enc := enc) (C := Tryz.checked) false ⟨#[], #[.slice none 0 0], []⟩ 8 (by kernel_rfl) (by kernel_rfl) (by kernel_rfl) (by kernel_rfl)) ?_
  · intro ds hd
    match ds, hd with
    | [d0], _ => rfl
  · intro cs hcs
    match cs, hcs with
    | [c0], hcs =>
      replace hcs : ShCs TryzT [22] [c0] := hcs
      simp only [ShCs, ShC, TryzT_22] at hcs
      obtain ⟨⟨ps0, rfl, t0⟩, _⟩ := hcs
      obtain ⟨xss0, ea0, g0, k0⟩ := Sh_slice TryzT_22 t0
      obtain ⟨a0, e0, l0, q0⟩ := unflat (fun x hx => inv_u8 hx) xss0 k0
      rw [e0, l0] at ea0
      cases ea0
      rw [l0] at g0
      exact f9_ok a0 g0

theorem fnLogs_named : Tryz.prog.funcNamed Rows.fnLogsRow.func = some 9 := by kernel_rfl
theorem fnLogs_inPlace : (Rows.fnLogsRow.inPlace == Tryz.prog.inPlace 9) = true := by kernel_rfl
theorem fnLogs_unfollowed : (Rows.fnLogsRow.unfollowed == Tryz.prog.unfollowed 9) = true := by kernel_rfl
theorem fnLogs_recurses : (Rows.fnLogsRow.recurses == Tryz.prog.recurses 9) = true := by kernel_rfl
theorem fnLogs_vars : (Rows.fnLogsRow.named == Tryz.prog.varsNamed 9) = true := by kernel_rfl
theorem fnLogs_facts : joinedFacts Tryz.prog 9 Tryz.f9 Rows.fnLogsSpec Rows.fnLogsRow = true :=
  joined_of (by as_aux_lemma => kernel_rfl) Tryz.laidOut Tryz.mapsRowed (by as_aux_lemma => kernel_rfl) (by as_aux_lemma => kernel_rfl) rfl Tryz.noStops rfl Tryz.noStopKnobs fnLogs_inPlace fnLogs_unfollowed fnLogs_recurses fnLogs_vars
    (by as_aux_lemma => kernel_rfl) (by as_aux_lemma => kernel_rfl) (by as_aux_lemma => kernel_rfl) (by as_aux_lemma => kernel_rfl) (by as_aux_lemma => kernel_rfl) rfl (by as_aux_lemma => kernel_rfl) (by as_aux_lemma => kernel_rfl) (by as_aux_lemma => kernel_rfl)
    Tryz.keys rfl Tryz.heard Tryz.entered Tryz.lifts Tryz.made (by as_aux_lemma => kernel_rfl) rfl (by as_aux_lemma => kernel_rfl) (by as_aux_lemma => kernel_rfl)
theorem fnLogs_holds : Rows.FnLogsSaid :=
  OpenClaim.holds_of_wide 9 Tryz.f9 rfl rfl rfl rfl rfl rfl rfl ⟨rfl, rfl, rfl, rfl, rfl⟩ rfl rfl rfl rfl rfl fnLogs_named Tryz.func9 fnLogs_facts
    (of_decide_eq_true (by kernel_rfl)) (by unfold Func.isWrapper; first | (rw [if_pos (by decide +kernel)]; kernel_rfl) | (rw [if_neg (by decide +kernel)]; exact ⟨rfl, rfl⟩))
    (fun os started H enc _ => fnLogs_lifted os started H enc)
end Go.Proofs.YteidfkbfocdnmaaGreat
