/- The law FnExactAtId returns true, whatever it is handed, and leaves it as it is. No condition. -/
import Derived.Test.YtkjakhalkbiikaaG2
import Derived.Test.YtkjakhalkbiikaaI
import Derived.Test.YtkjakhalkbiikaaP
import Derived.Test.YtkjakhalkbiikaaRows
namespace Go.Proofs.Ytkjakhalkbiikaa
open Am Go.RowKit
open Cel (cells)
set_option maxRecDepth 100000
theorem fnExactAtId_lifted (os : Os) (started : os.Started) (H : Type) (enc : TypeId × Value → H) :
    ReturnsInHanded {} Try.checked os 4 .any (Rows.fnExactAtIdSpec.pre6 enc Try.prog Try.f4 Rows.fnExactAtIdRow.domain false) (Rows.fnExactAtIdSpec.post enc Try.prog Try.f4 false true false false) := by
  refine lifted (C := Try.checked) (T := TryT) (tb := 4) TryT_ok Try.own Try.laidOut started (by kernel_rfl) Try.func4 rfl ?_ rfl (by kernel_rfl) (by kernel_rfl) (by kernel_rfl)
    (ChangeSpec.witness6 (enc := enc) (C := Try.checked) false ⟨#[], #[.agg #[.slice none 0 0, .int .i64 0], .agg #[.int .i64 0, .int .i64 0]], []⟩ 8 (by kernel_rfl) (by kernel_rfl) (by kernel_rfl) (by kernel_rfl)) ?_
  · intro ds hd
    match ds, hd with
    | [d0, d1], _ => rfl
  · intro cs hcs
    match cs, hcs with
    | [c0, c1], hcs =>
      replace hcs : ShCs TryT [31, 33] [c0, c1] := hcs
      simp only [ShCs, ShC, TryT_31, TryT_33] at hcs
      obtain ⟨⟨ps0, rfl, t0⟩, ⟨ps1, rfl, t1⟩, _⟩ := hcs
      obtain ⟨a0, rfl, g0⟩ := inv_31 t0
      obtain ⟨a1, rfl, g1⟩ := inv_33 t1
      exact f4_ok a0 a1 g0

theorem fnExactAtId_named : Try.prog.funcNamed Rows.fnExactAtIdRow.func = some 4 := by kernel_rfl
theorem fnExactAtId_inPlace : (Rows.fnExactAtIdRow.inPlace == Try.prog.inPlace 4) = true := by kernel_rfl
theorem fnExactAtId_unfollowed : (Rows.fnExactAtIdRow.unfollowed == Try.prog.unfollowed 4) = true := by kernel_rfl
theorem fnExactAtId_recurses : (Rows.fnExactAtIdRow.recurses == Try.prog.recurses 4) = true := by kernel_rfl
theorem fnExactAtId_vars : (Rows.fnExactAtIdRow.named == Try.prog.varsNamed 4) = true := by kernel_rfl
theorem fnExactAtId_facts : joinedFacts Try.prog 4 Try.f4 Rows.fnExactAtIdSpec Rows.fnExactAtIdRow = true :=
  joined_of (by as_aux_lemma => kernel_rfl) Try.laidOut Try.mapsRowed (by as_aux_lemma => kernel_rfl) (by as_aux_lemma => kernel_rfl) rfl Try.noStops rfl Try.noStopKnobs fnExactAtId_inPlace fnExactAtId_unfollowed fnExactAtId_recurses fnExactAtId_vars
    (by as_aux_lemma => kernel_rfl) (by as_aux_lemma => kernel_rfl) (by as_aux_lemma => kernel_rfl) (by as_aux_lemma => kernel_rfl) (by as_aux_lemma => kernel_rfl) rfl (by as_aux_lemma => kernel_rfl) (by as_aux_lemma => kernel_rfl) (by as_aux_lemma => kernel_rfl)
    Try.keys rfl Try.heard Try.entered Try.lifts Try.made (by as_aux_lemma => kernel_rfl) rfl (by as_aux_lemma => kernel_rfl) (by as_aux_lemma => kernel_rfl)
theorem fnExactAtId_holds : Rows.FnExactAtIdSaid :=
  OpenClaim.holds_of_wide 4 Try.f4 rfl rfl rfl rfl rfl rfl rfl ⟨rfl, rfl, rfl, rfl, rfl⟩ rfl rfl rfl rfl rfl fnExactAtId_named Try.func4 fnExactAtId_facts
    (of_decide_eq_true (by kernel_rfl)) (by unfold Func.isWrapper; first | (rw [if_pos (by decide +kernel)]; kernel_rfl) | (rw [if_neg (by decide +kernel)]; exact ⟨rfl, rfl⟩))
    (fun os started H enc _ => fnExactAtId_lifted os started H enc)
end Go.Proofs.Ytkjakhalkbiikaa
