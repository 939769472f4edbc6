/- The law FnExactRowOf returns true, whatever it is handed, and leaves it as it is. No condition. -/
import Derived.Test.YtkkaogfjlbigmaaG22
import Derived.Test.YtkkaogfjlbigmaaI
import Derived.Test.YtkkaogfjlbigmaaP22
import Derived.Test.YtkkaogfjlbigmaaRows
namespace Go.Proofs.Ytkkaogfjlbigmaa
open Am Go.RowKit
open Cel (cells)
set_option maxRecDepth 100000
theorem fnExactRowOf_lifted (os : Os) (started : os.Started) (H : Type) (enc : TypeId × Value → H) :
    ReturnsInHanded {} Try.checked os 5 .any (Rows.fnExactRowOfSpec.pre6 enc Try.prog Try.f5 Rows.fnExactRowOfRow.domain false) (Rows.fnExactRowOfSpec.post enc Try.prog Try.f5 false true false false) := by
  refine lifted (C := Try.checked) (T := TryT) (tb := 4) TryT_ok Try.own Try.laidOut started (by kernel_rfl) Try.func5 rfl ?_ rfl (by kernel_rfl) (by kernel_rfl) (by kernel_rfl)
    (ChangeSpec.witness6 (enc := enc) (C := Try.checked) false ⟨#[], #[.agg #[.slice none 0 0, .slice none 0 0, .slice none 0 0, .slice none 0 0], .string ⟨#[]⟩], []⟩ 8 (by kernel_rfl) (by kernel_rfl) (by kernel_rfl) (by kernel_rfl)) ?_
  · intro ds hd
    match ds, hd with
    | [d0, d1], _ => rfl
  · intro cs hcs
    match cs, hcs with
    | [c0, c1], hcs =>
      replace hcs : ShCs TryT [27, 9] [c0, c1] := hcs
      simp only [ShCs, ShC, TryT_27, TryT_9] at hcs
      obtain ⟨⟨ps0, rfl, t0⟩, ⟨ps1, rfl, t1⟩, _⟩ := hcs
      obtain ⟨a0, rfl, g0⟩ := inv_27 t0
      obtain ⟨a1, ea1, g1⟩ := Sh_str TryT_9 t1
      cases ea1
      exact f5_ok a0 a1 g0 g1

theorem fnExactRowOf_named : Try.prog.funcNamed Rows.fnExactRowOfRow.func = some 5 := by kernel_rfl
theorem fnExactRowOf_inPlace : (Rows.fnExactRowOfRow.inPlace == Try.prog.inPlace 5) = true := by kernel_rfl
theorem fnExactRowOf_unfollowed : (Rows.fnExactRowOfRow.unfollowed == Try.prog.unfollowed 5) = true := by kernel_rfl
theorem fnExactRowOf_recurses : (Rows.fnExactRowOfRow.recurses == Try.prog.recurses 5) = true := by kernel_rfl
theorem fnExactRowOf_vars : (Rows.fnExactRowOfRow.named == Try.prog.varsNamed 5) = true := by kernel_rfl
theorem fnExactRowOf_facts : joinedFacts Try.prog 5 Try.f5 Rows.fnExactRowOfSpec Rows.fnExactRowOfRow = true :=
  joined_of (by as_aux_lemma => kernel_rfl) Try.laidOut Try.mapsRowed (by as_aux_lemma => kernel_rfl) (by as_aux_lemma => kernel_rfl) rfl Try.noStops rfl Try.noStopKnobs fnExactRowOf_inPlace fnExactRowOf_unfollowed fnExactRowOf_recurses fnExactRowOf_vars
    (by as_aux_lemma => kernel_rfl) (by as_aux_lemma => kernel_rfl) (by as_aux_lemma => kernel_rfl) (by as_aux_lemma => kernel_rfl) (by as_aux_lemma => kernel_rfl) rfl (by as_aux_lemma => kernel_rfl) (by as_aux_lemma => kernel_rfl) (by as_aux_lemma => kernel_rfl)
    Try.keys rfl Try.heard Try.entered Try.lifts Try.made (by as_aux_lemma => kernel_rfl) rfl (by as_aux_lemma => kernel_rfl) (by as_aux_lemma => kernel_rfl)
theorem fnExactRowOf_holds : Rows.FnExactRowOfSaid :=
  OpenClaim.holds_of_wide 5 Try.f5 rfl rfl rfl rfl rfl rfl rfl ⟨rfl, rfl, rfl, rfl, rfl⟩ rfl rfl rfl rfl rfl fnExactRowOf_named Try.func5 fnExactRowOf_facts
    (of_decide_eq_true (by kernel_rfl)) (by unfold Func.isWrapper; first | (rw [if_pos (by decide +kernel)]; kernel_rfl) | (rw [if_neg (by decide +kernel)]; exact ⟨rfl, rfl⟩))
    (fun os started H enc _ => fnExactRowOf_lifted os started H enc)
end Go.Proofs.Ytkkaogfjlbigmaa
