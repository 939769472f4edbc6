/- The law FnExactPlaceIn returns true, whatever it is handed, and leaves it as it is. No condition. -/
import Derived.Test.YtkkaogfjlbigmaaG20
import Derived.Test.YtkkaogfjlbigmaaI
import Derived.Test.YtkkaogfjlbigmaaP20
import Derived.Test.YtkkaogfjlbigmaaRows
namespace Go.Proofs.Ytkkaogfjlbigmaa
open Am Go.RowKit
open Cel (cells)
set_option maxRecDepth 100000
theorem fnExactPlaceIn_lifted (os : Os) (started : os.Started) (H : Type) (enc : TypeId × Value → H) :
    ReturnsInHanded {} Try.checked os 3 .any (Rows.fnExactPlaceInSpec.pre6 enc Try.prog Try.f3 Rows.fnExactPlaceInRow.domain false) (Rows.fnExactPlaceInSpec.post enc Try.prog Try.f3 false true false false) := by
  refine lifted (C := Try.checked) (T := TryT) (tb := 4) TryT_ok Try.own Try.laidOut started (by kernel_rfl) Try.func3 rfl ?_ rfl (by kernel_rfl) (by kernel_rfl) (by kernel_rfl)
    (ChangeSpec.witness6 (enc := enc) (C := Try.checked) false ⟨#[], #[.agg #[.slice none 0 0, .slice none 0 0, .slice none 0 0, .slice none 0 0], .string ⟨#[]⟩, .int .i64 0], []⟩ 8 (by kernel_rfl) (by kernel_rfl) (by kernel_rfl) (by kernel_rfl)) ?_
  · intro ds hd
    match ds, hd with
    | [d0, d1, d2], _ => rfl
  · intro cs hcs
    match cs, hcs with
    | [c0, c1, c2], hcs =>
      replace hcs : ShCs TryT [27, 9, 3] [c0, c1, c2] := hcs
      simp only [ShCs, ShC, TryT_27, TryT_3, TryT_9] at hcs
      obtain ⟨⟨ps0, rfl, t0⟩, ⟨ps1, rfl, t1⟩, ⟨ps2, rfl, t2⟩, _⟩ := hcs
      obtain ⟨a0, rfl, g0⟩ := inv_27 t0
      obtain ⟨a1, ea1, g1⟩ := Sh_str TryT_9 t1
      cases ea1
      obtain ⟨a2, ea2, g2, g'2⟩ := Sh_int TryT_3 t2
      cases ea2
      exact f3_ok a0 a1 a2 g0 g1 g2 g'2

theorem fnExactPlaceIn_named : Try.prog.funcNamed Rows.fnExactPlaceInRow.func = some 3 := by kernel_rfl
theorem fnExactPlaceIn_inPlace : (Rows.fnExactPlaceInRow.inPlace == Try.prog.inPlace 3) = true := by kernel_rfl
theorem fnExactPlaceIn_unfollowed : (Rows.fnExactPlaceInRow.unfollowed == Try.prog.unfollowed 3) = true := by kernel_rfl
theorem fnExactPlaceIn_recurses : (Rows.fnExactPlaceInRow.recurses == Try.prog.recurses 3) = true := by kernel_rfl
theorem fnExactPlaceIn_vars : (Rows.fnExactPlaceInRow.named == Try.prog.varsNamed 3) = true := by kernel_rfl
theorem fnExactPlaceIn_facts : joinedFacts Try.prog 3 Try.f3 Rows.fnExactPlaceInSpec Rows.fnExactPlaceInRow = true :=
  joined_of (by as_aux_lemma => kernel_rfl) Try.laidOut Try.mapsRowed (by as_aux_lemma => kernel_rfl) (by as_aux_lemma => kernel_rfl) rfl Try.noStops rfl Try.noStopKnobs fnExactPlaceIn_inPlace fnExactPlaceIn_unfollowed fnExactPlaceIn_recurses fnExactPlaceIn_vars
    (by as_aux_lemma => kernel_rfl) (by as_aux_lemma => kernel_rfl) (by as_aux_lemma => kernel_rfl) (by as_aux_lemma => kernel_rfl) (by as_aux_lemma => kernel_rfl) rfl (by as_aux_lemma => kernel_rfl) (by as_aux_lemma => kernel_rfl) (by as_aux_lemma => kernel_rfl)
    Try.keys rfl Try.heard Try.entered Try.lifts Try.made (by as_aux_lemma => kernel_rfl) rfl (by as_aux_lemma => kernel_rfl) (by as_aux_lemma => kernel_rfl)
theorem fnExactPlaceIn_holds : Rows.FnExactPlaceInSaid :=
  OpenClaim.holds_of_wide 3 Try.f3 rfl rfl rfl rfl rfl rfl rfl ⟨rfl, rfl, rfl, rfl, rfl⟩ rfl rfl rfl rfl rfl fnExactPlaceIn_named Try.func3 fnExactPlaceIn_facts
    (of_decide_eq_true (by kernel_rfl)) (by unfold Func.isWrapper; first | (rw [if_pos (by decide +kernel)]; kernel_rfl) | (rw [if_neg (by decide +kernel)]; exact ⟨rfl, rfl⟩))
    (fun os started H enc _ => fnExactPlaceIn_lifted os started H enc)
end Go.Proofs.Ytkkaogfjlbigmaa
