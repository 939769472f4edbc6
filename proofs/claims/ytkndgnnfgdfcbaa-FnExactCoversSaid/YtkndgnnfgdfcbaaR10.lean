/- The law FnExactCovers returns true, whatever it is handed, and leaves it as it is. No condition. -/
import Derived.Test.YtkndgnnfgdfcbaaG10
import Derived.Test.YtkndgnnfgdfcbaaI
import Derived.Test.YtkndgnnfgdfcbaaP
import Derived.Test.YtkndgnnfgdfcbaaRows
namespace Go.Proofs.Ytkndgnnfgdfcbaa
open Am Go.RowKit
open Cel (cells)
set_option maxRecDepth 100000
theorem fnExactCovers_lifted (os : Os) (started : os.Started) (H : Type) (enc : TypeId × Value → H) :
    ReturnsInHanded {} Try.checked os 3 .any (Rows.fnExactCoversSpec.pre6 enc Try.prog Try.f3 Rows.fnExactCoversRow.domain false) (Rows.fnExactCoversSpec.post enc Try.prog Try.f3 false true false false) := by
  refine lifted (C := Try.checked) (T := TryT) (tb := 4) TryT_ok Try.own Try.laidOut started (by kernel_rfl) Try.func3 rfl ?_ rfl (by kernel_rfl) (by kernel_rfl) (by kernel_rfl)
    (ChangeSpec.witness6 (enc := enc) (C := Try.checked) false ⟨#[], #[.agg #[.bool false, .int .i64 0, .int .i64 0, .int .i64 0, .slice none 0 0, .int .i64 0, .string ⟨#[]⟩, .string ⟨#[]⟩, .int .i64 0, .int .i64 0, .int .i64 0, .slice none 0 0, .slice none 0 0, .slice none 0 0, .slice none 0 0, .slice none 0 0, .slice none 0 0]], []⟩ 8 (by kernel_rfl) (by kernel_rfl) (by kernel_rfl) (by kernel_rfl)) ?_
  · intro ds hd
    match ds, hd with
    | [d0], _ => rfl
  · intro cs hcs
    match cs, hcs with
    | [c0], hcs =>
      replace hcs : ShCs TryT [34] [c0] := hcs
      simp only [ShCs, ShC, TryT_34] at hcs
      obtain ⟨⟨ps0, rfl, t0⟩, _⟩ := hcs
      obtain ⟨a0, rfl, g0⟩ := inv_34 t0
      exact f3_ok a0 g0

theorem fnExactCovers_named : Try.prog.funcNamed Rows.fnExactCoversRow.func = some 3 := by kernel_rfl
theorem fnExactCovers_inPlace : (Rows.fnExactCoversRow.inPlace == Try.prog.inPlace 3) = true := by kernel_rfl
theorem fnExactCovers_unfollowed : (Rows.fnExactCoversRow.unfollowed == Try.prog.unfollowed 3) = true := by kernel_rfl
theorem fnExactCovers_recurses : (Rows.fnExactCoversRow.recurses == Try.prog.recurses 3) = true := by kernel_rfl
theorem fnExactCovers_vars : (Rows.fnExactCoversRow.named == Try.prog.varsNamed 3) = true := by kernel_rfl
theorem fnExactCovers_facts : joinedFacts Try.prog 3 Try.f3 Rows.fnExactCoversSpec Rows.fnExactCoversRow = true :=
  joined_of (by as_aux_lemma => kernel_rfl) Try.laidOut Try.mapsRowed (by as_aux_lemma => kernel_rfl) (by as_aux_lemma => kernel_rfl) rfl Try.noStops rfl Try.noStopKnobs fnExactCovers_inPlace fnExactCovers_unfollowed fnExactCovers_recurses fnExactCovers_vars
    (by as_aux_lemma => kernel_rfl) (by as_aux_lemma => kernel_rfl) (by as_aux_lemma => kernel_rfl) (by as_aux_lemma => kernel_rfl) (by as_aux_lemma => kernel_rfl) rfl (by as_aux_lemma => kernel_rfl) (by as_aux_lemma => kernel_rfl) (by as_aux_lemma => kernel_rfl)
    Try.keys rfl Try.heard Try.entered Try.lifts Try.made (by as_aux_lemma => kernel_rfl) rfl (by as_aux_lemma => kernel_rfl) (by as_aux_lemma => kernel_rfl)
theorem fnExactCovers_holds : Rows.FnExactCoversSaid :=
  OpenClaim.holds_of_wide 3 Try.f3 rfl rfl rfl rfl rfl rfl rfl ⟨rfl, rfl, rfl, rfl, rfl⟩ rfl rfl rfl rfl rfl fnExactCovers_named Try.func3 fnExactCovers_facts
    (of_decide_eq_true (by kernel_rfl)) (by unfold Func.isWrapper; first | (rw [if_pos (by decide +kernel)]; kernel_rfl) | (rw [if_neg (by decide +kernel)]; exact ⟨rfl, rfl⟩))
    (fun os started H enc _ => fnExactCovers_lifted os started H enc)
end Go.Proofs.Ytkndgnnfgdfcbaa
