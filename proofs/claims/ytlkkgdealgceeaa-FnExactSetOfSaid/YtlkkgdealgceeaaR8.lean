/- The law FnExactSetOf returns true, whatever it is handed, and leaves it as it is. No condition. -/
import Derived.Test.YtlkkgdealgceeaaG7
import Derived.Test.YtlkkgdealgceeaaI
import Derived.Test.YtlkkgdealgceeaaP
import Derived.Test.YtlkkgdealgceeaaRows
namespace Go.Proofs.Ytlkkgdealgceeaa
open Am Go.RowKit
open Cel (cells)
set_option maxRecDepth 100000
theorem fnExactSetOf_lifted (os : Os) (started : os.Started) (H : Type) (enc : TypeId × Value → H) :
    ReturnsInHanded {} Try.checked os 8 .any (Rows.fnExactSetOfSpec.pre6 enc Try.prog Try.f8 Rows.fnExactSetOfRow.domain false) (Rows.fnExactSetOfSpec.post enc Try.prog Try.f8 false true false false) := by
  refine lifted (C := Try.checked) (T := TryT) (tb := 4) TryT_ok Try.own Try.laidOut started (by kernel_rfl) Try.func8 rfl ?_ rfl (by kernel_rfl) (by kernel_rfl) (by kernel_rfl)
    (ChangeSpec.witness6 (enc := enc) (C := Try.checked) false ⟨#[], #[.agg #[.slice none 0 0, .slice none 0 0, .slice none 0 0, .slice none 0 0], .string ⟨#[]⟩], []⟩ 8 (by kernel_rfl) (by kernel_rfl) (by kernel_rfl) (by kernel_rfl)) ?_
  · intro ds hd
    match ds, hd with
    | [d0, d1], _ => rfl
  · intro cs hcs
    match cs, hcs with
    | [c0, c1], hcs =>
      replace hcs : ShCs TryT [50, 9] [c0, c1] := hcs
      simp only [ShCs, ShC, TryT_50, TryT_9] at hcs
      obtain ⟨⟨ps0, rfl, t0⟩, ⟨ps1, rfl, t1⟩, _⟩ := hcs
      obtain ⟨a0, rfl, g0⟩ := inv_50 t0
      obtain ⟨a1, ea1, g1⟩ := Sh_str TryT_9 t1
      cases ea1
      exact f8_ok a0 a1 g0 g1

theorem fnExactSetOf_named : Try.prog.funcNamed Rows.fnExactSetOfRow.func = some 8 := by kernel_rfl
theorem fnExactSetOf_inPlace : (Rows.fnExactSetOfRow.inPlace == Try.prog.inPlace 8) = true := by kernel_rfl
theorem fnExactSetOf_unfollowed : (Rows.fnExactSetOfRow.unfollowed == Try.prog.unfollowed 8) = true := by kernel_rfl
theorem fnExactSetOf_recurses : (Rows.fnExactSetOfRow.recurses == Try.prog.recurses 8) = true := by kernel_rfl
theorem fnExactSetOf_vars : (Rows.fnExactSetOfRow.named == Try.prog.varsNamed 8) = true := by kernel_rfl
theorem fnExactSetOf_facts : joinedFacts Try.prog 8 Try.f8 Rows.fnExactSetOfSpec Rows.fnExactSetOfRow = true :=
  joined_of (by as_aux_lemma => kernel_rfl) Try.laidOut Try.mapsRowed (by as_aux_lemma => kernel_rfl) (by as_aux_lemma => kernel_rfl) rfl Try.noStops rfl Try.noStopKnobs fnExactSetOf_inPlace fnExactSetOf_unfollowed fnExactSetOf_recurses fnExactSetOf_vars
    (by as_aux_lemma => kernel_rfl) (by as_aux_lemma => kernel_rfl) (by as_aux_lemma => kernel_rfl) (by as_aux_lemma => kernel_rfl) (by as_aux_lemma => kernel_rfl) rfl (by as_aux_lemma => kernel_rfl) (by as_aux_lemma => kernel_rfl) (by as_aux_lemma => kernel_rfl)
    Try.keys rfl Try.heard Try.entered Try.lifts Try.made (by as_aux_lemma => kernel_rfl) rfl (by as_aux_lemma => kernel_rfl) (by as_aux_lemma => kernel_rfl)
theorem fnExactSetOf_holds : Rows.FnExactSetOfSaid :=
  OpenClaim.holds_of_wide 8 Try.f8 rfl rfl rfl rfl rfl rfl rfl ⟨rfl, rfl, rfl, rfl, rfl⟩ rfl rfl rfl rfl rfl fnExactSetOf_named Try.func8 fnExactSetOf_facts
    (of_decide_eq_true (by kernel_rfl)) (by unfold Func.isWrapper; first | (rw [if_pos (by decide +kernel)]; kernel_rfl) | (rw [if_neg (by decide +kernel)]; exact ⟨rfl, rfl⟩))
    (fun os started H enc _ => fnExactSetOf_lifted os started H enc)
end Go.Proofs.Ytlkkgdealgceeaa
