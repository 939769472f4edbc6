/- The law FnExactKeysOf returns true, whatever it is handed, and leaves it as it is. No condition. -/
import Derived.Test.YtlkkgdealgceeaaG7
import Derived.Test.YtlkkgdealgceeaaI
import Derived.Test.YtlkkgdealgceeaaP
import Derived.Test.YtlkkgdealgceeaaRows
namespace Go.Proofs.Ytlkkgdealgceeaa
open Am Go.RowKit
open Cel (cells)
set_option maxRecDepth 100000
theorem fnExactKeysOf_lifted (os : Os) (started : os.Started) (H : Type) (enc : TypeId × Value → H) :
    ReturnsInHanded {} Try.checked os 7 .any (Rows.fnExactKeysOfSpec.pre6 enc Try.prog Try.f7 Rows.fnExactKeysOfRow.domain false) (Rows.fnExactKeysOfSpec.post enc Try.prog Try.f7 false true false false) := by
  refine lifted (C := Try.checked) (T := TryT) (tb := 4) TryT_ok Try.own Try.laidOut started (by kernel_rfl) Try.func7 rfl ?_ rfl (by kernel_rfl) (by kernel_rfl) (by kernel_rfl)
    (ChangeSpec.witness6 (enc := enc) (C := Try.checked) false ⟨#[], #[.agg #[.slice none 0 0, .slice none 0 0, .slice none 0 0, .slice none 0 0], .string ⟨#[]⟩], []⟩ 8 (by kernel_rfl) (by kernel_rfl) (by kernel_rfl) (by kernel_rfl)) ?_
  · intro ds hd
    match ds, hd with
    | [d0, d1], _ => rfl
  · intro cs hcs
    match cs, hcs with
    | [c0, c1], hcs =>
      replace hcs : ShCs TryT [50, 9] [c0, c1] := hcs
      simp only [ShCs, ShC, TryT_50, TryT_9] at hcs
      obtain ⟨⟨ps0, rfl, t0⟩, ⟨ps1, rfl, t1⟩, _⟩ := hcs
      obtain ⟨a0, rfl, g0⟩ := inv_50 t0
      obtain ⟨a1, ea1, g1⟩ := Sh_str TryT_9 t1
      cases ea1
      exact f7_ok a0 a1 g0 g1

theorem fnExactKeysOf_named : Try.prog.funcNamed Rows.fnExactKeysOfRow.func = some 7 := by kernel_rfl
theorem fnExactKeysOf_inPlace : (Rows.fnExactKeysOfRow.inPlace == Try.prog.inPlace 7) = true := by kernel_rfl
theorem fnExactKeysOf_unfollowed : (Rows.fnExactKeysOfRow.unfollowed == Try.prog.unfollowed 7) = true := by kernel_rfl
theorem fnExactKeysOf_recurses : (Rows.fnExactKeysOfRow.recurses == Try.prog.recurses 7) = true := by kernel_rfl
theorem fnExactKeysOf_vars : (Rows.fnExactKeysOfRow.named == Try.prog.varsNamed 7) = true := by kernel_rfl
theorem fnExactKeysOf_facts : joinedFacts Try.prog 7 Try.f7 Rows.fnExactKeysOfSpec Rows.fnExactKeysOfRow = true :=
  joined_of (by as_aux_lemma => kernel_rfl) Try.laidOut Try.mapsRowed (by as_aux_lemma => kernel_rfl) (by as_aux_lemma => kernel_rfl) rfl Try.noStops rfl Try.noStopKnobs fnExactKeysOf_inPlace fnExactKeysOf_unfollowed fnExactKeysOf_recurses fnExactKeysOf_vars
    (by as_aux_lemma => kernel_rfl) (by as_aux_lemma => kernel_rfl) (by as_aux_lemma => kernel_rfl) (by as_aux_lemma => kernel_rfl) (by as_aux_lemma => kernel_rfl) rfl (by as_aux_lemma => kernel_rfl) (by as_aux_lemma => kernel_rfl) (by as_aux_lemma => kernel_rfl)
    Try.keys rfl Try.heard Try.entered Try.lifts Try.made (by as_aux_lemma => kernel_rfl) rfl (by as_aux_lemma => kernel_rfl) (by as_aux_lemma => kernel_rfl)
theorem fnExactKeysOf_holds : Rows.FnExactKeysOfSaid :=
  OpenClaim.holds_of_wide 7 Try.f7 rfl rfl rfl rfl rfl rfl rfl ⟨rfl, rfl, rfl, rfl, rfl⟩ rfl rfl rfl rfl rfl fnExactKeysOf_named Try.func7 fnExactKeysOf_facts
    (of_decide_eq_true (by kernel_rfl)) (by unfold Func.isWrapper; first | (rw [if_pos (by decide +kernel)]; kernel_rfl) | (rw [if_neg (by decide +kernel)]; exact ⟨rfl, rfl⟩))
    (fun os started H enc _ => fnExactKeysOf_lifted os started H enc)
end Go.Proofs.Ytlkkgdealgceeaa
