/- The law FnExactLogNew returns true, whatever it is handed, and leaves it as it is. No condition. -/
import Derived.Test.YtlkkgdealgceeaaG4
import Derived.Test.YtlkkgdealgceeaaI
import Derived.Test.YtlkkgdealgceeaaP
import Derived.Test.YtlkkgdealgceeaaRows
namespace Go.Proofs.Ytlkkgdealgceeaa
open Am Go.RowKit
open Cel (cells)
set_option maxRecDepth 100000
theorem fnExactLogNew_lifted (os : Os) (started : os.Started) (H : Type) (enc : TypeId × Value → H) :
    ReturnsInHanded {} Try.checked os 4 .any (Rows.fnExactLogNewSpec.pre6 enc Try.prog Try.f4 Rows.fnExactLogNewRow.domain false) (Rows.fnExactLogNewSpec.post enc Try.prog Try.f4 false true false false) := by
  refine lifted (C := Try.checked) (T := TryT) (tb := 4) TryT_ok Try.own Try.laidOut started (by kernel_rfl) Try.func4 rfl ?_ rfl (by kernel_rfl) (by kernel_rfl) (by kernel_rfl)
    (ChangeSpec.witness6 (enc := enc) (C := Try.checked) false ⟨#[], #[.int .i64 0], []⟩ 8 (by kernel_rfl) (by kernel_rfl) (by kernel_rfl) (by kernel_rfl)) ?_
  · intro ds hd
    match ds, hd with
    | [d0], _ => rfl
  · intro cs hcs
    match cs, hcs with
    | [c0], hcs =>
      replace hcs : ShCs TryT [3] [c0] := hcs
      simp only [ShCs, ShC, TryT_3] at hcs
      obtain ⟨⟨ps0, rfl, t0⟩, _⟩ := hcs
      obtain ⟨a0, ea0, g0, g'0⟩ := Sh_int TryT_3 t0
      cases ea0
      exact f4_ok a0 g0 g'0

theorem fnExactLogNew_named : Try.prog.funcNamed Rows.fnExactLogNewRow.func = some 4 := by kernel_rfl
theorem fnExactLogNew_inPlace : (Rows.fnExactLogNewRow.inPlace == Try.prog.inPlace 4) = true := by kernel_rfl
theorem fnExactLogNew_unfollowed : (Rows.fnExactLogNewRow.unfollowed == Try.prog.unfollowed 4) = true := by kernel_rfl
theorem fnExactLogNew_recurses : (Rows.fnExactLogNewRow.recurses == Try.prog.recurses 4) = true := by kernel_rfl
theorem fnExactLogNew_vars : (Rows.fnExactLogNewRow.named == Try.prog.varsNamed 4) = true := by kernel_rfl
theorem fnExactLogNew_facts : joinedFacts Try.prog 4 Try.f4 Rows.fnExactLogNewSpec Rows.fnExactLogNewRow = true :=
  joined_of (by as_aux_lemma => kernel_rfl) Try.laidOut Try.mapsRowed (by as_aux_lemma => kernel_rfl) (by as_aux_lemma => kernel_rfl) rfl Try.noStops rfl Try.noStopKnobs fnExactLogNew_inPlace fnExactLogNew_unfollowed fnExactLogNew_recurses fnExactLogNew_vars
    (by as_aux_lemma => kernel_rfl) (by as_aux_lemma => kernel_rfl) (by as_aux_lemma => kernel_rfl) (by as_aux_lemma => kernel_rfl) (by as_aux_lemma => kernel_rfl) rfl (by as_aux_lemma => kernel_rfl) (by as_aux_lemma => kernel_rfl) (by as_aux_lemma => kernel_rfl)
    Try.keys rfl Try.heard Try.entered Try.lifts Try.made (by as_aux_lemma => kernel_rfl) rfl (by as_aux_lemma => kernel_rfl) (by as_aux_lemma => kernel_rfl)
theorem fnExactLogNew_holds : Rows.FnExactLogNewSaid :=
  OpenClaim.holds_of_wide 4 Try.f4 rfl rfl rfl rfl rfl rfl rfl ⟨rfl, rfl, rfl, rfl, rfl⟩ rfl rfl rfl rfl rfl fnExactLogNew_named Try.func4 fnExactLogNew_facts
    (of_decide_eq_true (by kernel_rfl)) (by unfold Func.isWrapper; first | (rw [if_pos (by decide +kernel)]; kernel_rfl) | (rw [if_neg (by decide +kernel)]; exact ⟨rfl, rfl⟩))
    (fun os started H enc _ => fnExactLogNew_lifted os started H enc)
end Go.Proofs.Ytlkkgdealgceeaa
