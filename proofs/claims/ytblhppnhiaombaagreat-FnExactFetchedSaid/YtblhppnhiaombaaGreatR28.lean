/- The law FnExactFetched returns true, whatever it is handed, and leaves it as it is. No condition. -/
import Derived.Test.YtblhppnhiaombaaGreatG28
import Derived.Test.YtblhppnhiaombaaGreatI
import Derived.Test.YtblhppnhiaombaaGreatP28
import Derived.Test.YtblhppnhiaombaaGreatRows
namespace Go.Proofs.YtblhppnhiaombaaGreat
open Am Go.RowKit
open Cel (cells)
set_option maxRecDepth 100000
theorem fnExactFetched_lifted (os : Os) (started : os.Started) (H : Type) (enc : TypeId × Value → H) :
    ReturnsInHanded {} Tryz.checked os 6 .any (Rows.fnExactFetchedSpec.pre6 enc Tryz.prog Tryz.f6 Rows.fnExactFetchedRow.domain false) (Rows.fnExactFetchedSpec.post enc Tryz.prog Tryz.f6 false true false false) := by
  refine lifted (C := Tryz.checked) (T := TryzT) (tb := 4) TryzT_ok Tryz.own Tryz.laidOut started (by kernel_rfl) Tryz.func6 rfl ?_ rfl (by kernel_rfl) (by kernel_rfl) (by kernel_rfl)
    (ChangeSpec.witness6 (enc := enc) (C := Tryz.checked) false ⟨#[], #[.agg #[.slice none 0 0, .int .i64 0], .agg #[.slice none 0 0, .int .i64 0], .int .i64 0], []⟩ 8 (by kernel_rfl) (by kernel_rfl) (by kernel_rfl) (by kernel_rfl)) ?_
  · intro ds hd
    match ds, hd with
    | [d0, d1, d2], _ => rfl
  · intro cs hcs
    match cs, hcs with
    | [c0, c1, c2], hcs =>
      replace hcs : ShCs TryzT [63, 63, 3] [c0, c1, c2] := hcs
      simp only [ShCs, ShC, TryzT_3, TryzT_63] at hcs
      obtain ⟨⟨ps0, rfl, t0⟩, ⟨ps1, rfl, t1⟩, ⟨ps2, rfl, t2⟩, _⟩ := hcs
      obtain ⟨a0, rfl, g0⟩ := inv_63 t0
      obtain ⟨a1, rfl, g1⟩ := inv_63 t1
      obtain ⟨a2, ea2, g2, g'2⟩ := Sh_int TryzT_3 t2
      cases ea2
      exact f6_ok a0 a1 a2 g0 g1 g2 g'2

theorem fnExactFetched_named : Tryz.prog.funcNamed Rows.fnExactFetchedRow.func = some 6 := by kernel_rfl
theorem fnExactFetched_inPlace : (Rows.fnExactFetchedRow.inPlace == Tryz.prog.inPlace 6) = true := by kernel_rfl
theorem fnExactFetched_unfollowed : (Rows.fnExactFetchedRow.unfollowed == Tryz.prog.unfollowed 6) = true := by kernel_rfl
theorem fnExactFetched_recurses : (Rows.fnExactFetchedRow.recurses == Tryz.prog.recurses 6) = true := by kernel_rfl
theorem fnExactFetched_vars : (Rows.fnExactFetchedRow.named == Tryz.prog.varsNamed 6) = true := by kernel_rfl
theorem fnExactFetched_facts : joinedFacts Tryz.prog 6 Tryz.f6 Rows.fnExactFetchedSpec Rows.fnExactFetchedRow = true :=
  joined_of (by as_aux_lemma => kernel_rfl) Tryz.laidOut Tryz.mapsRowed (by as_aux_lemma => kernel_rfl) (by as_aux_lemma => kernel_rfl) rfl Tryz.noStops rfl Tryz.noStopKnobs fnExactFetched_inPlace fnExactFetched_unfollowed fnExactFetched_recurses fnExactFetched_vars
    (by as_aux_lemma => kernel_rfl) (by as_aux_lemma => kernel_rfl) (by as_aux_lemma => kernel_rfl) (by as_aux_lemma => kernel_rfl) (by as_aux_lemma => kernel_rfl) rfl (by as_aux_lemma => kernel_rfl) (by as_aux_lemma => kernel_rfl) (by as_aux_lemma => kernel_rfl)
    Tryz.keys rfl Tryz.heard Tryz.entered Tryz.lifts Tryz.made (by as_aux_lemma => kernel_rfl) rfl (by as_aux_lemma => kernel_rfl) (by as_aux_lemma => kernel_rfl)
theorem fnExactFetched_holds : Rows.FnExactFetchedSaid :=
  OpenClaim.holds_of_wide 6 Tryz.f6 rfl rfl rfl rfl rfl rfl rfl ⟨rfl, rfl, rfl, rfl, rfl⟩ rfl rfl rfl rfl rfl fnExactFetched_named Tryz.func6 fnExactFetched_facts
    (of_decide_eq_true (by kernel_rfl)) (by unfold Func.isWrapper; first | (rw [if_pos (by decide +kernel)]; kernel_rfl) | (rw [if_neg (by decide +kernel)]; exact ⟨rfl, rfl⟩))
    (fun os started H enc _ => fnExactFetched_lifted os started H enc)
end Go.Proofs.YtblhppnhiaombaaGreat
