/- The law FnExactActOf returns true, whatever it is handed, and leaves it as it is. No condition. -/
import Derived.Test.YtkkaogfjlbigmaaGreatG23
import Derived.Test.YtkkaogfjlbigmaaGreatI
import Derived.Test.YtkkaogfjlbigmaaGreatP23
import Derived.Test.YtkkaogfjlbigmaaGreatRows
namespace Go.Proofs.YtkkaogfjlbigmaaGreat
open Am Go.RowKit
open Cel (cells)
set_option maxRecDepth 100000
theorem fnExactActOf_lifted (os : Os) (started : os.Started) (H : Type) (enc : TypeId × Value → H) :
    ReturnsInHanded {} Tryz.checked os 3 .any (Rows.fnExactActOfSpec.pre6 enc Tryz.prog Tryz.f3 Rows.fnExactActOfRow.domain false) (Rows.fnExactActOfSpec.post enc Tryz.prog Tryz.f3 false true false false) := by
  refine lifted (C := Tryz.checked) (T := TryzT) (tb := 4) TryzT_ok Tryz.own Tryz.laidOut started (by kernel_rfl) Tryz.func3 rfl ?_ rfl (by kernel_rfl) (by kernel_rfl) (by kernel_rfl)
    (ChangeSpec.witness6 (enc := enc) (C := Tryz.checked) false ⟨#[], #[.agg #[.slice none 0 0, .slice none 0 0, .slice none 0 0, .slice none 0 0], .int .i64 0, .int .i64 0, .agg #[.int .i64 0, .string ⟨#[]⟩, .string ⟨#[]⟩, .int .i64 0, .int .i64 0]], []⟩ 8 (by kernel_rfl) (by kernel_rfl) (by kernel_rfl) (by kernel_rfl)) ?_
  · intro ds hd
    match ds, hd with
    | [d0, d1, d2, d3], _ => rfl
  · intro cs hcs
    match cs, hcs with
    | [c0, c1, c2, c3], hcs =>
      replace hcs : ShCs TryzT [27, 3, 3, 29] [c0, c1, c2, c3] := hcs
      simp only [ShCs, ShC, TryzT_27, TryzT_29, TryzT_3] at hcs
      obtain ⟨⟨ps0, rfl, t0⟩, ⟨ps1, rfl, t1⟩, ⟨ps2, rfl, t2⟩, ⟨ps3, rfl, t3⟩, _⟩ := hcs
      obtain ⟨a0, rfl, g0⟩ := inv_27 t0
      obtain ⟨a1, ea1, g1, g'1⟩ := Sh_int TryzT_3 t1
      cases ea1
      obtain ⟨a2, ea2, g2, g'2⟩ := Sh_int TryzT_3 t2
      cases ea2
      obtain ⟨a3, rfl, g3⟩ := inv_29 t3
      exact f3_ok a0 a1 a2 a3 g0 g1 g'1 g2 g'2 g3

theorem fnExactActOf_named : Tryz.prog.funcNamed Rows.fnExactActOfRow.func = some 3 := by kernel_rfl
theorem fnExactActOf_inPlace : (Rows.fnExactActOfRow.inPlace == Tryz.prog.inPlace 3) = true := by kernel_rfl
theorem fnExactActOf_unfollowed : (Rows.fnExactActOfRow.unfollowed == Tryz.prog.unfollowed 3) = true := by kernel_rfl
theorem fnExactActOf_recurses : (Rows.fnExactActOfRow.recurses == Tryz.prog.recurses 3) = true := by kernel_rfl
theorem fnExactActOf_vars : (Rows.fnExactActOfRow.named == Tryz.prog.varsNamed 3) = true := by kernel_rfl
theorem fnExactActOf_facts : joinedFacts Tryz.prog 3 Tryz.f3 Rows.fnExactActOfSpec Rows.fnExactActOfRow = true :=
  joined_of (by as_aux_lemma => kernel_rfl) Tryz.laidOut Tryz.mapsRowed (by as_aux_lemma => kernel_rfl) (by as_aux_lemma => kernel_rfl) rfl Tryz.noStops rfl Tryz.noStopKnobs fnExactActOf_inPlace fnExactActOf_unfollowed fnExactActOf_recurses fnExactActOf_vars
    (by as_aux_lemma => kernel_rfl) (by as_aux_lemma => kernel_rfl) (by as_aux_lemma => kernel_rfl) (by as_aux_lemma => kernel_rfl) (by as_aux_lemma => kernel_rfl) rfl (by as_aux_lemma => kernel_rfl) (by as_aux_lemma => kernel_rfl) (by as_aux_lemma => kernel_rfl)
    Tryz.keys rfl Tryz.heard Tryz.entered Tryz.lifts Tryz.made (by as_aux_lemma => kernel_rfl) rfl (by as_aux_lemma => kernel_rfl) (by as_aux_lemma => kernel_rfl)
theorem fnExactActOf_holds : Rows.FnExactActOfSaid :=
  OpenClaim.holds_of_wide 3 Tryz.f3 rfl rfl rfl rfl rfl rfl rfl ⟨rfl, rfl, rfl, rfl, rfl⟩ rfl rfl rfl rfl rfl fnExactActOf_named Tryz.func3 fnExactActOf_facts
    (of_decide_eq_true (by kernel_rfl)) (by unfold Func.isWrapper; first | (rw [if_pos (by decide +kernel)]; kernel_rfl) | (rw [if_neg (by decide +kernel)]; exact ⟨rfl, rfl⟩))
    (fun os started H enc _ => fnExactActOf_lifted os started H enc)
end Go.Proofs.YtkkaogfjlbigmaaGreat
