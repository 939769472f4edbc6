/- The law FnExactLackOf returns true, whatever it is handed, and leaves it as it is. No condition. -/
import Derived.Test.YtkndgnnfgdfcbaaGreatG11
import Derived.Test.YtkndgnnfgdfcbaaGreatI
import Derived.Test.YtkndgnnfgdfcbaaGreatP
import Derived.Test.YtkndgnnfgdfcbaaGreatRows
namespace Go.Proofs.YtkndgnnfgdfcbaaGreat
open Am Go.RowKit
open Cel (cells)
set_option maxRecDepth 100000
theorem fnExactLackOf_lifted (os : Os) (started : os.Started) (H : Type) (enc : TypeId × Value → H) :
    ReturnsInHanded {} Tryz.checked os 4 .any (Rows.fnExactLackOfSpec.pre6 enc Tryz.prog Tryz.f4 Rows.fnExactLackOfRow.domain false) (Rows.fnExactLackOfSpec.post enc Tryz.prog Tryz.f4 false true false false) := by
  refine lifted (C := Tryz.checked) (T := TryzT) (tb := 4) TryzT_ok Tryz.own Tryz.laidOut started (by kernel_rfl) Tryz.func4 rfl ?_ rfl (by kernel_rfl) (by kernel_rfl) (by kernel_rfl)
    (ChangeSpec.witness6 (enc := enc) (C := Tryz.checked) false ⟨#[], #[.agg #[.int .i64 0, .int .i64 0, .slice none 0 0, .slice none 0 0, .slice none 0 0, .slice none 0 0, .slice none 0 0, .slice none 0 0], .slice none 0 0], []⟩ 8 (by kernel_rfl) (by kernel_rfl) (by kernel_rfl) (by kernel_rfl)) ?_
  · intro ds hd
    match ds, hd with
    | [d0, d1], _ => rfl
  · intro cs hcs
    match cs, hcs with
    | [c0, c1], hcs =>
      replace hcs : ShCs TryzT [56, 24] [c0, c1] := hcs
      simp only [ShCs, ShC, TryzT_24, TryzT_56] at hcs
      obtain ⟨⟨ps0, rfl, t0⟩, ⟨ps1, rfl, t1⟩, _⟩ := hcs
      obtain ⟨a0, rfl, g0⟩ := inv_56 t0
      obtain ⟨xss1, ea1, g1, k1⟩ := Sh_slice TryzT_24 t1
      obtain ⟨a1, e1, l1, q1⟩ := unflat (fun x hx => inv_int hx) xss1 k1
      rw [e1, l1] at ea1
      cases ea1
      rw [l1] at g1
      exact f4_ok a0 a1 g0 g1

theorem fnExactLackOf_named : Tryz.prog.funcNamed Rows.fnExactLackOfRow.func = some 4 := by kernel_rfl
theorem fnExactLackOf_inPlace : (Rows.fnExactLackOfRow.inPlace == Tryz.prog.inPlace 4) = true := by kernel_rfl
theorem fnExactLackOf_unfollowed : (Rows.fnExactLackOfRow.unfollowed == Tryz.prog.unfollowed 4) = true := by kernel_rfl
theorem fnExactLackOf_recurses : (Rows.fnExactLackOfRow.recurses == Tryz.prog.recurses 4) = true := by kernel_rfl
theorem fnExactLackOf_vars : (Rows.fnExactLackOfRow.named == Tryz.prog.varsNamed 4) = true := by kernel_rfl
theorem fnExactLackOf_facts : joinedFacts Tryz.prog 4 Tryz.f4 Rows.fnExactLackOfSpec Rows.fnExactLackOfRow = true :=
  joined_of (by as_aux_lemma => kernel_rfl) Tryz.laidOut Tryz.mapsRowed (by as_aux_lemma => kernel_rfl) (by as_aux_lemma => kernel_rfl) rfl Tryz.noStops rfl Tryz.noStopKnobs fnExactLackOf_inPlace fnExactLackOf_unfollowed fnExactLackOf_recurses fnExactLackOf_vars
    (by as_aux_lemma => kernel_rfl) (by as_aux_lemma => kernel_rfl) (by as_aux_lemma => kernel_rfl) (by as_aux_lemma => kernel_rfl) (by as_aux_lemma => kernel_rfl) rfl (by as_aux_lemma => kernel_rfl) (by as_aux_lemma => kernel_rfl) (by as_aux_lemma => kernel_rfl)
    Tryz.keys rfl Tryz.heard Tryz.entered Tryz.lifts Tryz.made (by as_aux_lemma => kernel_rfl) rfl (by as_aux_lemma => kernel_rfl) (by as_aux_lemma => kernel_rfl)
theorem fnExactLackOf_holds : Rows.FnExactLackOfSaid :=
  OpenClaim.holds_of_wide 4 Tryz.f4 rfl rfl rfl rfl rfl rfl rfl ⟨rfl, rfl, rfl, rfl, rfl⟩ rfl rfl rfl rfl rfl fnExactLackOf_named Tryz.func4 fnExactLackOf_facts
    (of_decide_eq_true (by kernel_rfl)) (by unfold Func.isWrapper; first | (rw [if_pos (by decide +kernel)]; kernel_rfl) | (rw [if_neg (by decide +kernel)]; exact ⟨rfl, rfl⟩))
    (fun os started H enc _ => fnExactLackOf_lifted os started H enc)
end Go.Proofs.YtkndgnnfgdfcbaaGreat
