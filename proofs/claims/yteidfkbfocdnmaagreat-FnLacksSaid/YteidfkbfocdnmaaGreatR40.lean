/- The law FnLacks returns true, whatever it is handed, and leaves it as it is. No condition. -/
import Derived.Test.YteidfkbfocdnmaaGreatG40
import Derived.Test.YteidfkbfocdnmaaGreatI
import Derived.Test.YteidfkbfocdnmaaGreatP40
import Derived.Test.YteidfkbfocdnmaaGreatRows
namespace Go.Proofs.YteidfkbfocdnmaaGreat
open Am Go.RowKit
open Cel (cells)
set_option maxRecDepth 100000
theorem fnLacks_lifted (os : Os) (started : os.Started) (H : Type) (enc : TypeId × Value → H) :
    ReturnsInHanded {} Tryz.checked os 8 .any (Rows.fnLacksSpec.pre6 enc Tryz.prog Tryz.f8 Rows.fnLacksRow.domain false) (Rows.fnLacksSpec.post enc Tryz.prog Tryz.f8 false true false false) := by
  refine lifted (C := Tryz.checked) (T := TryzT) (tb := 4) TryzT_ok Tryz.own Tryz.laidOut started (by kernel_rfl) Tryz.func8 rfl ?_ rfl (by kernel_rfl) (by kernel_rfl) (by kernel_rfl)
    (ChangeSpec.witness6 (enc := enc) (C := Tryz.checked) false ⟨#[], #[.slice none 0 0], []⟩ 8 (by kernel_rfl) (by kernel_rfl) (by kernel_rfl) (by kernel_rfl)) ?_
  · intro ds hd
    match ds, hd with
    | [d0], _ => rfl
  · intro cs hcs
    match cs, hcs with
    | [c0], hcs =>
      replace hcs : ShCs TryzT [22] [c0] := hcs
      simp only [ShCs, ShC, TryzT_22] at hcs
      obtain ⟨⟨ps0, rfl, t0⟩, _⟩ := hcs
      obtain ⟨xss0, ea0, g0, k0⟩ := Sh_slice TryzT_22 t0
      obtain ⟨a0, e0, l0, q0⟩ := unflat (fun x hx => inv_u8 hx) xss0 k0
      rw [e0, l0] at ea0
      cases ea0
      rw [l0] at g0
      exact f8_ok a0 g0

theorem fnLacks_named : Tryz.prog.funcNamed Rows.fnLacksRow.func = some 8 := by kernel_rfl
theorem fnLacks_inPlace : (Rows.fnLacksRow.inPlace == Tryz.prog.inPlace 8) = true := by kernel_rfl
theorem fnLacks_unfollowed : (Rows.fnLacksRow.unfollowed == Tryz.prog.unfollowed 8) = true := by kernel_rfl
theorem fnLacks_recurses : (Rows.fnLacksRow.recurses == Tryz.prog.recurses 8) = true := by kernel_rfl
theorem fnLacks_vars : (Rows.fnLacksRow.named == Tryz.prog.varsNamed 8) = true := by kernel_rfl
theorem fnLacks_facts : joinedFacts Tryz.prog 8 Tryz.f8 Rows.fnLacksSpec Rows.fnLacksRow = true :=
  joined_of (by as_aux_lemma => kernel_rfl) Tryz.laidOut Tryz.mapsRowed (by as_aux_lemma => kernel_rfl) (by as_aux_lemma => kernel_rfl) rfl Tryz.noStops rfl Tryz.noStopKnobs fnLacks_inPlace fnLacks_unfollowed fnLacks_recurses fnLacks_vars
    (by as_aux_lemma => kernel_rfl) (by as_aux_lemma => kernel_rfl) (by as_aux_lemma => kernel_rfl) (by as_aux_lemma => kernel_rfl) (by as_aux_lemma => kernel_rfl) rfl (by as_aux_lemma => kernel_rfl) (by as_aux_lemma => kernel_rfl) (by as_aux_lemma => kernel_rfl)
    Tryz.keys rfl Tryz.heard Tryz.entered Tryz.lifts Tryz.made (by as_aux_lemma => kernel_rfl) rfl (by as_aux_lemma => kernel_rfl) (by as_aux_lemma => kernel_rfl)
theorem fnLacks_holds : Rows.FnLacksSaid :=
  OpenClaim.holds_of_wide 8 Tryz.f8 rfl rfl rfl rfl rfl rfl rfl ⟨rfl, rfl, rfl, rfl, rfl⟩ rfl rfl rfl rfl rfl fnLacks_named Tryz.func8 fnLacks_facts
    (of_decide_eq_true (by kernel_rfl)) (by unfold Func.isWrapper; first | (rw [if_pos (by decide +kernel)]; kernel_rfl) | (rw [if_neg (by decide +kernel)]; exact ⟨rfl, rfl⟩))
    (fun os started H enc _ => fnLacks_lifted os started H enc)
end Go.Proofs.YteidfkbfocdnmaaGreat
