/- The law FnUnits returns true,whatever it is handed,and leaves it as it is. No condition. -/
import Derived.Test.YteidfkbfocdnmaaGreatG42
import Derived.Test.YteidfkbfocdnmaaGreatI
import Derived.Test.YteidfkbfocdnmaaGreatP42
import Derived.Test.YteidfkbfocdnmaaGreatRows
set_option linter.unusedSimpArgs false
set_option linter.unusedVariables false
set_option linter.unnecessarySimpa false
set_option linter.unusedSectionVars false
namespace Go.Proofs.YteidfkbfocdnmaaGreat
open Am Go.RowKit
open Cel (cells)
set_option maxRecDepth 100000
theorem fnUnits_lifted (os:Os) (started:os.Started) (H:Type) (enc:TypeId × Value → H) :
    ReturnsInHanded {} Tryz.checked os 7 .any (Rows.fnUnitsSpec.pre6 enc Tryz.prog Tryz.f7 Rows.fnUnitsRow.domain false) (Rows.fnUnitsSpec.post enc Tryz.prog Tryz.f7 false true false false):=by
  refine lifted (C:=Tryz.checked) (T:=TryzT) (tb:=4) TryzT_ok Tryz.own Tryz.laidOut started (by kernel_rfl) Tryz.func7 rfl ?_ rfl (by kernel_rfl) (by kernel_rfl) (by kernel_rfl)
    (ChangeSpec.witness6 (enc:=enc) (C:=Tryz.checked) false ⟨#[],#[.slice none 0 0],[]⟩ 8 (by kernel_rfl) (by kernel_rfl) (by kernel_rfl) (by kernel_rfl)) ?_
  · intro ds hd
    match ds,hd with
    | [d0],_ => rfl
  · intro cs hcs
    match cs,hcs with
    | [c0],hcs =>
      replace hcs:ShCs TryzT [22] [c0]:=hcs
      simp only [ShCs,ShC,TryzT_22] at hcs
      obtain ⟨⟨ps0,rfl,t0⟩,_⟩:=hcs
      obtain ⟨xss0,ea0,g0,k0⟩:=Sh_slice TryzT_22 t0
      obtain ⟨a0,e0,l0,q0⟩:=unflat (fun x hx => inv_u8 hx) xss0 k0
      rw [e0,l0] at ea0
      cases ea0
      rw [l0] at g0
      exact f7_ok a0 g0
theorem fnUnits_named:Tryz.prog.funcNamed Rows.fnUnitsRow.func = some 7:=by kernel_rfl
theorem fnUnits_inPlace:(Rows.fnUnitsRow.inPlace == Tryz.prog.inPlace 7) = true:=by kernel_rfl
theorem fnUnits_unfollowed:(Rows.fnUnitsRow.unfollowed == Tryz.prog.unfollowed 7) = true:=by kernel_rfl
theorem fnUnits_recurses:(Rows.fnUnitsRow.recurses == Tryz.prog.recurses 7) = true:=by kernel_rfl
theorem fnUnits_vars:(Rows.fnUnitsRow.named == Tryz.prog.varsNamed 7) = true:=by kernel_rfl
theorem fnUnits_facts:joinedFacts Tryz.prog 7 Tryz.f7 Rows.fnUnitsSpec Rows.fnUnitsRow = true :=
  joined_of (by as_aux_lemma => kernel_rfl) Tryz.laidOut Tryz.mapsRowed (by as_aux_lemma => kernel_rfl) (by as_aux_lemma => kernel_rfl) rfl Tryz.noStops rfl Tryz.noStopKnobs fnUnits_inPlace fnUnits_unfollowed fnUnits_recurses fnUnits_vars
    (by as_aux_lemma => kernel_rfl) (by as_aux_lemma => kernel_rfl) (by as_aux_lemma => kernel_rfl) (by as_aux_lemma => kernel_rfl) (by as_aux_lemma => kernel_rfl) rfl (by as_aux_lemma => kernel_rfl) (by as_aux_lemma => kernel_rfl) (by as_aux_lemma => kernel_rfl)
    Tryz.keys rfl Tryz.heard Tryz.entered Tryz.lifts Tryz.made (by as_aux_lemma => kernel_rfl) rfl (by as_aux_lemma => kernel_rfl) (by as_aux_lemma => kernel_rfl)
theorem fnUnits_holds:Rows.FnUnitsSaid :=
  OpenClaim.holds_of_wide 7 Tryz.f7 rfl rfl rfl rfl rfl rfl rfl ⟨rfl,rfl,rfl,rfl,rfl⟩ rfl rfl rfl rfl rfl fnUnits_named Tryz.func7 fnUnits_facts
    (of_decide_eq_true (by kernel_rfl)) (by unfold Func.isWrapper; first | (rw [if_pos (by decide +kernel)]; kernel_rfl) | (rw [if_neg (by decide +kernel)]; exact ⟨rfl,rfl⟩))
    (fun os started H enc _ => fnUnits_lifted os started H enc)
end Go.Proofs.YteidfkbfocdnmaaGreat
