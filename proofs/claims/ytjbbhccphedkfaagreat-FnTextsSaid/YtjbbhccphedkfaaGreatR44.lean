/- The law FnTexts returns true,whatever it is handed,and leaves it as it is. No condition. -/
import Derived.Test.YtjbbhccphedkfaaGreatG44
import Derived.Test.YtjbbhccphedkfaaGreatI
import Derived.Test.YtjbbhccphedkfaaGreatP44
import Derived.Test.YtjbbhccphedkfaaGreatRows
set_option linter.unusedSimpArgs false
set_option linter.unusedVariables false
set_option linter.unnecessarySimpa false
set_option linter.unusedSectionVars false
namespace Go.Proofs.YtjbbhccphedkfaaGreat
open Am Go.RowKit
open Cel (cells)
set_option maxRecDepth 100000
theorem fnTexts_lifted (os:Os) (started:os.Started) (H:Type) (enc:TypeId × Value → H) :
    ReturnsInHanded {} Tryz.checked os 3 .any (Rows.fnTextsSpec.pre6 enc Tryz.prog Tryz.f3 Rows.fnTextsRow.domain false) (Rows.fnTextsSpec.post enc Tryz.prog Tryz.f3 false true false false):=by
  refine lifted (C:=Tryz.checked) (T:=TryzT) (tb:=4) TryzT_ok Tryz.own Tryz.laidOut started (by kernel_rfl) Tryz.func3 rfl ?_ rfl (by kernel_rfl) (by kernel_rfl) (by kernel_rfl)
    (ChangeSpec.witness6 (enc:=enc) (C:=Tryz.checked) false ⟨#[],#[.slice none 0 0],[]⟩ 8 (by kernel_rfl) (by kernel_rfl) (by kernel_rfl) (by kernel_rfl)) ?_
  · intro ds hd
    match ds,hd with
    | [d0],_ => rfl
  · intro cs hcs
    match cs,hcs with
    | [c0],hcs =>
      replace hcs:ShCs TryzT [22] [c0]:=hcs
      simp only [ShCs,ShC,TryzT_22] at hcs
      obtain ⟨⟨ps0,rfl,t0⟩,_⟩:=hcs
      obtain ⟨xss0,ea0,g0,k0⟩:=Sh_slice TryzT_22 t0
      obtain ⟨a0,e0,l0,q0⟩:=unflat (fun x hx => inv_u8 hx) xss0 k0
      rw [e0,l0] at ea0
      cases ea0
      rw [l0] at g0
      exact f3_ok a0 g0
theorem fnTexts_named:Tryz.prog.funcNamed Rows.fnTextsRow.func = some 3:=by kernel_rfl
theorem fnTexts_inPlace:(Rows.fnTextsRow.inPlace == Tryz.prog.inPlace 3) = true:=by kernel_rfl
theorem fnTexts_unfollowed:(Rows.fnTextsRow.unfollowed == Tryz.prog.unfollowed 3) = true:=by kernel_rfl
theorem fnTexts_recurses:(Rows.fnTextsRow.recurses == Tryz.prog.recurses 3) = true:=by kernel_rfl
theorem fnTexts_vars:(Rows.fnTextsRow.named == Tryz.prog.varsNamed 3) = true:=by kernel_rfl
theorem fnTexts_facts:joinedFacts Tryz.prog 3 Tryz.f3 Rows.fnTextsSpec Rows.fnTextsRow = true :=
  joined_of (by as_aux_lemma => kernel_rfl) Tryz.laidOut Tryz.mapsRowed (by as_aux_lemma => kernel_rfl) (by as_aux_lemma => kernel_rfl) rfl Tryz.noStops rfl Tryz.noStopKnobs fnTexts_inPlace fnTexts_unfollowed fnTexts_recurses fnTexts_vars
    (by as_aux_lemma => kernel_rfl) (by as_aux_lemma => kernel_rfl) (by as_aux_lemma => kernel_rfl) (by as_aux_lemma => kernel_rfl) (by as_aux_lemma => kernel_rfl) rfl (by as_aux_lemma => kernel_rfl) (by as_aux_lemma => kernel_rfl) (by as_aux_lemma => kernel_rfl)
    Tryz.keys rfl Tryz.heard Tryz.entered Tryz.lifts Tryz.made (by as_aux_lemma => kernel_rfl) rfl (by as_aux_lemma => kernel_rfl) (by as_aux_lemma => kernel_rfl)
theorem fnTexts_holds:Rows.FnTextsSaid :=
  OpenClaim.holds_of_wide 3 Tryz.f3 rfl rfl rfl rfl rfl rfl rfl ⟨rfl,rfl,rfl,rfl,rfl⟩ rfl rfl rfl rfl rfl fnTexts_named Tryz.func3 fnTexts_facts
    (of_decide_eq_true (by kernel_rfl)) (by unfold Func.isWrapper; first | (rw [if_pos (by decide +kernel)]; kernel_rfl) | (rw [if_neg (by decide +kernel)]; exact ⟨rfl,rfl⟩))
    (fun os started H enc _ => fnTexts_lifted os started H enc)
end Go.Proofs.YtjbbhccphedkfaaGreat
