/- Drawn: states put together,what changed. No condition. -/
import Derived.Test.YteidfkbfocdnmaaGreatT
import Derived.Test.YteidfkbfocdnmaaGreatD
import Derived.Test.YteidfkbfocdnmaaGreatV7
import Derived.Test.YteidfkbfocdnmaaGreatU21
import Derived.Test.YteidfkbfocdnmaaGreatE16
import Derived.Test.YteidfkbfocdnmaaGreatV1
import Derived.Test.YteidfkbfocdnmaaGreatU24
set_option linter.unusedSimpArgs false
set_option linter.unusedVariables false
set_option linter.unnecessarySimpa false
set_option linter.unusedSectionVars false
namespace Am
open Go Go.Proofs
open Cel (cells)
set_option maxRecDepth 100000
def dltD (c:GCur):GDelta × GCur:=((deltaOf (twoP c).1 (twoA c).1).1,(twoB c).2)
@[simp] def h304:Hts:={ merge:=fun _ => false,mergeF:=fun _ => false,lend:=fun f => if f = 132 then [.box []] else [] }
theorem f304_ok (c:GCur) (hc:c.Ok):FnW Tryz.prog 304 [.ptr [.im c.b.length (flat c.b),.int .i64 c.i,.int .i64 c.h]] (.agg [.ow 3 1 ((dltD c).1).base.length (flat ((dltD c).1).base),.ow 3 1 ((dltD c).1).know.length (flat ((dltD c).1).know),.ow 179 3 ((dltD c).1).tallies.length (flat ((dltD c).1).tallies),.ow 159 6 ((dltD c).1).lives.length (flat ((dltD c).1).lives),.ow 29 2 ((dltD c).1).dead.length (flat ((dltD c).1).dead),.ow 72 8 ((dltD c).1).cs.length (flat ((dltD c).1).cs)]) [.ptr [.im ((dltD c).2).b.length (flat ((dltD c).2).b),.int .i64 ((dltD c).2).i,.int .i64 ((dltD c).2).h]]:=by
  refine FnW.of_AW TryzT_ok 1 (fn:=Tryz.f304) (by kernel_rfl) rfl (by kernel_rfl) rfl rfl rfl ?_; refine AW_of h304 TryzT_ok (by kernel_rfl) ?_
  simp -dsimp
  refine ACallW_go ?_
  refine ACallC_go (fun us => f132_ok c hc) ?_
  simp -dsimp
  refine ACallK_of (f338_ok (twoP c).1 (twoA c).1 (sok_Ok (twoP_sok c)) (sok_Ok (twoA_sok hc))) ?_
  simp -dsimp
  simp [dltD]
theorem knowOk_three {k:List Int} (h:knowOk k = true):k.length = 3:=by
  simp only [knowOk,Bool.and_eq_true,decide_eq_true_eq] at h
  exact h.1
theorem dlt_len {p c:GState} (hp:SOK p) (hc:SOK c):(deltaOf p c).1.base.length ≤ 120 ∧ (deltaOf p c).1.know.length ≤ 120 ∧ (deltaOf p c).1.tallies.length ≤ 120 ∧ (deltaOf p c).1.lives.length ≤ 120 ∧ (deltaOf p c).1.dead.length ≤ 120 ∧ (deltaOf p c).1.cs.length ≤ 120:=by
  have h1:=dTal_len p c c.tallies.length
  have h2:=dLivs_len p c c.lives.length
  have h3:=deadK_len c p.lives p.lives.length
  have h4:=dCels_len p c c.cs.length
  have k1:=knowOk_three hp.k
  have k2:=knowOk_three hc.k
  have z1:=hc.t1
  have z2:=hc.l1
  have z3:=hc.c1
  have z4:=hp.l1
  unfold deltaOf
  split
  · simp only [deltaRaw]; omega
  · simp [noDelta]
def dltM (k y:Int) (d:GDelta):GDelta :=
  if k = 0 then { d with know:=[y.tmod 4,y.tmod 3,y.tmod 5] }
  else if k = 1 then { d with dead:=d.dead ++ [⟨y.tmod 4,y.tmod 5⟩] }
  else if k = 2 then { d with lives:=d.lives ++ [⟨false,tA,tX,0,⟨2,y.tmod 6⟩⟩] }
  else if k = 3 then { d with base:=[] }
  else if k = 4 then { d with cs:=d.cs ++ [⟨tA,⟨2,1 + y.tmod 5⟩,y.tmod 4,⟨1,y.tmod 3⟩,0,false⟩] }
  else d
def anyDl (c:GCur):GDelta × GCur:=(dltM (curN c 12).1 (curN (curN c 12).2 60).1 (dltD (curN (curN c 12).2 60).2).1,(dltD (curN (curN c 12).2 60).2).2)
theorem anyDl_ok {c:GCur} (h:c.Ok):(anyDl c).2.Ok:=twoB_ok (curN_ok (curN_ok h _) _)
theorem dltM_Ok (k y:Int) {d:GDelta} (h:d.Ok) (hl:d.base.length ≤ 120 ∧ d.know.length ≤ 120 ∧ d.tallies.length ≤ 120 ∧ d.lives.length ≤ 120 ∧ d.dead.length ≤ 120 ∧ d.cs.length ≤ 120):(dltM k y d).Ok:=by
  have sA:tA.size ≤ 1073741824:=by decide
  have sX:tX.size ≤ 1073741824:=by decide
  simp only [GDelta.Ok] at h ⊢
  obtain ⟨o0,o1,o2,o3,o4,o5,o6,o7,o8⟩:=h
  unfold dltM
  split
  · exact ⟨o0,by simp,o2,o3,o4,o5,o6,o7,o8⟩
  split
  · exact ⟨o0,o1,o2,o3,o4,o5,by simp only [List.length_append,List.length_singleton]; omega,o7,o8⟩
  split
  · refine ⟨o0,o1,o2,o3,by simp only [List.length_append,List.length_singleton]; omega,fun z hz => ?_,o6,o7,o8⟩
    rcases List.mem_append.1 hz with hz | hz
    · exact o5 z hz
    · rw [List.mem_singleton.1 hz]; simp only [GLive.Ok]; exact ⟨sA,sX⟩
  split
  · exact ⟨by simp,o1,o2,o3,o4,o5,o6,o7,o8⟩
  split
  · refine ⟨o0,o1,o2,o3,o4,o5,o6,by simp only [List.length_append,List.length_singleton]; omega,fun z hz => ?_⟩
    rcases List.mem_append.1 hz with hz | hz
    · exact o8 z hz
    · rw [List.mem_singleton.1 hz]; simp only [GCell.Ok]; exact sA
  · exact ⟨o0,o1,o2,o3,o4,o5,o6,o7,o8⟩
theorem anyDl_Ok {c:GCur} (h:c.Ok):(anyDl c).1.Ok:=by
  have c2:(curN (curN c 12).2 60).2.Ok:=curN_ok (curN_ok h _) _
  have p:=twoP_sok (curN (curN c 12).2 60).2
  have a:=twoA_sok c2
  exact dltM_Ok _ _ (deltaOf_ok (sok_Ok p) (sok_Ok a)) (dlt_len p a)
@[simp] def h187:Hts:={ merge:=fun _ => false,mergeF:=fun _ => false,lend:=fun f => if f = 117 || f = 304 then [.box []] else [] }
set_option maxHeartbeats 8000000 in
theorem f187_ok (c:GCur) (hc:c.Ok):FnW Tryz.prog 187 [.ptr [.im c.b.length (flat c.b),.int .i64 c.i,.int .i64 c.h]] (.agg [.ow 3 1 ((anyDl c).1).base.length (flat ((anyDl c).1).base),.ow 3 1 ((anyDl c).1).know.length (flat ((anyDl c).1).know),.ow 179 3 ((anyDl c).1).tallies.length (flat ((anyDl c).1).tallies),.ow 159 6 ((anyDl c).1).lives.length (flat ((anyDl c).1).lives),.ow 29 2 ((anyDl c).1).dead.length (flat ((anyDl c).1).dead),.ow 72 8 ((anyDl c).1).cs.length (flat ((anyDl c).1).cs)]) [.ptr [.im ((anyDl c).2).b.length (flat ((anyDl c).2).b),.int .i64 ((anyDl c).2).i,.int .i64 ((anyDl c).2).h]]:=by
  have hk:=curN_bd c (n:=12) (by decide)
  have hy:=curN_bd (curN c 12).2 (n:=60) (by decide)
  have c2:(curN (curN c 12).2 60).2.Ok:=curN_ok (curN_ok hc _) _
  have p:=twoP_sok (curN (curN c 12).2 60).2
  have a:=twoA_sok c2
  have hO:(dltD (curN (curN c 12).2 60).2).1.Ok:=deltaOf_ok (sok_Ok p) (sok_Ok a)
  have hL:(dltD (curN (curN c 12).2 60).2).1.base.length ≤ 120 ∧ (dltD (curN (curN c 12).2 60).2).1.know.length ≤ 120 ∧ (dltD (curN (curN c 12).2 60).2).1.tallies.length ≤ 120 ∧ (dltD (curN (curN c 12).2 60).2).1.lives.length ≤ 120 ∧ (dltD (curN (curN c 12).2 60).2).1.dead.length ≤ 120 ∧ (dltD (curN (curN c 12).2 60).2).1.cs.length ≤ 120:=dlt_len p a
  have d1:(anyDl c).1 = dltM (curN c 12).1 (curN (curN c 12).2 60).1 (dltD (curN (curN c 12).2 60).2).1:=rfl
  have d2:(anyDl c).2 = (dltD (curN (curN c 12).2 60).2).2:=rfl
  rw [d1,d2]
  refine FnW.of_AW TryzT_ok 1 (fn:=Tryz.f187) (by kernel_rfl) rfl (by kernel_rfl) rfl rfl rfl ?_; refine AW_of h187 TryzT_ok (by kernel_rfl) ?_
  simp -dsimp
  refine ACallW_go ?_
  refine ACallC_go (fun us => f117_ok c hc 12) ?_
  simp -dsimp
  refine ACallW_go ?_
  refine ACallC_go (fun us => f117_ok (curN c 12).2 (curN_ok hc _) 60) ?_
  simp -dsimp
  refine ACallW_go ?_
  refine ACallC_go (fun us => f304_ok (curN (curN c 12).2 60).2 c2) ?_
  simp -dsimp
  refine ACallK_of (f303_ok (dltD (curN (curN c 12).2 60).2).1 hO) ?_
  generalize (dltD (curN (curN c 12).2 60).2).1 = d at *
  generalize (dltD (curN (curN c 12).2 60).2).2 = c1 at *
  generalize (curN (curN c 12).2 60).1 = y at *
  generalize (curN c 12).1 = k at *
  by_cases k0:k = 0
  · subst k0
    simp -dsimp
    simp [dltM]
    rfl
  by_cases k1:k = 1
  · subst k1
    simp -dsimp
    repeat (first|refine ⟨by omega,?_⟩|refine ⟨by simp [capMax];omega,?_⟩|refine ⟨⟨by omega,by omega⟩,?_⟩)
    simp [dltM]
  by_cases k2:k = 2
  · subst k2
    simp -dsimp
    repeat (first|refine ⟨by omega,?_⟩|refine ⟨by simp [capMax];omega,?_⟩|refine ⟨⟨by omega,by omega⟩,?_⟩)
    simp [dltM,tA,tX]
  by_cases k3:k = 3
  · subst k3
    simp -dsimp
    simp [dltM]
  by_cases k4:k = 4
  · have b5:=tmod_bd hy.1 (n:=5) (by decide)
    have w5:IntKind.i64.wrap (1 + y.tmod 5) = 1 + y.tmod 5:=wrap64 (by omega) (by omega)
    subst k4
    simp -dsimp [w5]
    repeat (first|refine ⟨by omega,?_⟩|refine ⟨by simp [capMax];omega,?_⟩|refine ⟨⟨by omega,by omega⟩,?_⟩)
    simp [dltM,tA]
  simp -dsimp [k0,k1,k2,k3,k4]
  simp [dltM,k0,k1,k2,k3,k4]
end Am
namespace Am
open Go Go.Proofs
open Cel (cells)
set_option maxRecDepth 100000
end Am
namespace Am
open Go Go.Proofs
open Cel (cells)
set_option maxRecDepth 100000
end Am
