/- Drawn: a log,right or not; a unit,right or not. No condition. -/
import Derived.Test.YteidfkbfocdnmaaGreatT
import Derived.Test.YteidfkbfocdnmaaGreatD
import Derived.Test.YteidfkbfocdnmaaGreatV20
import Derived.Test.YteidfkbfocdnmaaGreatV7
import Derived.Test.YteidfkbfocdnmaaGreatV1
import Derived.Test.YteidfkbfocdnmaaGreatV11
import Derived.Test.YteidfkbfocdnmaaGreatE34
import Derived.Test.YteidfkbfocdnmaaGreatE10
import Derived.Test.YteidfkbfocdnmaaGreatAm32
import Derived.Test.YteidfkbfocdnmaaGreatAm31
set_option linter.unusedSimpArgs false
set_option linter.unusedVariables false
set_option linter.unnecessarySimpa false
set_option linter.unusedSectionVars false
namespace Am
open Go Go.Proofs
open Cel (cells)
set_option maxRecDepth 100000
def anyU (c:GCur):GUnit × GCur :=
  if ((curN c 3).1 == 0) = true then (⟨true,zeroAct,(anyDl (curN c 3).2).1⟩,(anyDl (curN c 3).2).2)
  else if ((curN (anyA (curN c 3).2).2 12).1 == 0) = true then (⟨false,(anyA (curN c 3).2).1,(dltD (curN (anyA (curN c 3).2).2 12).2).1⟩,(dltD (curN (anyA (curN c 3).2).2 12).2).2)
  else (⟨false,(anyA (curN c 3).2).1,zeroDelta⟩,(curN (anyA (curN c 3).2).2 12).2)
@[simp] def h207:Hts:={ merge:=fun _ => false,own:=fun d => !(d == 7 || d == 10 || d == 15),lend:=fun f => if f = 130 || f = 187 || f = 318 || f = 304 then [.box []] else [] }
set_option maxHeartbeats 4000000 in
theorem f207_ok (c:GCur) (hc:c.Ok):FnW Tryz.prog 207 [.ptr [.im c.b.length (flat c.b),.int .i64 c.i,.int .i64 c.h]] (.agg [.bool ((anyU c).1).batch,.int .i64 ((anyU c).1).act.dot.rep,.int .i64 ((anyU c).1).act.dot.seq,.int .i64 ((anyU c).1).act.time,.im ((anyU c).1).act.knew.length (flat ((anyU c).1).act.knew),.int .i64 ((anyU c).1).act.kind,.str ((anyU c).1).act.obj,.str ((anyU c).1).act.key,.int .i64 ((anyU c).1).act.val,.int .i64 ((anyU c).1).act.ref.rep,.int .i64 ((anyU c).1).act.ref.seq,.im ((anyU c).1).delta.base.length (flat ((anyU c).1).delta.base),.im ((anyU c).1).delta.know.length (flat ((anyU c).1).delta.know),.im ((anyU c).1).delta.tallies.length (flat ((anyU c).1).delta.tallies),.im ((anyU c).1).delta.lives.length (flat ((anyU c).1).delta.lives),.im ((anyU c).1).delta.dead.length (flat ((anyU c).1).delta.dead),.im ((anyU c).1).delta.cs.length (flat ((anyU c).1).delta.cs)]) [.ptr [.im ((anyU c).2).b.length (flat ((anyU c).2).b),.int .i64 ((anyU c).2).i,.int .i64 ((anyU c).2).h]]:=by
  have c2:=curN_ok hc 3
  have c3:=anyA_ok c2
  have c4:=curN_ok c3 12
  refine FnW.of_AW TryzT_ok 1 (fn:=Tryz.f207) (by kernel_rfl) rfl (by kernel_rfl) rfl rfl rfl ?_; refine AW_of h207 TryzT_ok (by kernel_rfl) ?_
  simp -dsimp
  refine ACallW_go ?_
  refine ACallC_go (fun us => f130_ok c hc 3) ?_
  cases q:((curN c 3).1 == 0)
  · simp -dsimp
    refine ACallW_go ?_
    refine ACallC_go (fun us => f318_ok (curN c 3).2 c2) ?_
    simp -dsimp
    refine ACallW_go ?_
    refine ACallC_go (fun us => f130_ok (anyA (curN c 3).2).2 c3 12) ?_
    cases q2:((curN (anyA (curN c 3).2).2 12).1 == 0)
    · simp -dsimp
      simp [anyU,q,q2,zeroDelta]
    · simp -dsimp
      refine ACallW_go ?_
      refine ACallC_go (fun us => f304_ok (curN (anyA (curN c 3).2).2 12).2 c4) ?_
      simp -dsimp
      simp [anyU,q,q2]
  · simp -dsimp
    refine ACallW_go ?_
    refine ACallC_go (fun us => f187_ok (curN c 3).2 c2) ?_
    simp -dsimp
    simp [anyU,q,zeroAct]
theorem dltD_Ok {c:GCur} (h:c.Ok):(dltD c).1.Ok:=deltaOf_ok (sok_Ok (twoP_sok c)) (sok_Ok (twoA_sok h))
theorem zeroAct_Ok:zeroAct.Ok:=by
  simp only [GAct.Ok,zeroAct]
  exact ⟨Nat.zero_le _,Nat.zero_le _,Nat.zero_le _⟩
theorem anyU_ok {c:GCur} (h:c.Ok):(anyU c).2.Ok:=by
  have c2:=curN_ok h 3
  have c3:=anyA_ok c2
  unfold anyU
  split
  · exact anyDl_ok c2
  split
  · exact twoB_ok (curN_ok c3 12)
  · exact curN_ok c3 12
theorem anyU_Ok {c:GCur} (h:c.Ok):(anyU c).1.Ok:=by
  have c2:=curN_ok h 3
  have c3:=anyA_ok c2
  unfold anyU
  split
  · exact ⟨zeroAct_Ok,anyDl_Ok c2⟩
  split
  · exact ⟨anyA_Ok _,dltD_Ok (curN_ok c3 12)⟩
  · exact ⟨anyA_Ok _,zeroDelta_Ok⟩
def logN (c:GCur) (m:Int):Nat:=(m + (curN c 8).1).toNat
def logS (c:GCur) (m:Int):LS:=logsK (curN c 8).2 (logN c m)
def logD (c:GCur):GLog × GCur:=(getL (curN (logS c 3).c 3).1 (logS c 3).lg,(curN (logS c 3).c 3).2)
theorem logN_le (c:GCur) {m:Int} (h0:0 ≤ m) (h:m ≤ 5):(logN c m:Int) = m + (curN c 8).1 ∧ logN c m ≤ 12:=by
  have:=curN_bd c (n:=8) (by decide)
  unfold logN
  omega
theorem logS_pl (c:GCur) (m:Int):P3 (logS c m).lg:=logsK_pl _ _
theorem logS_ok {c:GCur} (h:c.Ok) (m:Int):(logS c m).c.Ok:=logsK_ok (curN_ok h 8) _
theorem logD_pl (c:GCur):LPl (logD c).1:=(logS_pl c 3).get _
theorem logD_ok {c:GCur} (h:c.Ok):(logD c).2.Ok:=curN_ok (logS_ok h 3) 3
@[simp] def h325:Hts:={ merge:=fun _ => false,own:=fun d => !(d == 8),lend:=fun f => if f = 117 || f = 226 then [.box []] else [] }
set_option maxHeartbeats 4000000 in
theorem f325_ok (c:GCur) (hc:c.Ok):FnW Tryz.prog 325 [.ptr [.im c.b.length (flat c.b),.int .i64 c.i,.int .i64 c.h]] (.agg [.int .i64 ((logD c).1).rep,.int .i64 ((logD c).1).time,.im ((logD c).1).state.know.length (flat ((logD c).1).state.know),.im ((logD c).1).state.tallies.length (flat ((logD c).1).state.tallies),.im ((logD c).1).state.lives.length (flat ((logD c).1).state.lives),.im ((logD c).1).state.cs.length (flat ((logD c).1).state.cs),.im ((logD c).1).units.length (flat ((logD c).1).units),.im ((logD c).1).waits.length (flat ((logD c).1).waits)]) [.ptr [.im ((logD c).2).b.length (flat ((logD c).2).b),.int .i64 ((logD c).2).i,.int .i64 ((logD c).2).h]]:=by
  obtain ⟨n1,n2⟩:=logN_le c (m:=3) (by decide) (by decide)
  have hb:=curN_bd c (n:=8) (by decide)
  have w:IntKind.i64.wrap (3 + (curN c 8).1) = (logN c 3:Int):=by rw [wrap64 (by omega) (by omega)]; omega
  have hS:=logS_ok hc 3
  obtain ⟨r,hr,hr3⟩:∃ r:Nat,(curN (logS c 3).c 3).1 = r ∧ r < 3:=⟨(curN (logS c 3).c 3).1.toNat,by have:=curN_bd (logS c 3).c (n:=3) (by decide); omega,by have:=curN_bd (logS c 3).c (n:=3) (by decide); omega⟩
  have eD:logD c = (nth (listL (logS c 3).lg) r,(curN (logS c 3).c 3).2):=by rw [logD,hr,listL_get _ hr3]
  refine FnW.of_AW TryzT_ok 1 (fn:=Tryz.f325) (by kernel_rfl) rfl (by kernel_rfl) rfl rfl rfl ?_; refine AW_of h325 TryzT_ok (by kernel_rfl) ?_
  simp -dsimp
  refine ACallW_go ?_
  refine ACallC_go (fun us => f117_ok c hc 8) ?_
  simp -dsimp [w]
  refine ACallW_go ?_
  refine ACallC_go (fun us => f226_ok (curN c 8).2 (curN_ok hc 8) (logN c 3) (by omega)) ?_
  have hdl:logsK (curN c 8).2 (logN c 3) = logS c 3:=rfl
  rw [hdl,eD]
  generalize logS c 3 = a at *
  have hrl:r < (listL a.lg).length:=hr3
  have hr3':(r:Int) < 3:=by omega
  simp -dsimp [flat_frzO]
  refine ACallW_go ?_
  refine ACallC_go (fun us => f117_ok a.c hS 3) ?_
  rw [hr]
  have hne:(listL a.lg = []) = False:=eq_false (by simp [listL])
  simp -dsimp [hrl,hr3',hne]
def laK (c:GCur):Int × GCur:=curN c 14
def laY (c:GCur):Int × GCur:=curN (laK c).2 60
def laL (c:GCur):GLog × GCur:=logD (laY c).2
def timeY (y:Int):Int:=if y.tmod 3 = 0 then 0 else if y.tmod 3 = 1 then 10000 else 10001
def logA (c:GCur):GLog × GCur :=
  if (laK c).1 = 0 then ({ (laL c).1 with rep:=(laY c).1.tmod 5 - 1 },(laL c).2)
  else if (laK c).1 = 1 then ({ (laL c).1 with time:=timeY (laY c).1 },(laL c).2)
  else if (laK c).1 = 2 then ({ (laL c).1 with waits:=(laL c).1.waits ++ [actU (anyA (laL c).2).1] },(anyA (laL c).2).2)
  else if (laK c).1 = 3 then ({ (laL c).1 with units:=(laL c).1.units ++ [actU (anyA (laL c).2).1] },(anyA (laL c).2).2)
  else if (laK c).1 = 4 then ({ (laL c).1 with state:=(anyD (laL c).2).1 },(anyD (laL c).2).2)
  else ((laL c).1,(laL c).2)
theorem laL_pl (c:GCur):LPl (laL c).1:=logD_pl _
theorem laL_ok {c:GCur} (h:c.Ok):(laL c).2.Ok:=logD_ok (curN_ok (curN_ok h _) _)
theorem actU_Ok {a:GAct} (h:a.Ok):(actU a).Ok:=⟨h,zeroDelta_Ok⟩
theorem logA_Ok (c:GCur):(logA c).1.Ok:=by
  have hL:=laL_pl c
  have h:=hL.ok
  have l1:=hL.u
  have l2:=hL.w
  simp only [GLog.Ok] at h
  obtain ⟨h0,h1,h2,h3,h4⟩:=h
  unfold logA
  simp only [GLog.Ok]
  split
  · exact ⟨h0,h1,h2,h3,h4⟩
  split
  · exact ⟨h0,h1,h2,h3,h4⟩
  split
  · refine ⟨h0,h1,h2,by simp only [List.length_append,List.length_singleton]; omega,fun y hy => ?_⟩
    rcases List.mem_append.1 hy with hy | hy
    · exact h4 y hy
    · rw [List.mem_singleton.1 hy]; exact actU_Ok (anyA_Ok _)
  split
  · refine ⟨h0,by simp only [List.length_append,List.length_singleton]; omega,fun y hy => ?_,h3,h4⟩
    rcases List.mem_append.1 hy with hy | hy
    · exact h2 y hy
    · rw [List.mem_singleton.1 hy]; exact actU_Ok (anyA_Ok _)
  split
  · exact ⟨anyD_Ok _,h1,h2,h3,h4⟩
  · exact ⟨h0,h1,h2,h3,h4⟩
@[simp] def h219:Hts:={ merge:=fun _ => false,mergeF:=fun _ => false,own:=fun d => !(d == 11 || d == 33 || d == 43 || d == 51),lend:=fun f => if f = 117 || f = 325 || f = 318 || f = 131 then [.box []] else [],dr:=fun id => if id = 10 then [{ mn:=[640000],mb:=[33,35] },{ mn:=[640000],mb:=[33,35] },{},{ wr:=[640000],cr:=true },{},{ cr:=true },{ wr:=[1984,775],cr:=true },{ wr:=[320] },{ wr:=[320] }] else if id = 12 then [{ mn:=[640000],mb:=[43,45] },{ mn:=[640000],mb:=[43,45] },{},{ wr:=[640000],cr:=true },{},{ cr:=true },{ wr:=[2624,774],cr:=true },{ wr:=[320] },{ wr:=[320] }] else [] }
set_option maxHeartbeats 16000000 in
theorem anyLogS (c:GCur) (hc:c.Ok):FnW Tryz.prog 219 [.ptr [.im c.b.length (flat c.b),.int .i64 c.i,.int .i64 c.h]] (.agg [.int .i64 (logA c).1.rep,.int .i64 (logA c).1.time,.im ((logA c).1.state).know.length (flat ((logA c).1.state).know),.im ((logA c).1.state).tallies.length (flat ((logA c).1.state).tallies),.im ((logA c).1.state).lives.length (flat ((logA c).1.state).lives),.im ((logA c).1.state).cs.length (flat ((logA c).1.state).cs),.ow 99 17 (logA c).1.units.length (flat (logA c).1.units),.ow 99 17 (logA c).1.waits.length (flat (logA c).1.waits)]) [.ptr [.im ((logA c).2).b.length (flat ((logA c).2).b),.int .i64 ((logA c).2).i,.int .i64 ((logA c).2).h]]:=by
  have c2:(laK c).2.Ok:=curN_ok hc 14
  have c3:(laY c).2.Ok:=curN_ok c2 60
  have c4:=laL_ok hc
  have hL:=laL_pl c
  have hO:=hL.ok
  have l1:=hL.u
  have l2:=hL.w
  have ky:=curN_bd (laK c).2 (n:=60) (by decide)
  have hy:0 ≤ (laY c).1 ∧ (laY c).1 < 60:=ky
  have hk:0 ≤ (laK c).1 ∧ (laK c).1 < 14:=curN_bd c (n:=14) (by decide)
  refine FnW.of_AW TryzT_ok 1 (fn:=Tryz.f219) (by kernel_rfl) rfl (by kernel_rfl) rfl rfl rfl ?_; refine AW_of h219 TryzT_ok (by kernel_rfl) ?_
  simp -dsimp
  refine ACallW_go ?_
  refine ACallC_go (fun us => f117_ok c hc 14) ?_
  rw [show curN c 14 = laK c from rfl]
  simp -dsimp
  refine ACallW_go ?_
  refine ACallC_go (fun us => f117_ok (laK c).2 c2 60) ?_
  rw [show curN (laK c).2 60 = laY c from rfl]
  simp -dsimp
  refine ACallW_go ?_
  refine ACallC_go (fun us => f325_ok (laY c).2 c3) ?_
  rw [show logD (laY c).2 = laL c from rfl]
  simp -dsimp
  refine ACallK_of (copyLogS (laL c).1 hO) ?_
  have hkc:(laK c).1 = 0 ∨ (laK c).1 = 1 ∨ (laK c).1 = 2 ∨ (laK c).1 = 3 ∨ (laK c).1 = 4 ∨ 5 ≤ (laK c).1:=by omega
  unfold logA
  generalize laL c = L at *
  generalize laY c = Y at *
  generalize laK c = K at *
  obtain ⟨L,d⟩:=L
  obtain ⟨Y,e⟩:=Y
  obtain ⟨K,f⟩:=K
  simp only at hy hk hkc c4 l1 l2
  rcases hkc with rfl | rfl | rfl | rfl | rfl | hk5
  · have t1:=tmod_bd hy.1 (n:=5) (by decide)
    have w1:IntKind.i64.wrap (Y.tmod 5 - 1) = Y.tmod 5 - 1:=wrap64 (by omega) (by omega)
    simp -dsimp [w1]
  · have t1:=tmod_bd hy.1 (n:=3) (by decide)
    obtain q | q | q:Y.tmod 3 = 0 ∨ Y.tmod 3 = 1 ∨ Y.tmod 3 = 2:=by omega
    · simp -dsimp [q]
      simp [timeY,q]
    · simp -dsimp [q]
      simp [timeY,q]
    · simp -dsimp [q]
      simp [timeY,q]
  · simp -dsimp
    refine ACallW_go ?_
    refine ACallC_go (fun us => f318_ok d c4) ?_
    simp -dsimp
    refine ⟨by simp [capMax]; omega,?_⟩
    rw [flat_append]
    simp [actU,zeroDelta]
    rfl
  · simp -dsimp
    refine ACallW_go ?_
    refine ACallC_go (fun us => f318_ok d c4) ?_
    simp -dsimp
    refine ⟨by simp [capMax]; omega,?_⟩
    rw [flat_append]
    simp [actU,zeroDelta]
    rfl
  · simp -dsimp
    refine ACallW_go ?_
    refine ACallC_go (fun us => f131_ok d c4) ?_
    simp -dsimp
  · have n0:¬ K = 0:=by omega
    have n1:¬ K = 1:=by omega
    have n2:¬ K = 2:=by omega
    have n3:¬ K = 3:=by omega
    have n4:¬ K = 4:=by omega
    have m0:(K == 0) = false:=by simp [n0]
    have m1:(K == 1) = false:=by simp [n1]
    have m2:(K == 2) = false:=by simp [n2]
    have m3:(K == 3) = false:=by simp [n3]
    have m4:(K == 4) = false:=by simp [n4]
    simp -dsimp [m0,m1,m2,m3,m4]
    simp [n0,n1,n2,n3,n4]
theorem f219_ok (c:GCur) (hc:c.Ok):FnW Tryz.prog 219 [.ptr [.im c.b.length (flat c.b),.int .i64 c.i,.int .i64 c.h]] (.agg [.int .i64 ((logA c).1).rep,.int .i64 ((logA c).1).time,.im ((logA c).1).state.know.length (flat ((logA c).1).state.know),.im ((logA c).1).state.tallies.length (flat ((logA c).1).state.tallies),.im ((logA c).1).state.lives.length (flat ((logA c).1).state.lives),.im ((logA c).1).state.cs.length (flat ((logA c).1).state.cs),.im ((logA c).1).units.length (flat ((logA c).1).units),.im ((logA c).1).waits.length (flat ((logA c).1).waits)]) [.ptr [.im ((logA c).2).b.length (flat ((logA c).2).b),.int .i64 ((logA c).2).i,.int .i64 ((logA c).2).h]]:=by
  have:=FnW.wk [[0,0,0,0,0,0,1,1]] (anyLogS c hc)
  simp [wkR,wkC,wkPs,wkP,frz,flat_frzO] at this
  exact this
end Am
namespace Am
open Go Go.Proofs
open Cel (cells)
set_option maxRecDepth 100000
end Am
namespace Am
open Go Go.Proofs
open Cel (cells)
set_option maxRecDepth 100000
def txtK (c:GCur):Nat → List UInt8 × GCur
  | 0 => ([],c)
  | i + 1 => ((txtK c i).1 ++ [u8 (curB (txtK c i).2).1],(curB (txtK c i).2).2)
theorem txtK_len (c:GCur):∀ i,(txtK c i).1.length = i
  | 0 => rfl
  | i + 1 => by simp [txtK,txtK_len c i]
theorem txtK_ok {c:GCur} (h:c.Ok):∀ i,(txtK c i).2.Ok
  | 0 => h
  | i + 1 => curB_ok (txtK_ok h i)
@[simp] def h310:Hts:={ merge:=fun _ => false,lend:=fun f => if f = 116 then [.box []] else [] }
set_option maxHeartbeats 2000000 in
theorem f310_ok (c:GCur) (hc:c.Ok) (n:Nat) (hn:n ≤ 5000):FnW Tryz.prog 310 [.ptr [.im c.b.length (flat c.b),.int .i64 c.i,.int .i64 c.h],.v (.int .i64 n)] (.v (.str (str (txtK c n).1))) [.ptr [.im ((txtK c n).2).b.length (flat ((txtK c n).2).b),.int .i64 ((txtK c n).2).i,.int .i64 ((txtK c n).2).h],.any]:=by
  have hn':¬ (5000:Int) < n:=by omega
  refine FnW.of_AW TryzT_ok 1 (fn:=Tryz.f310) (by kernel_rfl) rfl (by kernel_rfl) rfl rfl rfl ?_; refine AW_of h310 TryzT_ok (by kernel_rfl) ?_
  simp -dsimp [hn']
  refine AWh_loop (fun i:Nat => i ≤ n) (fun i => mkE [(0,.box 640000 0),(1,.c (.int .i64 n)),(5,.arr 576),(6,.c (.int .i64 i))] [(640000,.box [.c (.im ((txtK c i).2).b.length (flat ((txtK c i).2).b)),.c (.int .i64 ((txtK c i).2).i),.c (.int .i64 ((txtK c i).2).h)]),(576,.arr 0 5 1 i (flat (txtK c i).1))]) (fun i => n - i) 0 (Wk_to [0,1,5,6] [(640000,640000),(576,576)] rfl rfl (by simp [txtK])) (by simp) ?_
  rintro i hi
  refine AW_of h310 TryzT_ok (by kernel_rfl) ?_
  have wi:IntKind.i64.wrap ((i:Int) + 1) = i + 1:=wrap64 (by omega) (by omega)
  rcases Nat.lt_or_ge i n with h1 | h1
  · have h1':(i:Int) < n:=by omega
    simp -dsimp [h1']
    refine ACallW_go ?_
    refine ACallC_go (fun us => f116_ok (txtK c i).2 (txtK_ok hc i)) ?_
    simp -dsimp [wi]
    refine ⟨by simp [capMax]; omega,?_⟩
    exact Back_of (i + 1) [0,1,5,6] [(640000,640000),(576,1280)] rfl rfl (by simp [txtK]) (by omega) (by omega)
  · obtain rfl:i = n:=by omega
    simp -dsimp
    exact ⟨txtK_len c i,rfl⟩
def spK (c:GCur):Int × GCur:=curN c 12
def spT (c:GCur):ByteArray × GCur:=(str (txtK c 1).1,(txtK c 1).2)
def spoil (c:GCur) (s:ByteArray):ByteArray × GCur :=
  if (spK c).1 = 0 then (s ++ (spT (spK c).2).1,(spT (spK c).2).2)
  else if (spK c).1 = 1 then (s.extract 0 (curN (spK c).2 ((s.size:Int) + 1)).1.toNat,(curN (spK c).2 ((s.size:Int) + 1)).2)
  else if ((spK c).1 = 2 ∨ (spK c).1 = 3) ∧ 0 < s.size then
    (s.extract 0 (curN (spK c).2 s.size).1.toNat ++ (spT (curN (spK c).2 s.size).2).1 ++ s.extract ((curN (spK c).2 s.size).1.toNat + 1) s.size,(spT (curN (spK c).2 s.size).2).2)
  else (s,(spK c).2)
theorem spT_size (c:GCur):(spT c).1.size = 1:=by simp [spT,txtK_len]
theorem spoil_size (c:GCur) (s:ByteArray):(spoil c s).1.size ≤ s.size + 1:=by
  have h1:=spT_size (spK c).2
  have h2:=spT_size (curN (spK c).2 s.size).2
  unfold spoil
  split
  · simp only [ByteArray.size_append]; omega
  split
  · simp only [ByteArray.size_extract]; omega
  split
  · rename_i hc
    have hb:=curN_bd (spK c).2 (n:=(s.size:Int)) (by omega)
    simp only [ByteArray.size_append,ByteArray.size_extract]; omega
  · simp only; omega
@[simp] def h193:Hts:={ merge:=fun _ => false,mergeF:=fun _ => false,lend:=fun f => if f = 117 || f = 310 then [.box []] else [],dr:=fun id => if id = 10 then [{ mn:=[640000],mb:=[37,42] },{ mn:=[640000],mb:=[37,42] },{ mn:=[640000],cr:=true,mb:=[37,42] },{ mb:=[35,42] },{ wr:=[640000],cr:=true,mb:=[35,42] },{ mb:=[42] },{ mn:=[640000],mb:=[35,37] },{ mn:=[640000],mb:=[35,37] },{ mn:=[640000],mb:=[35,37] },{ mn:=[640000],cr:=true,mb:=[35,37] },{},{}] else [] }
set_option maxHeartbeats 8000000 in
theorem f193_ok (c:GCur) (hc:c.Ok) (s:ByteArray) (hs:s.size ≤ 1000000):FnW Tryz.prog 193 [.ptr [.im c.b.length (flat c.b),.int .i64 c.i,.int .i64 c.h],.v (.str s)] (.v (.str ((spoil c s).1))) [.ptr [.im ((spoil c s).2).b.length (flat ((spoil c s).2).b),.int .i64 ((spoil c s).2).i,.int .i64 ((spoil c s).2).h],.any]:=by
  have hk:(spK c).2.Ok:=curN_ok hc 12
  have kb:=curN_bd c (n:=12) (by decide)
  have hkb:0 ≤ (spK c).1 ∧ (spK c).1 < 12:=kb
  have hw:IntKind.i64.wrap ((s.size:Int) + 1) = (s.size:Int) + 1:=wrap64 (by omega) (by omega)
  have ht:=f310_ok
  refine FnW.of_AW TryzT_ok 1 (fn:=Tryz.f193) (by kernel_rfl) rfl (by kernel_rfl) rfl rfl rfl ?_; refine AW_of h193 TryzT_ok (by kernel_rfl) ?_
  simp -dsimp
  refine ACallW_go ?_
  refine ACallC_go (fun us => f117_ok c hc 12) ?_
  rw [show curN c 12 = spK c from rfl]
  by_cases k0:(spK c).1 = 0
  · simp -dsimp [k0]
    refine ACallW_go ?_
    refine ACallC_go (fun us => f310_ok (spK c).2 hk 1 (by omega)) ?_
    have e:spoil c s = (s ++ str (txtK (spK c).2 1).1,(txtK (spK c).2 1).2):=by simp [spoil,k0,spT]
    have hl:=txtK_len (spK c).2 1
    simp -dsimp
    refine ⟨by simp [capMax]; omega,?_⟩
    simp [e]
  have k0b:((spK c).1 == 0) = false:=by simp [k0]
  by_cases k1:(spK c).1 = 1
  · have hb:=curN_bd (spK c).2 (n:=(s.size:Int) + 1) (by omega)
    have e:spoil c s = (s.extract 0 (curN (spK c).2 ((s.size:Int) + 1)).1.toNat,(curN (spK c).2 ((s.size:Int) + 1)).2):=by simp [spoil,k1]
    simp -dsimp [k1,hw]
    refine ACallW_go ?_
    refine ACallC_go (fun us => f117_ok (spK c).2 hk ((s.size:Int) + 1)) ?_
    rw [e]
    generalize curN (spK c).2 ((s.size:Int) + 1) = Q at *
    simp -dsimp
    first
      | (refine ⟨by omega,by omega,?_⟩; simp; done)
      | (refine ⟨by omega,by omega⟩; done)
  have k1b:((spK c).1 == 1) = false:=by simp [k1]
  by_cases k2:((spK c).1 = 2 ∨ (spK c).1 = 3) ∧ 0 < s.size
  · obtain ⟨k23,hpos⟩:=k2
    have hb:=curN_bd (spK c).2 (n:=(s.size:Int)) (by omega)
    have e:spoil c s = (s.extract 0 (curN (spK c).2 s.size).1.toNat ++ str (txtK (curN (spK c).2 s.size).2 1).1 ++ s.extract ((curN (spK c).2 s.size).1.toNat + 1) s.size,(txtK (curN (spK c).2 s.size).2 1).2):=by simp [spoil,k0,k1,k23,hpos,spT]
    have hQo:(curN (spK c).2 s.size).2.Ok:=curN_ok hk _
    have hpos':(0:Int) < s.size:=by omega
    rw [e]
    generalize hQ:curN (spK c).2 (s.size:Int) = Q at *
    obtain ⟨q,d⟩:=Q
    obtain ⟨n,rfl⟩:=Int.eq_ofNat_of_zero_le hb.1
    simp only at hb hQo
    have hl:=txtK_len d 1
    have wn:IntKind.i64.wrap ((n:Int) + 1) = n + 1:=wrap64 (by omega) (by omega)
    have tail:∀ (h:0 < s.size),True:=fun _ => trivial
    rcases k23 with k2 | k2
    · simp -dsimp [k2,hpos',hpos]
      refine ACallW_go ?_
      refine ACallC_go (fun us => f117_ok (spK c).2 hk (s.size:Int)) ?_
      rw [hQ]
      simp -dsimp [wn]
      refine ⟨by omega,?_⟩
      refine ACallW_go ?_
      refine ACallC_go (fun us => f310_ok d hQo 1 (by omega)) ?_
      simp -dsimp [wn]
      exact ⟨by simp only [capMax]; omega,⟨by omega,by omega⟩,by simp only [capMax]; omega⟩
    · simp -dsimp [k2,hpos',hpos]
      refine ACallW_go ?_
      refine ACallC_go (fun us => f117_ok (spK c).2 hk (s.size:Int)) ?_
      rw [hQ]
      simp -dsimp [wn]
      refine ⟨by omega,?_⟩
      refine ACallW_go ?_
      refine ACallC_go (fun us => f310_ok d hQo 1 (by omega)) ?_
      simp -dsimp [wn]
      exact ⟨by simp only [capMax]; omega,⟨by omega,by omega⟩,by simp only [capMax]; omega⟩
  · have e:spoil c s = (s,(spK c).2):=by simp only [spoil,if_neg k0,if_neg k1,if_neg k2]
    by_cases k3:(spK c).1 = 2
    · have hz:s.size = 0:=by
        have:¬ 0 < s.size:=fun h => k2 ⟨.inl k3,h⟩
        omega
      have hz':¬ (0:Int) < s.size:=by omega
      simp -dsimp [k3,hz',hz]
      simp [e]
    by_cases k4:(spK c).1 = 3
    · have hz:s.size = 0:=by
        have:¬ 0 < s.size:=fun h => k2 ⟨.inr k4,h⟩
        omega
      have hz':¬ (0:Int) < s.size:=by omega
      simp -dsimp [k4,hz',hz]
      simp [e]
    have k3b:((spK c).1 == 2) = false:=by simp [k3]
    have k4b:((spK c).1 == 3) = false:=by simp [k4]
    simp -dsimp [k0b,k1b,k3b,k4b]
    simp [e]
end Am
namespace Am
open Go Go.Proofs
open Cel (cells)
set_option maxRecDepth 100000
@[simp] def h73:Hts:={ merge:=fun _ => false,own:=fun d => !(d == 5),lend:=fun f => if f = 207 then [.box []] else [] }
theorem f73_ok (b:List UInt8) (hb:b.length ≤ 1048576):FnR Tryz.prog 73 [.v (.im b.length (flat b))] (.agg [.bool ((anyU (curNew b)).1).batch,.int .i64 ((anyU (curNew b)).1).act.dot.rep,.int .i64 ((anyU (curNew b)).1).act.dot.seq,.int .i64 ((anyU (curNew b)).1).act.time,.im ((anyU (curNew b)).1).act.knew.length (flat ((anyU (curNew b)).1).act.knew),.int .i64 ((anyU (curNew b)).1).act.kind,.str ((anyU (curNew b)).1).act.obj,.str ((anyU (curNew b)).1).act.key,.int .i64 ((anyU (curNew b)).1).act.val,.int .i64 ((anyU (curNew b)).1).act.ref.rep,.int .i64 ((anyU (curNew b)).1).act.ref.seq,.im ((anyU (curNew b)).1).delta.base.length (flat ((anyU (curNew b)).1).delta.base),.im ((anyU (curNew b)).1).delta.know.length (flat ((anyU (curNew b)).1).delta.know),.im ((anyU (curNew b)).1).delta.tallies.length (flat ((anyU (curNew b)).1).delta.tallies),.im ((anyU (curNew b)).1).delta.lives.length (flat ((anyU (curNew b)).1).delta.lives),.im ((anyU (curNew b)).1).delta.dead.length (flat ((anyU (curNew b)).1).delta.dead),.im ((anyU (curNew b)).1).delta.cs.length (flat ((anyU (curNew b)).1).delta.cs)]):=by
  refine FnW.of_AW TryzT_ok 0 (fn:=Tryz.f73) (by kernel_rfl) rfl (by kernel_rfl) rfl rfl rfl ?_; refine AW_of h73 TryzT_ok (by kernel_rfl) ?_
  simp -dsimp
  refine ACallK_of (f115_ok b hb) ?_
  simp -dsimp
  refine ACallW_go ?_
  refine ACallC_go (fun us => f207_ok (curNew b) (curNew_ok hb)) ?_
  simp -dsimp
@[simp] def h79:Hts:={ merge:=fun _ => false,own:=fun d => !(d == 5),lend:=fun f => if f = 207 then [.box []] else [] }
theorem f79_ok (b:List UInt8) (hb:b.length ≤ 1048576):FnR Tryz.prog 79 [.v (.im b.length (flat b))] (.agg [.bool ((anyU (curNew b)).1).batch,.int .i64 ((anyU (curNew b)).1).act.dot.rep,.int .i64 ((anyU (curNew b)).1).act.dot.seq,.int .i64 ((anyU (curNew b)).1).act.time,.im ((anyU (curNew b)).1).act.knew.length (flat ((anyU (curNew b)).1).act.knew),.int .i64 ((anyU (curNew b)).1).act.kind,.str ((anyU (curNew b)).1).act.obj,.str ((anyU (curNew b)).1).act.key,.int .i64 ((anyU (curNew b)).1).act.val,.int .i64 ((anyU (curNew b)).1).act.ref.rep,.int .i64 ((anyU (curNew b)).1).act.ref.seq,.im ((anyU (curNew b)).1).delta.base.length (flat ((anyU (curNew b)).1).delta.base),.im ((anyU (curNew b)).1).delta.know.length (flat ((anyU (curNew b)).1).delta.know),.im ((anyU (curNew b)).1).delta.tallies.length (flat ((anyU (curNew b)).1).delta.tallies),.im ((anyU (curNew b)).1).delta.lives.length (flat ((anyU (curNew b)).1).delta.lives),.im ((anyU (curNew b)).1).delta.dead.length (flat ((anyU (curNew b)).1).delta.dead),.im ((anyU (curNew b)).1).delta.cs.length (flat ((anyU (curNew b)).1).delta.cs)]):=by
  refine FnW.of_AW TryzT_ok 0 (fn:=Tryz.f79) (by kernel_rfl) rfl (by kernel_rfl) rfl rfl rfl ?_; refine AW_of h79 TryzT_ok (by kernel_rfl) ?_
  simp -dsimp
  refine ACallK_of (f115_ok b hb) ?_
  simp -dsimp
  refine ACallW_go ?_
  refine ACallC_go (fun us => f207_ok (curNew b) (curNew_ok hb)) ?_
  simp -dsimp
theorem sealS_size (t:ByteArray):(sealS t).size ≤ 20004:=by
  unfold sealS
  split
  · simp only [ByteArray.size_append,fourS_size]; omega
  · exact Nat.zero_le _
theorem unitText_size (u:GUnit):(unitText u).size ≤ 20004:=by
  unfold unitText
  split
  · exact sealS_size _
  · exact Nat.zero_le _
def garble (k:Int) (c:GCur) (s:ByteArray):ByteArray :=
  if k = 0 then (spoil c s).1 else if k = 1 ∧ unOk s = true then sealS (spoil c (unS s)).1 else s
theorem garble_size (k:Int) (c:GCur) {s:ByteArray} (h:s.size ≤ 20004):(garble k c s).size ≤ 20005:=by
  have h1:=spoil_size c s
  have h2:=sealS_size (spoil c (unS s)).1
  unfold garble
  split
  · omega
  split <;> omega
def druK (b:List UInt8):Int × GCur:=curN (curNew b) 5
def druU (b:List UInt8):GUnit × GCur:=anyU (druK b).2
def druT (b:List UInt8):ByteArray:=garble (druK b).1 (druU b).2 (unitText (druU b).1)
@[simp] def h77:Hts:={ merge:=fun _ => false,mergeF:=fun _ => false,own:=fun d => !(d == 15),lend:=fun f => if f = 117 || f = 207 || f = 193 then [.box []] else [] }
set_option maxHeartbeats 4000000 in
theorem f77_ok (b:List UInt8) (hb:b.length ≤ 1048576):FnR Tryz.prog 77 [.v (.im b.length (flat b))] (.v (.str (druT b))):=by
  have h:=curNew_ok hb
  have hK:(druK b).2.Ok:=curN_ok h 5
  have hU:(druU b).2.Ok:=anyU_ok hK
  have hO:(druU b).1.Ok:=anyU_Ok hK
  have hz:=unitText_size (druU b).1
  have hus:=unS_size (unitText (druU b).1)
  have hsp:=spoil_size (druU b).2 (unS (unitText (druU b).1))
  refine FnW.of_AW TryzT_ok 0 (fn:=Tryz.f77) (by kernel_rfl) rfl (by kernel_rfl) rfl rfl rfl ?_; refine AW_of h77 TryzT_ok (by kernel_rfl) ?_
  simp -dsimp
  refine ACallK_of (f115_ok b hb) ?_
  simp -dsimp
  refine ACallW_go ?_
  refine ACallC_go (fun us => f117_ok (curNew b) h 5) ?_
  rw [show curN (curNew b) 5 = druK b from rfl]
  simp -dsimp
  refine ACallW_go ?_
  refine ACallC_go (fun us => f207_ok (druK b).2 hK) ?_
  rw [show anyU (druK b).2 = druU b from rfl]
  simp -dsimp
  refine ACallK_of (f75_ok _ hO) ?_
  by_cases k0:(druK b).1 = 0
  · simp -dsimp [k0]
    refine ACallW_go ?_
    refine ACallC_go (fun us => f193_ok (druU b).2 hU (unitText (druU b).1) (by omega)) ?_
    simp -dsimp
    simp [druT,garble,k0]
  have k0b:((druK b).1 == 0) = false:=by simp [k0]
  by_cases k1:(druK b).1 = 1
  · simp -dsimp [k1]
    refine ACallK_of (f194_ok _ (by omega)) ?_
    cases q:unOk (unitText (druU b).1)
    · simp -dsimp
      simp [druT,garble,k1,q]
    · simp -dsimp
      refine ACallW_go ?_
      refine ACallC_go (fun us => f193_ok (druU b).2 hU (unS (unitText (druU b).1)) (by omega)) ?_
      simp -dsimp
      refine ACallK_of (f195_ok _ (by omega)) ?_
      simp -dsimp
      simp [druT,garble,k1,q]
  have k1b:((druK b).1 == 1) = false:=by simp [k1]
  simp -dsimp [k0b,k1b]
  simp [druT,garble,k0,k1]
def kn3:List Int:=[-1,1000,1001]
def knA (c:GCur):List Int × GCur :=
  if (curN c 12).1 = 0 then ((drawsK (curN c 12).2 5 3).1 ++ [1],(drawsK (curN c 12).2 5 3).2)
  else if (curN c 12).1 = 1 then ((drawsK (curN c 12).2 5 3).1.set 0 (curPick (drawsK (curN c 12).2 5 3).2 kn3).1,(curPick (drawsK (curN c 12).2 5 3).2 kn3).2)
  else ((drawsK (curN c 12).2 5 3).1,(drawsK (curN c 12).2 5 3).2)
theorem knA_ok {c:GCur} (h:c.Ok):(knA c).2.Ok:=by
  have h1:=drawsK_ok (curN_ok h 12) 5 3
  unfold knA
  split
  · exact h1
  split
  · exact curPick_ok h1 _
  · exact h1
theorem knA_len (c:GCur):(knA c).1.length ≤ 4:=by
  have h1:=drawsK_len (curN c 12).2 5 3
  unfold knA
  split
  · simp only [List.length_append,List.length_singleton]; omega
  split
  · simp only [List.length_set]; omega
  · simp only; omega
@[simp] def h218:Hts:={ merge:=fun _ => false,mergeF:=fun _ => false,lend:=fun f => if f = 117 || f = 324 then [.box []] else if f = 160 then [.box [],.lend] else [] }
set_option maxHeartbeats 4000000 in
theorem f218_ok (c:GCur) (hc:c.Ok):FnW Tryz.prog 218 [.ptr [.im c.b.length (flat c.b),.int .i64 c.i,.int .i64 c.h]] (.v (.ow 3 1 ((knA c).1).length (flat ((knA c).1)))) [.ptr [.im ((knA c).2).b.length (flat ((knA c).2).b),.int .i64 ((knA c).2).i,.int .i64 ((knA c).2).h]]:=by
  have c2:=curN_ok hc 12
  have hl:=drawsK_len (curN c 12).2 5 3
  have hd:=drawsK_ok c2 5 3
  refine FnW.of_AW TryzT_ok 1 (fn:=Tryz.f218) (by kernel_rfl) rfl (by kernel_rfl) rfl rfl rfl ?_; refine AW_of h218 TryzT_ok (by kernel_rfl) ?_
  simp -dsimp
  refine ACallW_go ?_
  refine ACallC_go (fun us => f117_ok c hc 12) ?_
  simp -dsimp
  refine ACallW_go ?_
  refine ACallC_go (fun us => f324_ok (curN c 12).2 c2) ?_
  unfold knA
  generalize drawsK (curN c 12).2 5 3 = d at *
  by_cases k0:(curN c 12).1 = 0
  · simp -dsimp [k0]
    exact (by simp only [capMax]; omega)
  have k0b:((curN c 12).1 == 0) = false:=by simp [k0]
  by_cases k1:(curN c 12).1 = 1
  · have hp:0 < d.1.length:=by omega
    have hn:d.1 ≠ []:=List.length_pos_iff.1 hp
    simp -dsimp [k1]
    refine ACallW_go ?_
    refine ACallC_go (fun us => f160_ok d.2 hd kn3 (by simp [kn3])) ?_
    simp -dsimp [hp,hn]
    refine ⟨by omega,?_⟩
    simp [k1]
  have k1b:((curN c 12).1 == 1) = false:=by simp [k1]
  simp -dsimp [k0b,k1b]
  simp [k0,k1]
@[simp] def h80:Hts:={ merge:=fun _ => false,own:=fun d => !(d == 11),lend:=fun f => if f = 218 || f = 219 then [.box []] else [] }
set_option maxHeartbeats 2000000 in
theorem f80_ok (b:List UInt8) (hb:b.length ≤ 1048576):FnR Tryz.prog 80 [.v (.im b.length (flat b))] (.tup [.agg [.int .i64 ((logA (knA (curNew b)).2).1).rep,.int .i64 ((logA (knA (curNew b)).2).1).time,.im ((logA (knA (curNew b)).2).1).state.know.length (flat ((logA (knA (curNew b)).2).1).state.know),.im ((logA (knA (curNew b)).2).1).state.tallies.length (flat ((logA (knA (curNew b)).2).1).state.tallies),.im ((logA (knA (curNew b)).2).1).state.lives.length (flat ((logA (knA (curNew b)).2).1).state.lives),.im ((logA (knA (curNew b)).2).1).state.cs.length (flat ((logA (knA (curNew b)).2).1).state.cs),.im ((logA (knA (curNew b)).2).1).units.length (flat ((logA (knA (curNew b)).2).1).units),.im ((logA (knA (curNew b)).2).1).waits.length (flat ((logA (knA (curNew b)).2).1).waits)],.v (.ow 3 1 ((knA (curNew b)).1).length (flat ((knA (curNew b)).1)))]):=by
  have h:=curNew_ok hb
  refine FnW.of_AW TryzT_ok 0 (fn:=Tryz.f80) (by kernel_rfl) rfl (by kernel_rfl) rfl rfl rfl ?_; refine AW_of h80 TryzT_ok (by kernel_rfl) ?_
  simp -dsimp
  refine ACallK_of (f115_ok b hb) ?_
  simp -dsimp
  refine ACallW_go ?_
  refine ACallC_go (fun us => f218_ok (curNew b) h) ?_
  simp -dsimp
  refine ACallW_go ?_
  refine ACallC_go (fun us => f219_ok (knA (curNew b)).2 (knA_ok h)) ?_
  simp -dsimp
end Am
