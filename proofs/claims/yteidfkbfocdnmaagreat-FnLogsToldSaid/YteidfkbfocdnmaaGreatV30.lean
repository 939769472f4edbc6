/- Drawn: a log,right or not; a unit,right or not. No condition. -/
import Derived.Test.YteidfkbfocdnmaaGreatT
import Derived.Test.YteidfkbfocdnmaaGreatD
import Derived.Test.YteidfkbfocdnmaaGreatV20
import Derived.Test.YteidfkbfocdnmaaGreatV7
import Derived.Test.YteidfkbfocdnmaaGreatV1
import Derived.Test.YteidfkbfocdnmaaGreatV11
set_option linter.unusedSimpArgs false
set_option linter.unusedVariables false
set_option linter.unnecessarySimpa false
set_option linter.unusedSectionVars false
namespace Am
open Go Go.Proofs
open Cel (cells)
set_option maxRecDepth 100000
def anyU (c : GCur) : GUnit × GCur :=
  if ((curN c 3).1 == 0) = true then (⟨true,zeroAct,(anyDl (curN c 3).2).1⟩,(anyDl (curN c 3).2).2)
  else if ((curN (anyA (curN c 3).2).2 12).1 == 0) = true then (⟨false,(anyA (curN c 3).2).1,(dltD (curN (anyA (curN c 3).2).2 12).2).1⟩,(dltD (curN (anyA (curN c 3).2).2 12).2).2)
  else (⟨false,(anyA (curN c 3).2).1,zeroDelta⟩,(curN (anyA (curN c 3).2).2 12).2)
@[simp] def h207 : Hts := { merge := fun _ => false,own := fun d => !(d == 7 || d == 10 || d == 15),lend := fun f => if f = 130 || f = 187 || f = 318 || f = 304 then [.box []] else [] }
set_option maxHeartbeats 4000000 in
theorem f207_ok (c : GCur) (hc : c.Ok) : FnW Tryz.prog 207 [.ptr [.im c.b.length (flat c.b),.int .i64 c.i,.int .i64 c.h]] (.agg [.bool ((anyU c).1).batch,.int .i64 ((anyU c).1).act.dot.rep,.int .i64 ((anyU c).1).act.dot.seq,.int .i64 ((anyU c).1).act.time,.im ((anyU c).1).act.knew.length (flat ((anyU c).1).act.knew),.int .i64 ((anyU c).1).act.kind,.str ((anyU c).1).act.obj,.str ((anyU c).1).act.key,.int .i64 ((anyU c).1).act.val,.int .i64 ((anyU c).1).act.ref.rep,.int .i64 ((anyU c).1).act.ref.seq,.im ((anyU c).1).delta.base.length (flat ((anyU c).1).delta.base),.im ((anyU c).1).delta.know.length (flat ((anyU c).1).delta.know),.im ((anyU c).1).delta.tallies.length (flat ((anyU c).1).delta.tallies),.im ((anyU c).1).delta.lives.length (flat ((anyU c).1).delta.lives),.im ((anyU c).1).delta.dead.length (flat ((anyU c).1).delta.dead),.im ((anyU c).1).delta.cs.length (flat ((anyU c).1).delta.cs)]) [.ptr [.im ((anyU c).2).b.length (flat ((anyU c).2).b),.int .i64 ((anyU c).2).i,.int .i64 ((anyU c).2).h]] := by
  have c2 := curN_ok hc 3
  have c3 := anyA_ok c2
  have c4 := curN_ok c3 12
  refine FnW.of_AW TryzT_ok 1 (fn := Tryz.f207) (by kernel_rfl) rfl (by kernel_rfl) rfl rfl rfl ?_; refine AW_of h207 TryzT_ok (by kernel_rfl) ?_
  simp -dsimp
  refine ACallW_go ?_
  refine ACallC_go (fun us => f130_ok c hc 3) ?_
  cases q : ((curN c 3).1 == 0)
  · simp -dsimp
    refine ACallW_go ?_
    refine ACallC_go (fun us => f318_ok (curN c 3).2 c2) ?_
    simp -dsimp
    refine ACallW_go ?_
    refine ACallC_go (fun us => f130_ok (anyA (curN c 3).2).2 c3 12) ?_
    cases q2 : ((curN (anyA (curN c 3).2).2 12).1 == 0)
    · simp -dsimp
      simp [anyU,q,q2,zeroDelta]
    · simp -dsimp
      refine ACallW_go ?_
      refine ACallC_go (fun us => f304_ok (curN (anyA (curN c 3).2).2 12).2 c4) ?_
      simp -dsimp
      simp [anyU,q,q2]
  · simp -dsimp
    refine ACallW_go ?_
    refine ACallC_go (fun us => f187_ok (curN c 3).2 c2) ?_
    simp -dsimp
    simp [anyU,q,zeroAct]
theorem dltD_Ok {c : GCur} (h : c.Ok) : (dltD c).1.Ok := deltaOf_ok (sok_Ok (twoP_sok c)) (sok_Ok (twoA_sok h))
theorem zeroAct_Ok : zeroAct.Ok := by
  simp only [GAct.Ok,zeroAct]
  exact ⟨Nat.zero_le _,Nat.zero_le _,Nat.zero_le _⟩
theorem anyU_ok {c : GCur} (h : c.Ok) : (anyU c).2.Ok := by
  have c2 := curN_ok h 3
  have c3 := anyA_ok c2
  unfold anyU
  split
  · exact anyDl_ok c2
  split
  · exact twoB_ok (curN_ok c3 12)
  · exact curN_ok c3 12
theorem anyU_Ok {c : GCur} (h : c.Ok) : (anyU c).1.Ok := by
  have c2 := curN_ok h 3
  have c3 := anyA_ok c2
  unfold anyU
  split
  · exact ⟨zeroAct_Ok,anyDl_Ok c2⟩
  split
  · exact ⟨anyA_Ok _,dltD_Ok (curN_ok c3 12)⟩
  · exact ⟨anyA_Ok _,zeroDelta_Ok⟩
def logN (c : GCur) (m : Int) : Nat := (m + (curN c 8).1).toNat
def logS (c : GCur) (m : Int) : LS := logsK (curN c 8).2 (logN c m)
def logD (c : GCur) : GLog × GCur := (getL (curN (logS c 3).c 3).1 (logS c 3).lg,(curN (logS c 3).c 3).2)
theorem logN_le (c : GCur) {m : Int} (h0 : 0 ≤ m) (h : m ≤ 5) : (logN c m : Int) = m + (curN c 8).1 ∧ logN c m ≤ 12 := by
  have := curN_bd c (n := 8) (by decide)
  unfold logN
  omega
theorem logS_pl (c : GCur) (m : Int) : P3 (logS c m).lg := logsK_pl _ _
theorem logS_ok {c : GCur} (h : c.Ok) (m : Int) : (logS c m).c.Ok := logsK_ok (curN_ok h 8) _
theorem logD_pl (c : GCur) : LPl (logD c).1 := (logS_pl c 3).get _
theorem logD_ok {c : GCur} (h : c.Ok) : (logD c).2.Ok := curN_ok (logS_ok h 3) 3
@[simp] def h325 : Hts := { merge := fun _ => false,own := fun d => !(d == 8),lend := fun f => if f = 117 || f = 226 then [.box []] else [] }
set_option maxHeartbeats 4000000 in
theorem f325_ok (c : GCur) (hc : c.Ok) : FnW Tryz.prog 325 [.ptr [.im c.b.length (flat c.b),.int .i64 c.i,.int .i64 c.h]] (.agg [.int .i64 ((logD c).1).rep,.int .i64 ((logD c).1).time,.im ((logD c).1).state.know.length (flat ((logD c).1).state.know),.im ((logD c).1).state.tallies.length (flat ((logD c).1).state.tallies),.im ((logD c).1).state.lives.length (flat ((logD c).1).state.lives),.im ((logD c).1).state.cs.length (flat ((logD c).1).state.cs),.im ((logD c).1).units.length (flat ((logD c).1).units),.im ((logD c).1).waits.length (flat ((logD c).1).waits)]) [.ptr [.im ((logD c).2).b.length (flat ((logD c).2).b),.int .i64 ((logD c).2).i,.int .i64 ((logD c).2).h]] := by
  obtain ⟨n1,n2⟩ := logN_le c (m := 3) (by decide) (by decide)
  have hb := curN_bd c (n := 8) (by decide)
  have w : IntKind.i64.wrap (3 + (curN c 8).1) = (logN c 3 : Int) := by rw [wrap64 (by omega) (by omega)]; omega
  have hS := logS_ok hc 3
  obtain ⟨r,hr,hr3⟩ : ∃ r : Nat,(curN (logS c 3).c 3).1 = r ∧ r < 3 := ⟨(curN (logS c 3).c 3).1.toNat,by have := curN_bd (logS c 3).c (n := 3) (by decide); omega,by have := curN_bd (logS c 3).c (n := 3) (by decide); omega⟩
  have eD : logD c = (nth (listL (logS c 3).lg) r,(curN (logS c 3).c 3).2) := by rw [logD,hr,listL_get _ hr3]
  refine FnW.of_AW TryzT_ok 1 (fn := Tryz.f325) (by kernel_rfl) rfl (by kernel_rfl) rfl rfl rfl ?_; refine AW_of h325 TryzT_ok (by kernel_rfl) ?_
  simp -dsimp
  refine ACallW_go ?_
  refine ACallC_go (fun us => f117_ok c hc 8) ?_
  simp -dsimp [w]
  refine ACallW_go ?_
  refine ACallC_go (fun us => f226_ok (curN c 8).2 (curN_ok hc 8) (logN c 3) (by omega)) ?_
  have hdl : logsK (curN c 8).2 (logN c 3) = logS c 3 := rfl
  rw [hdl,eD]
  generalize logS c 3 = a at *
  have hrl : r < (listL a.lg).length := hr3
  have hr3' : (r : Int) < 3 := by omega
  simp -dsimp [flat_frzO]
  refine ACallW_go ?_
  refine ACallC_go (fun us => f117_ok a.c hS 3) ?_
  rw [hr]
  have hne : (listL a.lg = []) = False := eq_false (by simp [listL])
  simp -dsimp [hrl,hr3',hne]
def laK (c : GCur) : Int × GCur := curN c 14
def laY (c : GCur) : Int × GCur := curN (laK c).2 60
def laL (c : GCur) : GLog × GCur := logD (laY c).2
def timeY (y : Int) : Int := if y.tmod 3 = 0 then 0 else if y.tmod 3 = 1 then 10000 else 10001
def logA (c : GCur) : GLog × GCur :=
  if (laK c).1 = 0 then ({ (laL c).1 with rep := (laY c).1.tmod 5 - 1 },(laL c).2)
  else if (laK c).1 = 1 then ({ (laL c).1 with time := timeY (laY c).1 },(laL c).2)
  else if (laK c).1 = 2 then ({ (laL c).1 with waits := (laL c).1.waits ++ [actU (anyA (laL c).2).1] },(anyA (laL c).2).2)
  else if (laK c).1 = 3 then ({ (laL c).1 with units := (laL c).1.units ++ [actU (anyA (laL c).2).1] },(anyA (laL c).2).2)
  else if (laK c).1 = 4 then ({ (laL c).1 with state := (anyD (laL c).2).1 },(anyD (laL c).2).2)
  else ((laL c).1,(laL c).2)
theorem laL_pl (c : GCur) : LPl (laL c).1 := logD_pl _
theorem laL_ok {c : GCur} (h : c.Ok) : (laL c).2.Ok := logD_ok (curN_ok (curN_ok h _) _)
theorem actU_Ok {a : GAct} (h : a.Ok) : (actU a).Ok := ⟨h,zeroDelta_Ok⟩
theorem logA_Ok (c : GCur) : (logA c).1.Ok := by
  have hL := laL_pl c
  have h := hL.ok
  have l1 := hL.u
  have l2 := hL.w
  simp only [GLog.Ok] at h
  obtain ⟨h0,h1,h2,h3,h4⟩ := h
  unfold logA
  simp only [GLog.Ok]
  split
  · exact ⟨h0,h1,h2,h3,h4⟩
  split
  · exact ⟨h0,h1,h2,h3,h4⟩
  split
  · refine ⟨h0,h1,h2,by simp only [List.length_append,List.length_singleton]; omega,fun y hy => ?_⟩
    rcases List.mem_append.1 hy with hy | hy
    · exact h4 y hy
    · rw [List.mem_singleton.1 hy]; exact actU_Ok (anyA_Ok _)
  split
  · refine ⟨h0,by simp only [List.length_append,List.length_singleton]; omega,fun y hy => ?_,h3,h4⟩
    rcases List.mem_append.1 hy with hy | hy
    · exact h2 y hy
    · rw [List.mem_singleton.1 hy]; exact actU_Ok (anyA_Ok _)
  split
  · exact ⟨anyD_Ok _,h1,h2,h3,h4⟩
  · exact ⟨h0,h1,h2,h3,h4⟩
theorem logA_plain (c : GCur) : plainU (logA c).1.units := by
  have hp := (laL_pl c).pu
  unfold logA
  repeat' split
  · exact hp
  · exact hp
  · exact hp
  · intro u hu
    rcases List.mem_append.1 hu with hu | hu
    · exact hp u hu
    · rw [List.mem_singleton.1 hu]; rfl
  · exact hp
  · exact hp
@[simp] def h219 : Hts := { merge := fun _ => false,mergeF := fun _ => false,own := fun d => !(d == 11 || d == 33 || d == 43 || d == 51),lend := fun f => if f = 117 || f = 325 || f = 318 || f = 131 then [.box []] else [],dr := fun id => if id = 10 then [{ mn := [640000],mb := [33,35] },{ mn := [640000],mb := [33,35] },{},{ wr := [640000],cr := true },{},{ cr := true },{ wr := [1984,775],cr := true },{ wr := [320] },{ wr := [320] }] else if id = 12 then [{ mn := [640000],mb := [43,45] },{ mn := [640000],mb := [43,45] },{},{ wr := [640000],cr := true },{},{ cr := true },{ wr := [2624,774],cr := true },{ wr := [320] },{ wr := [320] }] else [] }
set_option maxHeartbeats 16000000 in
theorem anyLogS (c : GCur) (hc : c.Ok) : FnW Tryz.prog 219 [.ptr [.im c.b.length (flat c.b),.int .i64 c.i,.int .i64 c.h]] (.agg [.int .i64 (logA c).1.rep,.int .i64 (logA c).1.time,.im ((logA c).1.state).know.length (flat ((logA c).1.state).know),.im ((logA c).1.state).tallies.length (flat ((logA c).1.state).tallies),.im ((logA c).1.state).lives.length (flat ((logA c).1.state).lives),.im ((logA c).1.state).cs.length (flat ((logA c).1.state).cs),.ow 99 17 (logA c).1.units.length (flat (logA c).1.units),.ow 99 17 (logA c).1.waits.length (flat (logA c).1.waits)]) [.ptr [.im ((logA c).2).b.length (flat ((logA c).2).b),.int .i64 ((logA c).2).i,.int .i64 ((logA c).2).h]] := by
  have c2 : (laK c).2.Ok := curN_ok hc 14
  have c3 : (laY c).2.Ok := curN_ok c2 60
  have c4 := laL_ok hc
  have hL := laL_pl c
  have hO := hL.ok
  have l1 := hL.u
  have l2 := hL.w
  have ky := curN_bd (laK c).2 (n := 60) (by decide)
  have hy : 0 ≤ (laY c).1 ∧ (laY c).1 < 60 := ky
  have hk : 0 ≤ (laK c).1 ∧ (laK c).1 < 14 := curN_bd c (n := 14) (by decide)
  refine FnW.of_AW TryzT_ok 1 (fn := Tryz.f219) (by kernel_rfl) rfl (by kernel_rfl) rfl rfl rfl ?_; refine AW_of h219 TryzT_ok (by kernel_rfl) ?_
  simp -dsimp
  refine ACallW_go ?_
  refine ACallC_go (fun us => f117_ok c hc 14) ?_
  rw [show curN c 14 = laK c from rfl]
  simp -dsimp
  refine ACallW_go ?_
  refine ACallC_go (fun us => f117_ok (laK c).2 c2 60) ?_
  rw [show curN (laK c).2 60 = laY c from rfl]
  simp -dsimp
  refine ACallW_go ?_
  refine ACallC_go (fun us => f325_ok (laY c).2 c3) ?_
  rw [show logD (laY c).2 = laL c from rfl]
  simp -dsimp
  refine ACallK_of (copyLogS (laL c).1 hO) ?_
  have hkc : (laK c).1 = 0 ∨ (laK c).1 = 1 ∨ (laK c).1 = 2 ∨ (laK c).1 = 3 ∨ (laK c).1 = 4 ∨ 5 ≤ (laK c).1 := by omega
  unfold logA
  generalize laL c = L at *
  generalize laY c = Y at *
  generalize laK c = K at *
  obtain ⟨L,d⟩ := L
  obtain ⟨Y,e⟩ := Y
  obtain ⟨K,f⟩ := K
  simp only at hy hk hkc c4 l1 l2
  rcases hkc with rfl | rfl | rfl | rfl | rfl | hk5
  · have t1 := tmod_bd hy.1 (n := 5) (by decide)
    have w1 : IntKind.i64.wrap (Y.tmod 5 - 1) = Y.tmod 5 - 1 := wrap64 (by omega) (by omega)
    simp -dsimp [w1]
  · have t1 := tmod_bd hy.1 (n := 3) (by decide)
    obtain q | q | q : Y.tmod 3 = 0 ∨ Y.tmod 3 = 1 ∨ Y.tmod 3 = 2 := by omega
    · simp -dsimp [q]
      simp [timeY,q]
    · simp -dsimp [q]
      simp [timeY,q]
    · simp -dsimp [q]
      simp [timeY,q]
  · simp -dsimp
    refine ACallW_go ?_
    refine ACallC_go (fun us => f318_ok d c4) ?_
    simp -dsimp
    refine ⟨by simp [capMax]; omega,?_⟩
    rw [flat_append]
    simp [actU,zeroDelta]
    rfl
  · simp -dsimp
    refine ACallW_go ?_
    refine ACallC_go (fun us => f318_ok d c4) ?_
    simp -dsimp
    refine ⟨by simp [capMax]; omega,?_⟩
    rw [flat_append]
    simp [actU,zeroDelta]
    rfl
  · simp -dsimp
    refine ACallW_go ?_
    refine ACallC_go (fun us => f131_ok d c4) ?_
    simp -dsimp
  · have n0 : ¬ K = 0 := by omega
    have n1 : ¬ K = 1 := by omega
    have n2 : ¬ K = 2 := by omega
    have n3 : ¬ K = 3 := by omega
    have n4 : ¬ K = 4 := by omega
    have m0 : (K == 0) = false := by simp [n0]
    have m1 : (K == 1) = false := by simp [n1]
    have m2 : (K == 2) = false := by simp [n2]
    have m3 : (K == 3) = false := by simp [n3]
    have m4 : (K == 4) = false := by simp [n4]
    simp -dsimp [m0,m1,m2,m3,m4]
    simp [n0,n1,n2,n3,n4]
theorem f219_ok (c : GCur) (hc : c.Ok) : FnW Tryz.prog 219 [.ptr [.im c.b.length (flat c.b),.int .i64 c.i,.int .i64 c.h]] (.agg [.int .i64 ((logA c).1).rep,.int .i64 ((logA c).1).time,.im ((logA c).1).state.know.length (flat ((logA c).1).state.know),.im ((logA c).1).state.tallies.length (flat ((logA c).1).state.tallies),.im ((logA c).1).state.lives.length (flat ((logA c).1).state.lives),.im ((logA c).1).state.cs.length (flat ((logA c).1).state.cs),.im ((logA c).1).units.length (flat ((logA c).1).units),.im ((logA c).1).waits.length (flat ((logA c).1).waits)]) [.ptr [.im ((logA c).2).b.length (flat ((logA c).2).b),.int .i64 ((logA c).2).i,.int .i64 ((logA c).2).h]] := by
  have := FnW.wk [[0,0,0,0,0,0,1,1]] (anyLogS c hc)
  simp [wkR,wkC,wkPs,wkP,frz,flat_frzO] at this
  exact this
end Am
namespace Am
open Go Go.Proofs
open Cel (cells)
set_option maxRecDepth 100000
@[simp] def h101 : Hts := { merge := fun _ => false,own := fun d => !(d == 5),lend := fun f => if f = 219 then [.box []] else [] }
theorem f101_ok (b : List UInt8) (hb : b.length ≤ 1048576) : FnR Tryz.prog 101 [.v (.im b.length (flat b))] (.agg [.int .i64 ((logA (curNew b)).1).rep,.int .i64 ((logA (curNew b)).1).time,.im ((logA (curNew b)).1).state.know.length (flat ((logA (curNew b)).1).state.know),.im ((logA (curNew b)).1).state.tallies.length (flat ((logA (curNew b)).1).state.tallies),.im ((logA (curNew b)).1).state.lives.length (flat ((logA (curNew b)).1).state.lives),.im ((logA (curNew b)).1).state.cs.length (flat ((logA (curNew b)).1).state.cs),.im ((logA (curNew b)).1).units.length (flat ((logA (curNew b)).1).units),.im ((logA (curNew b)).1).waits.length (flat ((logA (curNew b)).1).waits)]) := by
  refine FnW.of_AW TryzT_ok 0 (fn := Tryz.f101) (by kernel_rfl) rfl (by kernel_rfl) rfl rfl rfl ?_; refine AW_of h101 TryzT_ok (by kernel_rfl) ?_
  simp -dsimp
  refine ACallK_of (f115_ok b hb) ?_
  simp -dsimp
  refine ACallW_go ?_
  refine ACallC_go (fun us => f219_ok (curNew b) (curNew_ok hb)) ?_
  simp -dsimp
@[simp] def h94 : Hts := { merge := fun _ => false,own := fun d => !(d == 11),lend := fun f => if f = 219 || f = 161 then [.box []] else [],dr := fun id => if id = 3 then [{},{ wr := [448],cr := true },{ mn := [128,448],mb := [11] },{ wr := [128] },{ wr := [192] }] else [] }
theorem f94_ok (b : List UInt8) (hb : b.length ≤ 1048576) : FnR Tryz.prog 94 [.v (.im b.length (flat b))] (.tup [.agg [.int .i64 ((logA (anyE (curNew b)).2).1).rep,.int .i64 ((logA (anyE (curNew b)).2).1).time,.im ((logA (anyE (curNew b)).2).1).state.know.length (flat ((logA (anyE (curNew b)).2).1).state.know),.im ((logA (anyE (curNew b)).2).1).state.tallies.length (flat ((logA (anyE (curNew b)).2).1).state.tallies),.im ((logA (anyE (curNew b)).2).1).state.lives.length (flat ((logA (anyE (curNew b)).2).1).state.lives),.im ((logA (anyE (curNew b)).2).1).state.cs.length (flat ((logA (anyE (curNew b)).2).1).state.cs),.im ((logA (anyE (curNew b)).2).1).units.length (flat ((logA (anyE (curNew b)).2).1).units),.im ((logA (anyE (curNew b)).2).1).waits.length (flat ((logA (anyE (curNew b)).2).1).waits)],.agg [.int .i64 ((anyE (curNew b)).1).kind,.str ((anyE (curNew b)).1).obj,.str ((anyE (curNew b)).1).key,.int .i64 ((anyE (curNew b)).1).val,.int .i64 ((anyE (curNew b)).1).place]]) := by
  have c1 := anyE_ok (curNew_ok hb)
  refine FnW.of_AW TryzT_ok 0 (fn := Tryz.f94) (by kernel_rfl) rfl (by kernel_rfl) rfl rfl rfl ?_; refine AW_of h94 TryzT_ok (by kernel_rfl) ?_
  simp -dsimp
  refine ACallK_of (f115_ok b hb) ?_
  simp -dsimp
  refine ACallW_go ?_
  refine ACallC_go (fun us => f161_ok (curNew b) (curNew_ok hb)) ?_
  simp -dsimp
  refine ACallW_go ?_
  refine ACallC_go (fun us => f219_ok (anyE (curNew b)).2 c1) ?_
  simp -dsimp
def duO (b : List UInt8) : Bool := (curN (curNew b) 3).1 == 0
def duS (b : List UInt8) : GState := if duO b = true then ddeA b else (doS b).1
def duU (b : List UInt8) : GUnit := if duO b = true then ⟨true,zeroAct,ddeD b⟩ else actU (doA b)
theorem du_Ok {b : List UInt8} (hb : b.length ≤ 1048576) : (duS b).Ok ∧ (duU b).Ok := by
  obtain ⟨h1,h2⟩ := dde_Ok hb
  unfold duS duU
  split
  · exact ⟨h1,zeroAct_Ok,h2⟩
  · exact ⟨doS_Ok b,actU_Ok (doA_Ok b)⟩
@[simp] def h98 : Hts := { merge := fun _ => false,own := fun d => !(d == 15 || d == 23),lend := fun f => if f = 130 then [.box []] else [],dr := fun id => if id = 4 then [{},{ mn := [128] },{ mn := [128] },{ wr := [128] },{ wr := [192] }] else if id = 6 then [{},{ mn := [128] },{ mn := [128] },{ wr := [128] },{ wr := [192] }] else [] }
set_option maxHeartbeats 4000000 in
theorem f98_ok (b : List UInt8) (hb : b.length ≤ 1048576) : FnR Tryz.prog 98 [.v (.im b.length (flat b))] (.tup [.agg [.im (duS b).know.length (flat (duS b).know),.im (duS b).tallies.length (flat (duS b).tallies),.im (duS b).lives.length (flat (duS b).lives),.im (duS b).cs.length (flat (duS b).cs)],.agg [.bool (duU b).batch,.int .i64 (duU b).act.dot.rep,.int .i64 (duU b).act.dot.seq,.int .i64 (duU b).act.time,.im (duU b).act.knew.length (flat (duU b).act.knew),.int .i64 (duU b).act.kind,.str (duU b).act.obj,.str (duU b).act.key,.int .i64 (duU b).act.val,.int .i64 (duU b).act.ref.rep,.int .i64 (duU b).act.ref.seq,.im (duU b).delta.base.length (flat (duU b).delta.base),.im (duU b).delta.know.length (flat (duU b).delta.know),.im (duU b).delta.tallies.length (flat (duU b).delta.tallies),.im (duU b).delta.lives.length (flat (duU b).delta.lives),.im (duU b).delta.dead.length (flat (duU b).delta.dead),.im (duU b).delta.cs.length (flat (duU b).delta.cs)]]) := by
  refine FnW.of_AW TryzT_ok 0 (fn := Tryz.f98) (by kernel_rfl) rfl (by kernel_rfl) rfl rfl rfl ?_; refine AW_of h98 TryzT_ok (by kernel_rfl) ?_
  simp -dsimp
  refine ACallK_of (f115_ok b hb) ?_
  simp -dsimp
  refine ACallW_go ?_
  refine ACallC_go (fun us => f130_ok (curNew b) (curNew_ok hb) 3) ?_
  cases q : ((curN (curNew b) 3).1 == 0)
  · simp -dsimp
    refine ACallK_of (f237_ok b hb) ?_
    simp -dsimp
    simp [duS,duU,duO,q,actU,zeroDelta]
  · simp -dsimp
    refine ACallK_of (f236_ok b hb) ?_
    simp -dsimp
    simp [duS,duU,duO,q,zeroAct]
def suA (b : List UInt8) : GUnit × GCur := anyU (curNew b)
def suB (b : List UInt8) : GUnit := if ((curN (suA b).2 2).1 == 0) = true then (suA b).1 else (anyU (curN (suA b).2 2).2).1
theorem su_Ok {b : List UInt8} (hb : b.length ≤ 1048576) : (suA b).1.Ok ∧ (suB b).Ok := by
  have h := curNew_ok hb
  refine ⟨anyU_Ok h,?_⟩
  unfold suB
  split
  · exact anyU_Ok h
  · exact anyU_Ok (curN_ok (anyU_ok h) 2)
@[simp] def h102 : Hts := { merge := fun _ => false,own := fun d => !(d == 9 || d == 14 || d == 17),lend := fun f => if f = 130 || f = 207 then [.box []] else [],dr := fun id => if id = 4 then [{ mb := [14] },{},{ cr := true },{ wr := [128] },{ wr := [192] }] else if id = 5 then [{ mn := [448],mb := [17] },{},{ wr := [448],cr := true },{ wr := [128] },{ wr := [192] }] else [] }
set_option maxHeartbeats 4000000 in
theorem f102_ok (b : List UInt8) (hb : b.length ≤ 1048576) : FnR Tryz.prog 102 [.v (.im b.length (flat b))] (.tup [.agg [.bool ((suA b).1).batch,.int .i64 ((suA b).1).act.dot.rep,.int .i64 ((suA b).1).act.dot.seq,.int .i64 ((suA b).1).act.time,.im ((suA b).1).act.knew.length (flat ((suA b).1).act.knew),.int .i64 ((suA b).1).act.kind,.str ((suA b).1).act.obj,.str ((suA b).1).act.key,.int .i64 ((suA b).1).act.val,.int .i64 ((suA b).1).act.ref.rep,.int .i64 ((suA b).1).act.ref.seq,.im ((suA b).1).delta.base.length (flat ((suA b).1).delta.base),.im ((suA b).1).delta.know.length (flat ((suA b).1).delta.know),.im ((suA b).1).delta.tallies.length (flat ((suA b).1).delta.tallies),.im ((suA b).1).delta.lives.length (flat ((suA b).1).delta.lives),.im ((suA b).1).delta.dead.length (flat ((suA b).1).delta.dead),.im ((suA b).1).delta.cs.length (flat ((suA b).1).delta.cs)],.agg [.bool (suB b).batch,.int .i64 (suB b).act.dot.rep,.int .i64 (suB b).act.dot.seq,.int .i64 (suB b).act.time,.im (suB b).act.knew.length (flat (suB b).act.knew),.int .i64 (suB b).act.kind,.str (suB b).act.obj,.str (suB b).act.key,.int .i64 (suB b).act.val,.int .i64 (suB b).act.ref.rep,.int .i64 (suB b).act.ref.seq,.im (suB b).delta.base.length (flat (suB b).delta.base),.im (suB b).delta.know.length (flat (suB b).delta.know),.im (suB b).delta.tallies.length (flat (suB b).delta.tallies),.im (suB b).delta.lives.length (flat (suB b).delta.lives),.im (suB b).delta.dead.length (flat (suB b).delta.dead),.im (suB b).delta.cs.length (flat (suB b).delta.cs)]]) := by
  have h := curNew_ok hb
  have h1 : (suA b).2.Ok := anyU_ok h
  have hO := (su_Ok hb).1
  refine FnW.of_AW TryzT_ok 0 (fn := Tryz.f102) (by kernel_rfl) rfl (by kernel_rfl) rfl rfl rfl ?_; refine AW_of h102 TryzT_ok (by kernel_rfl) ?_
  simp -dsimp
  refine ACallK_of (f115_ok b hb) ?_
  simp -dsimp
  refine ACallW_go ?_
  refine ACallC_go (fun us => f207_ok (curNew b) h) ?_
  rw [show anyU (curNew b) = suA b from rfl]
  simp -dsimp
  refine ACallW_go ?_
  refine ACallC_go (fun us => f130_ok (suA b).2 h1 2) ?_
  cases q : ((curN (suA b).2 2).1 == 0)
  · simp -dsimp
    refine ACallW_go ?_
    refine ACallC_go (fun us => f207_ok (curN (suA b).2 2).2 (curN_ok h1 2)) ?_
    simp -dsimp
    simp [suB,q]
  · simp -dsimp
    refine ACallK_of (f225_ok _ hO) ?_
    simp -dsimp
    simp [suB,q]
def heK (b : List UInt8) : Int × GCur := curN (curNew b) 5
def heS (b : List UInt8) : LS := logS (heK b).2 4
def heF (b : List UInt8) : Int × GCur := curN (heS b).c 3
def heL (b : List UInt8) : GLog := getL (heF b).1 (heS b).lg
def heR (b : List UInt8) : Int × GCur := curN (heF b).2 3
def heP (b : List UInt8) : GLog × GUnit :=
  if (heK b).1 = 0 then ((logA (anyU (heK b).2).2).1,(anyU (heK b).2).1)
  else if (heL b).units.length = 0 then ((heS b).lg.1,(anyU (heF b).2).1)
  else (getL (heR b).1 (heS b).lg,nth (heL b).units (curN (heR b).2 ((heL b).units.length : Int)).1.toNat)
theorem heP_Ok {b : List UInt8} (hb : b.length ≤ 1048576) : (heP b).1.Ok ∧ (heP b).2.Ok ∧ plainU (heP b).1.units := by
  have h := curNew_ok hb
  have hK : (heK b).2.Ok := curN_ok h 5
  have hF : (heF b).2.Ok := curN_ok (logS_ok hK 4) 3
  have hL : P3 (heS b).lg := logS_pl _ 4
  unfold heP
  split
  · exact ⟨logA_Ok _,anyU_Ok hK,logA_plain _⟩
  split
  · exact ⟨hL.a.ok,anyU_Ok hF,hL.a.pu⟩
  · rename_i hu
    have hr := hL.get (heR b).1
    have hf : LPl (heL b) := hL.get _
    have hk := curN_bd (heR b).2 (n := ((heL b).units.length : Int)) (by omega)
    have hm := nth_mem (show (curN (heR b).2 ((heL b).units.length : Int)).1.toNat < (heL b).units.length by omega)
    exact ⟨hr.ok,hf.uo hm,hr.pu⟩
@[simp] def h97 : Hts := { merge := fun _ => false,mergeF := fun _ => false,own := fun d => !(d == 16 || d == 18 || d == 24 || d == 40),lend := fun f => if f = 117 || f = 207 || f = 219 || f = 226 then [.box []] else [],dr := fun id => if id = 5 then [{},{ wr := [640],cr := true },{ mn := [128,640],mb := [18] },{ wr := [128] },{ wr := [192] }] else if id = 9 then [{ mn := [640],mb := [40] },{ mn := [640],mb := [40] },{ mn := [640],mb := [40] },{},{ wr := [640],cr := true },{ wr := [128] },{ wr := [192] }] else if id = 10 then [{ mn := [640],mb := [45,54] },{},{},{},{ wr := [640],cr := true },{ mn := [640],mb := [54] },{ mn := [640],mb := [54] },{ mn := [128,640],mb := [45,54] },{ mn := [128,640],mb := [45,54] },{ mn := [640],mb := [45] },{ mn := [640],mb := [45] },{ mn := [640],mb := [45] },{ mn := [640],mb := [45] },{ wr := [640],cr := true },{ mn := [128] },{ mn := [128] },{ wr := [128] },{ wr := [192] }] else [] }
set_option maxHeartbeats 16000000 in
theorem f97_ok (b : List UInt8) (hb : b.length ≤ 1048576) : FnR Tryz.prog 97 [.v (.im b.length (flat b))] (.tup [.agg [.int .i64 ((heP b).1).rep,.int .i64 ((heP b).1).time,.im ((heP b).1).state.know.length (flat ((heP b).1).state.know),.im ((heP b).1).state.tallies.length (flat ((heP b).1).state.tallies),.im ((heP b).1).state.lives.length (flat ((heP b).1).state.lives),.im ((heP b).1).state.cs.length (flat ((heP b).1).state.cs),.im ((heP b).1).units.length (flat ((heP b).1).units),.im ((heP b).1).waits.length (flat ((heP b).1).waits)],.agg [.bool ((heP b).2).batch,.int .i64 ((heP b).2).act.dot.rep,.int .i64 ((heP b).2).act.dot.seq,.int .i64 ((heP b).2).act.time,.im ((heP b).2).act.knew.length (flat ((heP b).2).act.knew),.int .i64 ((heP b).2).act.kind,.str ((heP b).2).act.obj,.str ((heP b).2).act.key,.int .i64 ((heP b).2).act.val,.int .i64 ((heP b).2).act.ref.rep,.int .i64 ((heP b).2).act.ref.seq,.im ((heP b).2).delta.base.length (flat ((heP b).2).delta.base),.im ((heP b).2).delta.know.length (flat ((heP b).2).delta.know),.im ((heP b).2).delta.tallies.length (flat ((heP b).2).delta.tallies),.im ((heP b).2).delta.lives.length (flat ((heP b).2).delta.lives),.im ((heP b).2).delta.dead.length (flat ((heP b).2).delta.dead),.im ((heP b).2).delta.cs.length (flat ((heP b).2).delta.cs)]]) := by
  have h := curNew_ok hb
  have hK : (heK b).2.Ok := curN_ok h 5
  have hSo : (heS b).c.Ok := logS_ok hK 4
  have hF : (heF b).2.Ok := curN_ok hSo 3
  have hRo : (heR b).2.Ok := curN_ok hF 3
  obtain ⟨n1,n2⟩ := logN_le (heK b).2 (m := 4) (by decide) (by decide)
  have hb8 := curN_bd (heK b).2 (n := 8) (by decide)
  have w : IntKind.i64.wrap (4 + (curN (heK b).2 8).1) = (logN (heK b).2 4 : Int) := by rw [wrap64 (by omega) (by omega)]; omega
  refine FnW.of_AW TryzT_ok 0 (fn := Tryz.f97) (by kernel_rfl) rfl (by kernel_rfl) rfl rfl rfl ?_; refine AW_of h97 TryzT_ok (by kernel_rfl) ?_
  simp -dsimp
  refine ACallK_of (f115_ok b hb) ?_
  simp -dsimp
  refine ACallW_go ?_
  refine ACallC_go (fun us => f117_ok (curNew b) h 5) ?_
  rw [show curN (curNew b) 5 = heK b from rfl]
  by_cases k0 : (heK b).1 = 0
  · simp -dsimp [k0]
    refine ACallW_go ?_
    refine ACallC_go (fun us => f207_ok (heK b).2 hK) ?_
    simp -dsimp
    refine ACallW_go ?_
    refine ACallC_go (fun us => f219_ok (anyU (heK b).2).2 (anyU_ok hK)) ?_
    simp -dsimp
    simp [heP,k0]
  have kb : ((heK b).1 == 0) = false := by simp [k0]
  simp -dsimp [kb]
  refine ACallW_go ?_
  refine ACallC_go (fun us => f117_ok (heK b).2 hK 8) ?_
  simp -dsimp [w]
  refine ACallW_go ?_
  refine ACallC_go (fun us => f226_ok (curN (heK b).2 8).2 (curN_ok hK 8) (logN (heK b).2 4) (by omega)) ?_
  rw [show logsK (curN (heK b).2 8).2 (logN (heK b).2 4) = heS b from rfl]
  obtain ⟨f,hf,hf3⟩ : ∃ f : Nat,(heF b).1 = f ∧ f < 3 := ⟨(heF b).1.toNat,by have := curN_bd (heS b).c (n := 3) (by decide); have e : (heF b).1 = (curN (heS b).c 3).1 := rfl; omega,by have := curN_bd (heS b).c (n := 3) (by decide); have e : (heF b).1 = (curN (heS b).c 3).1 := rfl; omega⟩
  have gF : nth (listL (heS b).lg) f = heL b := by rw [listL_get _ hf3,← hf]; rfl
  have hfl : f < (listL (heS b).lg).length := hf3
  have hf3' : (f : Int) < 3 := by omega
  have hne : (listL (heS b).lg = []) = False := eq_false (by simp [listL])
  simp -dsimp [flat_frzO]
  refine ACallW_go ?_
  refine ACallC_go (fun us => f117_ok (heS b).c hSo 3) ?_
  rw [show curN (heS b).c 3 = heF b from rfl,hf]
  by_cases u0 : (heL b).units.length = 0
  · have u0' : (heL b).units = [] := List.eq_nil_of_length_eq_zero u0
    have q8 : List.take 8 (flat (listL (heS b).lg)) = [.int .i64 ((heS b).lg.1).rep,.int .i64 ((heS b).lg.1).time,.im ((heS b).lg.1).state.know.length (flat ((heS b).lg.1).state.know),.im ((heS b).lg.1).state.tallies.length (flat ((heS b).lg.1).state.tallies),.im ((heS b).lg.1).state.lives.length (flat ((heS b).lg.1).state.lives),.im ((heS b).lg.1).state.cs.length (flat ((heS b).lg.1).state.cs),.im ((heS b).lg.1).units.length (flat ((heS b).lg.1).units),.im ((heS b).lg.1).waits.length (flat ((heS b).lg.1).waits)] := rfl
    have q24 : (flat (listL (heS b).lg)).length = 24 := rfl
    simp -dsimp [hfl,hf3',hne,gF,u0',q8]
    refine ⟨by rw [listL_len]; decide,?_⟩
    refine ACallW_go ?_
    refine ACallC_go (fun us => f207_ok (heF b).2 hF) ?_
    simp -dsimp
    simp [heP,k0,u0']
  · obtain ⟨r,hr,hr3⟩ : ∃ r : Nat,(heR b).1 = r ∧ r < 3 := ⟨(heR b).1.toNat,by have := curN_bd (heF b).2 (n := 3) (by decide); have e : (heR b).1 = (curN (heF b).2 3).1 := rfl; omega,by have := curN_bd (heF b).2 (n := 3) (by decide); have e : (heR b).1 = (curN (heF b).2 3).1 := rfl; omega⟩
    have gR : nth (listL (heS b).lg) r = getL (heR b).1 (heS b).lg := by rw [listL_get _ hr3,← hr]
    have hrl : r < (listL (heS b).lg).length := hr3
    have hr3' : (r : Int) < 3 := by omega
    have hkb := curN_bd (heR b).2 (n := ((heL b).units.length : Int)) (by omega)
    obtain ⟨k,hk,hkl⟩ : ∃ k : Nat,(curN (heR b).2 ((heL b).units.length : Int)).1 = k ∧ k < (heL b).units.length := ⟨(curN (heR b).2 ((heL b).units.length : Int)).1.toNat,by omega,by omega⟩
    have eP : heP b = (nth (listL (heS b).lg) r,nth (heL b).units k) := by
      rw [heP,if_neg k0,if_neg u0,hk,gR]; rfl
    have u1 : ((heL b).units = []) = False := eq_false (fun h => u0 (by rw [h]; rfl))
    have u2 : (((heL b).units.length : Int) == 0) = false := by simp; exact fun h => u0 (by rw [h]; rfl)
    have hkl' : (k : Int) < (heL b).units.length := by omega
    simp -dsimp [hfl,hf3',hne,gF,u1,u0]
    refine ACallW_go ?_
    refine ACallC_go (fun us => f117_ok (heF b).2 hF 3) ?_
    rw [show curN (heF b).2 3 = heR b from rfl,hr]
    simp -dsimp [hrl,hr3',hne]
    refine ACallW_go ?_
    refine ACallC_go (fun us => f117_ok (heR b).2 hRo ((heL b).units.length : Int)) ?_
    rw [hk]
    simp -dsimp [hkl,hkl',u1]
    simp [eP]
end Am
