/- Drawn: states put together,what changed. No condition. -/
import Derived.Test.YteidfkbfocdnmaaGreatT
import Derived.Test.YteidfkbfocdnmaaGreatD
import Derived.Test.YteidfkbfocdnmaaGreatV7
import Derived.Test.YteidfkbfocdnmaaGreatU21
import Derived.Test.YteidfkbfocdnmaaGreatE16
import Derived.Test.YteidfkbfocdnmaaGreatV1
import Derived.Test.YteidfkbfocdnmaaGreatU24
set_option linter.unusedSimpArgs false
set_option linter.unusedVariables false
set_option linter.unnecessarySimpa false
set_option linter.unusedSectionVars false
namespace Am
open Go Go.Proofs
open Cel (cells)
set_option maxRecDepth 100000
def dltD (c : GCur) : GDelta × GCur := ((deltaOf (twoP c).1 (twoA c).1).1,(twoB c).2)
@[simp] def h304 : Hts := { merge := fun _ => false,mergeF := fun _ => false,lend := fun f => if f = 132 then [.box []] else [] }
theorem f304_ok (c : GCur) (hc : c.Ok) : FnW Tryz.prog 304 [.ptr [.im c.b.length (flat c.b),.int .i64 c.i,.int .i64 c.h]] (.agg [.ow 3 1 ((dltD c).1).base.length (flat ((dltD c).1).base),.ow 3 1 ((dltD c).1).know.length (flat ((dltD c).1).know),.ow 179 3 ((dltD c).1).tallies.length (flat ((dltD c).1).tallies),.ow 159 6 ((dltD c).1).lives.length (flat ((dltD c).1).lives),.ow 29 2 ((dltD c).1).dead.length (flat ((dltD c).1).dead),.ow 72 8 ((dltD c).1).cs.length (flat ((dltD c).1).cs)]) [.ptr [.im ((dltD c).2).b.length (flat ((dltD c).2).b),.int .i64 ((dltD c).2).i,.int .i64 ((dltD c).2).h]] := by
  refine FnW.of_AW TryzT_ok 1 (fn := Tryz.f304) (by kernel_rfl) rfl (by kernel_rfl) rfl rfl rfl ?_; refine AW_of h304 TryzT_ok (by kernel_rfl) ?_
  simp -dsimp
  refine ACallW_go ?_
  refine ACallC_go (fun us => f132_ok c hc) ?_
  simp -dsimp
  refine ACallK_of (f338_ok (twoP c).1 (twoA c).1 (sok_Ok (twoP_sok c)) (sok_Ok (twoA_sok hc))) ?_
  simp -dsimp
  simp [dltD]
theorem knowOk_three {k : List Int} (h : knowOk k = true) : k.length = 3 := by
  simp only [knowOk,Bool.and_eq_true,decide_eq_true_eq] at h
  exact h.1
theorem dlt_len {p c : GState} (hp : SOK p) (hc : SOK c) : (deltaOf p c).1.base.length ≤ 120 ∧ (deltaOf p c).1.know.length ≤ 120 ∧ (deltaOf p c).1.tallies.length ≤ 120 ∧ (deltaOf p c).1.lives.length ≤ 120 ∧ (deltaOf p c).1.dead.length ≤ 120 ∧ (deltaOf p c).1.cs.length ≤ 120 := by
  have h1 := dTal_len p c c.tallies.length
  have h2 := dLivs_len p c c.lives.length
  have h3 := deadK_len c p.lives p.lives.length
  have h4 := dCels_len p c c.cs.length
  have k1 := knowOk_three hp.k
  have k2 := knowOk_three hc.k
  have z1 := hc.t1
  have z2 := hc.l1
  have z3 := hc.c1
  have z4 := hp.l1
  unfold deltaOf
  split
  · simp only [deltaRaw]; omega
  · simp [noDelta]
def dltM (k y : Int) (d : GDelta) : GDelta :=
  if k = 0 then { d with know := [y.tmod 4,y.tmod 3,y.tmod 5] }
  else if k = 1 then { d with dead := d.dead ++ [⟨y.tmod 4,y.tmod 5⟩] }
  else if k = 2 then { d with lives := d.lives ++ [⟨false,tA,tX,0,⟨2,y.tmod 6⟩⟩] }
  else if k = 3 then { d with base := [] }
  else if k = 4 then { d with cs := d.cs ++ [⟨tA,⟨2,1 + y.tmod 5⟩,y.tmod 4,⟨1,y.tmod 3⟩,0,false⟩] }
  else d
def anyDl (c : GCur) : GDelta × GCur := (dltM (curN c 12).1 (curN (curN c 12).2 60).1 (dltD (curN (curN c 12).2 60).2).1,(dltD (curN (curN c 12).2 60).2).2)
theorem anyDl_ok {c : GCur} (h : c.Ok) : (anyDl c).2.Ok := twoB_ok (curN_ok (curN_ok h _) _)
theorem dltM_Ok (k y : Int) {d : GDelta} (h : d.Ok) (hl : d.base.length ≤ 120 ∧ d.know.length ≤ 120 ∧ d.tallies.length ≤ 120 ∧ d.lives.length ≤ 120 ∧ d.dead.length ≤ 120 ∧ d.cs.length ≤ 120) : (dltM k y d).Ok := by
  have sA : tA.size ≤ 1073741824 := by decide
  have sX : tX.size ≤ 1073741824 := by decide
  simp only [GDelta.Ok] at h ⊢
  obtain ⟨o0,o1,o2,o3,o4,o5,o6,o7,o8⟩ := h
  unfold dltM
  split
  · exact ⟨o0,by simp,o2,o3,o4,o5,o6,o7,o8⟩
  split
  · exact ⟨o0,o1,o2,o3,o4,o5,by simp only [List.length_append,List.length_singleton]; omega,o7,o8⟩
  split
  · refine ⟨o0,o1,o2,o3,by simp only [List.length_append,List.length_singleton]; omega,fun z hz => ?_,o6,o7,o8⟩
    rcases List.mem_append.1 hz with hz | hz
    · exact o5 z hz
    · rw [List.mem_singleton.1 hz]; simp only [GLive.Ok]; exact ⟨sA,sX⟩
  split
  · exact ⟨by simp,o1,o2,o3,o4,o5,o6,o7,o8⟩
  split
  · refine ⟨o0,o1,o2,o3,o4,o5,o6,by simp only [List.length_append,List.length_singleton]; omega,fun z hz => ?_⟩
    rcases List.mem_append.1 hz with hz | hz
    · exact o8 z hz
    · rw [List.mem_singleton.1 hz]; simp only [GCell.Ok]; exact sA
  · exact ⟨o0,o1,o2,o3,o4,o5,o6,o7,o8⟩
theorem anyDl_Ok {c : GCur} (h : c.Ok) : (anyDl c).1.Ok := by
  have c2 : (curN (curN c 12).2 60).2.Ok := curN_ok (curN_ok h _) _
  have p := twoP_sok (curN (curN c 12).2 60).2
  have a := twoA_sok c2
  exact dltM_Ok _ _ (deltaOf_ok (sok_Ok p) (sok_Ok a)) (dlt_len p a)
@[simp] def h187 : Hts := { merge := fun _ => false,mergeF := fun _ => false,lend := fun f => if f = 117 || f = 304 then [.box []] else [] }
set_option maxHeartbeats 8000000 in
theorem f187_ok (c : GCur) (hc : c.Ok) : FnW Tryz.prog 187 [.ptr [.im c.b.length (flat c.b),.int .i64 c.i,.int .i64 c.h]] (.agg [.ow 3 1 ((anyDl c).1).base.length (flat ((anyDl c).1).base),.ow 3 1 ((anyDl c).1).know.length (flat ((anyDl c).1).know),.ow 179 3 ((anyDl c).1).tallies.length (flat ((anyDl c).1).tallies),.ow 159 6 ((anyDl c).1).lives.length (flat ((anyDl c).1).lives),.ow 29 2 ((anyDl c).1).dead.length (flat ((anyDl c).1).dead),.ow 72 8 ((anyDl c).1).cs.length (flat ((anyDl c).1).cs)]) [.ptr [.im ((anyDl c).2).b.length (flat ((anyDl c).2).b),.int .i64 ((anyDl c).2).i,.int .i64 ((anyDl c).2).h]] := by
  have hk := curN_bd c (n := 12) (by decide)
  have hy := curN_bd (curN c 12).2 (n := 60) (by decide)
  have c2 : (curN (curN c 12).2 60).2.Ok := curN_ok (curN_ok hc _) _
  have p := twoP_sok (curN (curN c 12).2 60).2
  have a := twoA_sok c2
  have hO : (dltD (curN (curN c 12).2 60).2).1.Ok := deltaOf_ok (sok_Ok p) (sok_Ok a)
  have hL : (dltD (curN (curN c 12).2 60).2).1.base.length ≤ 120 ∧ (dltD (curN (curN c 12).2 60).2).1.know.length ≤ 120 ∧ (dltD (curN (curN c 12).2 60).2).1.tallies.length ≤ 120 ∧ (dltD (curN (curN c 12).2 60).2).1.lives.length ≤ 120 ∧ (dltD (curN (curN c 12).2 60).2).1.dead.length ≤ 120 ∧ (dltD (curN (curN c 12).2 60).2).1.cs.length ≤ 120 := dlt_len p a
  have d1 : (anyDl c).1 = dltM (curN c 12).1 (curN (curN c 12).2 60).1 (dltD (curN (curN c 12).2 60).2).1 := rfl
  have d2 : (anyDl c).2 = (dltD (curN (curN c 12).2 60).2).2 := rfl
  rw [d1,d2]
  refine FnW.of_AW TryzT_ok 1 (fn := Tryz.f187) (by kernel_rfl) rfl (by kernel_rfl) rfl rfl rfl ?_; refine AW_of h187 TryzT_ok (by kernel_rfl) ?_
  simp -dsimp
  refine ACallW_go ?_
  refine ACallC_go (fun us => f117_ok c hc 12) ?_
  simp -dsimp
  refine ACallW_go ?_
  refine ACallC_go (fun us => f117_ok (curN c 12).2 (curN_ok hc _) 60) ?_
  simp -dsimp
  refine ACallW_go ?_
  refine ACallC_go (fun us => f304_ok (curN (curN c 12).2 60).2 c2) ?_
  simp -dsimp
  refine ACallK_of (f303_ok (dltD (curN (curN c 12).2 60).2).1 hO) ?_
  generalize (dltD (curN (curN c 12).2 60).2).1 = d at *
  generalize (dltD (curN (curN c 12).2 60).2).2 = c1 at *
  generalize (curN (curN c 12).2 60).1 = y at *
  generalize (curN c 12).1 = k at *
  by_cases k0 : k = 0
  · subst k0
    simp -dsimp
    simp [dltM]
    rfl
  by_cases k1 : k = 1
  · subst k1
    simp -dsimp
    repeat (first|refine ⟨by omega,?_⟩|refine ⟨by simp [capMax];omega,?_⟩|refine ⟨⟨by omega,by omega⟩,?_⟩)
    simp [dltM]
  by_cases k2 : k = 2
  · subst k2
    simp -dsimp
    repeat (first|refine ⟨by omega,?_⟩|refine ⟨by simp [capMax];omega,?_⟩|refine ⟨⟨by omega,by omega⟩,?_⟩)
    simp [dltM,tA,tX]
  by_cases k3 : k = 3
  · subst k3
    simp -dsimp
    simp [dltM]
  by_cases k4 : k = 4
  · have b5 := tmod_bd hy.1 (n := 5) (by decide)
    have w5 : IntKind.i64.wrap (1 + y.tmod 5) = 1 + y.tmod 5 := wrap64 (by omega) (by omega)
    subst k4
    simp -dsimp [w5]
    repeat (first|refine ⟨by omega,?_⟩|refine ⟨by simp [capMax];omega,?_⟩|refine ⟨⟨by omega,by omega⟩,?_⟩)
    simp [dltM,tA]
  simp -dsimp [k0,k1,k2,k3,k4]
  simp [dltM,k0,k1,k2,k3,k4]
def ddeK (b : List UInt8) : Int × GCur := curN (curNew b) 4
def ddeA (b : List UInt8) : GState := if (ddeK b).1 = 0 then (twoP (ddeK b).2).1 else if (ddeK b).1 = 1 then (anyD (twoB (ddeK b).2).2).1 else (twoB (ddeK b).2).1
def ddeD (b : List UInt8) : GDelta := if (ddeK b).1 = 0 then (deltaOf (twoP (ddeK b).2).1 (twoA (ddeK b).2).1).1 else if (ddeK b).1 = 1 then (anyDl (anyD (twoB (ddeK b).2).2).2).1 else (deltaOf (twoP (ddeK b).2).1 (twoA (ddeK b).2).1).1
theorem dde_Ok {b : List UInt8} (hb : b.length ≤ 1048576) : (ddeA b).Ok ∧ (ddeD b).Ok := by
  have c1 : (ddeK b).2.Ok := curN_ok (curNew_ok hb) _
  have hp := sok_Ok (twoP_sok (ddeK b).2)
  have ha := sok_Ok (twoA_sok c1)
  unfold ddeA ddeD
  split
  · exact ⟨hp,deltaOf_ok hp ha⟩
  split
  · exact ⟨anyD_Ok _,anyDl_Ok (anyD_ok (twoB_ok c1))⟩
  · exact ⟨sok_Ok (twoB_sok c1),deltaOf_ok hp ha⟩
@[simp] def h236 : Hts := { merge := fun _ => false,mergeF := fun _ => false,own := fun d => !(d == 35),lend := fun f => if f = 117 || f = 131 || f = 187 || f = 132 then [.box []] else [],dr := fun id => if id = 7 then [{},{ mn := [128] },{ wr := [128] },{ wr := [192] }] else if id = 10 then [{},{ mn := [128] },{ wr := [128] },{ wr := [192] }] else [] }
set_option maxHeartbeats 4000000 in
theorem f236_ok (b : List UInt8) (hb : b.length ≤ 1048576) : FnR Tryz.prog 236 [.v (.im b.length (flat b))] (.tup [.agg [.im (ddeA b).know.length (flat (ddeA b).know),.im (ddeA b).tallies.length (flat (ddeA b).tallies),.im (ddeA b).lives.length (flat (ddeA b).lives),.im (ddeA b).cs.length (flat (ddeA b).cs)],.agg [.ow 3 1 (ddeD b).base.length (flat (ddeD b).base),.ow 3 1 (ddeD b).know.length (flat (ddeD b).know),.ow 179 3 (ddeD b).tallies.length (flat (ddeD b).tallies),.ow 159 6 (ddeD b).lives.length (flat (ddeD b).lives),.ow 29 2 (ddeD b).dead.length (flat (ddeD b).dead),.ow 72 8 (ddeD b).cs.length (flat (ddeD b).cs)]]) := by
  have c0 := curNew_ok hb
  have c1 : (curN (curNew b) 4).2.Ok := curN_ok c0 _
  have c2 := twoB_ok c1
  refine FnW.of_AW TryzT_ok 0 (fn := Tryz.f236) (by kernel_rfl) rfl (by kernel_rfl) rfl rfl rfl ?_; refine AW_of h236 TryzT_ok (by kernel_rfl) ?_
  simp -dsimp
  refine ACallK_of (f115_ok b hb) ?_
  simp -dsimp
  refine ACallW_go ?_
  refine ACallC_go (fun us => f117_ok (curNew b) c0 4) ?_
  simp -dsimp
  refine ACallW_go ?_
  refine ACallC_go (fun us => f132_ok (curN (curNew b) 4).2 c1) ?_
  simp -dsimp
  refine ACallK_of (f338_ok (twoP (curN (curNew b) 4).2).1 (twoA (curN (curNew b) 4).2).1 (sok_Ok (twoP_sok _)) (sok_Ok (twoA_sok c1))) ?_
  by_cases k0 : (curN (curNew b) 4).1 = 0
  · simp -dsimp [k0]
    simp [ddeA,ddeD,ddeK,k0]
  by_cases k1 : (curN (curNew b) 4).1 = 1
  · simp -dsimp [k1]
    refine ACallW_go ?_
    refine ACallC_go (fun us => f131_ok (twoB (curN (curNew b) 4).2).2 c2) ?_
    simp -dsimp
    refine ACallW_go ?_
    refine ACallC_go (fun us => f187_ok (anyD (twoB (curN (curNew b) 4).2).2).2 (anyD_ok c2)) ?_
    simp -dsimp
    simp [ddeA,ddeD,ddeK,k1]
  simp -dsimp [k0,k1]
  simp [ddeA,ddeD,ddeK,k0,k1]
end Am
namespace Am
open Go Go.Proofs
open Cel (cells)
set_option maxRecDepth 100000
def edM (k y : Int) (e : GEdit) : GEdit :=
  if k = 0 then { e with kind := y.tmod 10 }
  else if k = 1 then { e with obj := ⟨#[]⟩ }
  else if k = 2 then { e with val := nth ([-1,1000000,5] : List Int) (y.tmod 3).toNat }
  else if k = 3 then { e with place := y.tmod 8 - 1 }
  else e
def anyE (c : GCur) : GEdit × GCur := (edM (curN c 10).1 (curN (curN c 10).2 60).1 (editD (curN (curN c 10).2 60).2).1,(editD (curN (curN c 10).2 60).2).2)
theorem anyE_ok {c : GCur} (h : c.Ok) : (anyE c).2.Ok := editD_ok (curN_ok (curN_ok h _) _)
theorem anyE_sz (c : GCur) : (anyE c).1.obj.size ≤ 8 ∧ (anyE c).1.key.size ≤ 8 ∧ (anyE c).1.place ≤ 100 := by
  obtain ⟨g1,g2,g3,g4,g5⟩ := editD_good (curN (curN c 10).2 60).2
  have hb := curN_bd (curN c 10).2 (n := 60) (by decide)
  have t8 := tmod_bd hb.1 (n := 8) (by decide)
  show (edM (curN c 10).1 (curN (curN c 10).2 60).1 (editD (curN (curN c 10).2 60).2).1).obj.size ≤ 8 ∧ (edM (curN c 10).1 (curN (curN c 10).2 60).1 (editD (curN (curN c 10).2 60).2).1).key.size ≤ 8 ∧ (edM (curN c 10).1 (curN (curN c 10).2 60).1 (editD (curN (curN c 10).2 60).2).1).place ≤ 100
  unfold edM
  split
  · exact ⟨g2,g3,by simp only; omega⟩
  split
  · exact ⟨Nat.zero_le _,g3,by simp only; omega⟩
  split
  · exact ⟨g2,g3,by simp only; omega⟩
  split
  · exact ⟨g2,g3,by simp only; omega⟩
  · exact ⟨g2,g3,by omega⟩
@[simp] def h161 : Hts := { merge := fun _ => false,mergeF := fun _ => false,lend := fun f => if f = 117 || f = 155 then [.box []] else [] }
set_option maxHeartbeats 4000000 in
theorem f161_ok (c : GCur) (hc : c.Ok) : FnW Tryz.prog 161 [.ptr [.im c.b.length (flat c.b),.int .i64 c.i,.int .i64 c.h]] (.agg [.int .i64 ((anyE c).1).kind,.str ((anyE c).1).obj,.str ((anyE c).1).key,.int .i64 ((anyE c).1).val,.int .i64 ((anyE c).1).place]) [.ptr [.im ((anyE c).2).b.length (flat ((anyE c).2).b),.int .i64 ((anyE c).2).i,.int .i64 ((anyE c).2).h]] := by
  have hk := curN_bd c (n := 10) (by decide)
  have hy := curN_bd (curN c 10).2 (n := 60) (by decide)
  have d1 : (anyE c).1 = edM (curN c 10).1 (curN (curN c 10).2 60).1 (editD (curN (curN c 10).2 60).2).1 := rfl
  have d2 : (anyE c).2 = (editD (curN (curN c 10).2 60).2).2 := rfl
  rw [d1,d2]
  refine FnW.of_AW TryzT_ok 1 (fn := Tryz.f161) (by kernel_rfl) rfl (by kernel_rfl) rfl rfl rfl ?_; refine AW_of h161 TryzT_ok (by kernel_rfl) ?_
  simp -dsimp
  refine ACallW_go ?_
  refine ACallC_go (fun us => f117_ok c hc 10) ?_
  simp -dsimp
  refine ACallW_go ?_
  refine ACallC_go (fun us => f117_ok (curN c 10).2 (curN_ok hc _) 60) ?_
  simp -dsimp
  refine ACallW_go ?_
  refine ACallC_go (fun us => f155_ok (curN (curN c 10).2 60).2 (curN_ok (curN_ok hc _) _)) ?_
  generalize (editD (curN (curN c 10).2 60).2).1 = e at *
  generalize (editD (curN (curN c 10).2 60).2).2 = c1 at *
  generalize (curN (curN c 10).2 60).1 = y at *
  generalize (curN c 10).1 = k at *
  have tm : ∀ n : Int,0 < n → ∃ m : Nat,y.tmod n = m ∧ (m : Int) < n := fun n hn => by
    have := tmod_bd hy.1 hn
    exact ⟨(y.tmod n).toNat,by omega,by omega⟩
  by_cases k0 : k = 0
  · subst k0
    simp -dsimp
    simp [edM]
  by_cases k1 : k = 1
  · subst k1
    simp -dsimp
    simp [edM]
  by_cases k2 : k = 2
  · obtain ⟨m,e3,m3⟩ := tm 3 (by omega)
    subst k2
    obtain h0 | h0 | h0 : m = 0 ∨ m = 1 ∨ m = 2 := by omega
    · subst h0
      have e3 : y.tmod 3 = 0 := by simpa using e3
      simp -dsimp [e3]
      simp [edM,e3,nth]
    · subst h0
      have e3 : y.tmod 3 = 1 := by simpa using e3
      simp -dsimp [e3]
      simp [edM,e3,nth]
    · subst h0
      have e3 : y.tmod 3 = 2 := by simpa using e3
      simp -dsimp [e3]
      simp [edM,e3,nth]
  by_cases k3 : k = 3
  · have b8 := tmod_bd hy.1 (n := 8) (by decide)
    have w8 : IntKind.i64.wrap (y.tmod 8 - 1) = y.tmod 8 - 1 := wrap64 (by omega) (by omega)
    subst k3
    simp -dsimp [w8]
    simp [edM]
  simp -dsimp [k0,k1,k2,k3]
  simp [edM,k0,k1,k2,k3]
end Am
namespace Am
open Go Go.Proofs
open Cel (cells)
set_option maxRecDepth 100000
theorem anyM_time (k : Int) {y : Int} (hy : 0 ≤ y ∧ y < 60) {s : GState} (h : SOK s) : 0 ≤ timeOf (anyM k y s) ∧ timeOf (anyM k y s) ≤ 10000 := by
  have ht : ∀ x,x ∈ s.cs → x.time ≤ 10000 := fun x hx => by
    have := (h.c2 x hx).2
    simp only [cellOk',spIn,Bool.and_eq_true,decide_eq_true_eq] at this
    omega
  have h9 := tmod_bd hy.1 (n := 9) (by decide)
  refine timeK_bd _ (by omega) (fun x hx => ?_) _ (Nat.le_refl _)
  unfold anyM at hx
  split at hx
  · exact ht x hx
  split at hx
  · exact ht x hx
  split at hx
  · exact ht x hx
  split at hx
  · rcases List.mem_append.1 hx with hx | hx
    · exact ht x hx
    · rw [List.mem_singleton.1 hx]; simp only; omega
  split at hx
  · split at hx
    · rename_i hl
      rcases set_mem' hx with rfl | hx
      · have hb := tmod_bd hy.1 (n := s.cs.length) (by omega)
        exact ht (nth s.cs (y.tmod s.cs.length).toNat) (nth_mem (by omega))
      · exact ht x hx
    · exact ht x hx
  · exact ht x hx
theorem actOf_knew (s : GState) (rep time : Int) (e : GEdit) : (actOf s rep time e).1.knew.length = 0 ∨ (actOf s rep time e).1.knew.length = 3 := by
  rcases actOf_cases s rep time e with ⟨_,h1,_,_,h4⟩ | ⟨_,h4⟩
  · right
    rw [h4]
    simp only [actPre,Bool.and_eq_true] at h1
    have hk := (sok_of h1.1.1.1.1).k
    simp only [knowOk,Bool.and_eq_true,decide_eq_true_eq] at hk
    exact hk.1
  · left; rw [h4]; rfl
def twist (k : Int) (r : Int) (a : GAct) (v : Int) : GAct := if k = 1 ∧ 0 < a.knew.length then { a with knew := a.knew.set ((r + 1).tmod 3).toNat v } else a
def doK4 (b : List UInt8) : Int × GCur := curN (curNew b) 4
def doS (b : List UInt8) : GState × GCur := anyD (doK4 b).2
def doR (b : List UInt8) : Int × GCur := curN (doS b).2 3
def doE (b : List UInt8) : GEdit × GCur := editD (doR b).2
def doA (b : List UInt8) : GAct := if (doK4 b).1 = 0 then (anyA (doS b).2).1 else twist (doK4 b).1 (doR b).1 (actOf (doS b).1 (doR b).1 (timeOf (doS b).1 + 1) (doE b).1).1 (curN (doE b).2 6).1
theorem twist_Ok {k r v : Int} {a : GAct} (h : a.Ok) : (twist k r a v).Ok := by
  unfold twist
  simp only [GAct.Ok] at h ⊢
  split
  · simp only [List.length_set]; exact h
  · exact h
theorem doS_Ok (b : List UInt8) : (doS b).1.Ok := anyD_Ok _
theorem doA_Ok (b : List UInt8) : (doA b).Ok := by
  unfold doA
  split
  · exact anyA_Ok _
  · obtain ⟨g1,g2,g3,g4,g5⟩ := editD_good (doR b).2
    exact twist_Ok (actOf_ok (doS_Ok b) (by show (editD (doR b).2).1.obj.size ≤ _; omega) (by show (editD (doR b).2).1.key.size ≤ _; omega))
@[simp] def h237 : Hts := { merge := fun _ => false,mergeF := fun _ => false,lend := fun f => if f = 117 || f = 131 || f = 318 || f = 155 then [.box []] else [],dr := fun id => if id = 5 then [{ mn := [704],mb := [20] },{},{ wr := [704],cr := true },{ wr := [128] },{ wr := [192] }] else if id = 7 then [{ mn := [704],mb := [27,30,8] },{ mn := [704],mb := [27,30,8] },{ mb := [8] },{ cr := true,mb := [8] },{ mn := [704],mb := [30,8] },{ mb := [27,8] },{ wr := [704],cr := true,mb := [8] },{ cr := true,mb := [8] },{ mb := [8] },{ mb := [8] },{ mn := [512],mb := [8] },{ mn := [704],cr := true,mb := [27,30,31] },{ wr := [512] },{}] else if id = 9 then [{ mn := [704],mb := [48] },{ mn := [704],mb := [48] },{ mn := [704],mb := [48] },{ mn := [704],mb := [48] },{ mn := [704],mb := [48] },{},{ wr := [704],cr := true },{ wr := [1987] },{ wr := [1987] }] else if id = 10 then [{},{ mn := [128] },{ wr := [128] },{ wr := [192] }] else [] }
set_option maxHeartbeats 8000000 in
theorem f237_ok (b : List UInt8) (hb : b.length ≤ 1048576) : FnR Tryz.prog 237 [.v (.im b.length (flat b))] (.tup [.agg [.ow 3 1 ((doS b).1).know.length (flat ((doS b).1).know),.ow 179 3 ((doS b).1).tallies.length (flat ((doS b).1).tallies),.ow 159 6 ((doS b).1).lives.length (flat ((doS b).1).lives),.ow 72 8 ((doS b).1).cs.length (flat ((doS b).1).cs)],.agg [.int .i64 (doA b).dot.rep,.int .i64 (doA b).dot.seq,.int .i64 (doA b).time,.ow 3 1 (doA b).knew.length (flat (doA b).knew),.int .i64 (doA b).kind,.str (doA b).obj,.str (doA b).key,.int .i64 (doA b).val,.int .i64 (doA b).ref.rep,.int .i64 (doA b).ref.seq]]) := by
  have c0 := curNew_ok hb
  have hO := doS_Ok b
  have hy := curN_bd (anyK (curN (curNew b) 4).2).2 (n := 60) (by decide)
  have ht := anyM_time (anyK (curN (curNew b) 4).2).1 hy (stateD_sok (anyY (curN (curNew b) 4).2).2)
  have ht' : 0 ≤ timeOf (anyD (curN (curNew b) 4).2).1 ∧ timeOf (anyD (curN (curNew b) 4).2).1 ≤ 10000 := ht
  have c1 : (curN (curNew b) 4).2.Ok := curN_ok c0 _
  have c2 : (anyD (curN (curNew b) 4).2).2.Ok := anyD_ok c1
  have hA : doA b = if (curN (curNew b) 4).1 = 0 then (anyA (anyD (curN (curNew b) 4).2).2).1 else twist (curN (curNew b) 4).1 (curN (anyD (curN (curNew b) 4).2).2 3).1 (actOf (anyD (curN (curNew b) 4).2).1 (curN (anyD (curN (curNew b) 4).2).2 3).1 (timeOf (anyD (curN (curNew b) 4).2).1 + 1) (editD (curN (anyD (curN (curNew b) 4).2).2 3).2).1).1 (curN (editD (curN (anyD (curN (curNew b) 4).2).2 3).2).2 6).1 := rfl
  have hS : (doS b).1 = (anyD (curN (curNew b) 4).2).1 := rfl
  rw [hA,hS]
  rw [hS] at hO
  have hO2 := hO
  simp only [GState.Ok] at hO2
  refine FnW.of_AW TryzT_ok 0 (fn := Tryz.f237) (by kernel_rfl) rfl (by kernel_rfl) rfl rfl rfl ?_; refine AW_of h237 TryzT_ok (by kernel_rfl) ?_
  simp -dsimp
  refine ACallK_of (f115_ok b hb) ?_
  simp -dsimp
  refine ACallW_go ?_
  refine ACallC_go (fun us => f117_ok (curNew b) c0 4) ?_
  simp -dsimp
  refine ACallW_go ?_
  refine ACallC_go (fun us => f131_ok (curN (curNew b) 4).2 c1) ?_
  generalize (anyD (curN (curNew b) 4).2).1 = s at *
  generalize (anyD (curN (curNew b) 4).2).2 = cA at *
  generalize (curN (curNew b) 4).1 = k at *
  by_cases k0 : k = 0
  · subst k0
    simp -dsimp
    refine ACallW_go ?_
    refine ACallC_go (fun us => f318_ok cA c2) ?_
    simp -dsimp
  have wt : IntKind.i64.wrap (timeOf s + 1) = timeOf s + 1 := wrap64 (by omega) (by omega)
  have hr := curN_bd cA (n := 3) (by decide)
  have c3 : (curN cA 3).2.Ok := curN_ok c2 _
  obtain ⟨g1,g2,g3,g4,g5⟩ := editD_good (curN cA 3).2
  rw [if_neg k0]
  simp -dsimp [k0]
  refine ACallW_go ?_
  refine ACallC_go (fun us => f117_ok cA c2 3) ?_
  simp -dsimp
  refine ACallK_of (f135_ok s (by omega)) ?_
  simp -dsimp [wt]
  refine ACallW_go ?_
  refine ACallC_go (fun us => f155_ok (curN cA 3).2 c3) ?_
  simp -dsimp
  refine ACallK_of (f32_ok s (curN cA 3).1 (timeOf s + 1) (editD (curN cA 3).2).1 hO (by omega) (by omega) (by omega)) ?_
  have hl := actOf_knew s (curN cA 3).1 (timeOf s + 1) (editD (curN cA 3).2).1
  have c4 : (editD (curN cA 3).2).2.Ok := editD_ok c3
  generalize (actOf s (curN cA 3).1 (timeOf s + 1) (editD (curN cA 3).2).1).1 = a at *
  generalize (editD (curN cA 3).2).2 = cB at *
  generalize (curN cA 3).1 = r at *
  by_cases k1 : k = 1
  rotate_left
  · have kb : (k == 1) = false := by simp [k1]
    simp -dsimp [k1,kb]
    simp [twist,k1]
  subst k1
  rcases hl with hl | hl
  · have he : a.knew = [] := List.eq_nil_of_length_eq_zero hl
    simp -dsimp [hl,he]
    simp [twist,he]
  have h0 : 0 < a.knew.length := by omega
  have hne : ¬ a.knew = [] := fun e => by rw [e] at hl; simp at hl
  obtain ⟨m,hm⟩ := Int.eq_ofNat_of_zero_le (tmod_bd (a := r + 1) (n := 3) (by omega) (by decide)).1
  have hm3 := (tmod_bd (a := r + 1) (n := 3) (by omega) (by decide)).2
  have hmk : m < a.knew.length := by omega
  have wr : IntKind.i64.wrap (r + 1) = r + 1 := wrap64 (by omega) (by omega)
  simp -dsimp [h0,hne,wr,hm]
  refine ACallW_go ?_
  refine ACallC_go (fun us => f117_ok cB c4 6) ?_
  simp -dsimp [h0,hne,hm,hmk,ne_of_lt hmk]
  repeat (first|refine ⟨by omega,?_⟩|refine ⟨by simp [capMax];omega,?_⟩|refine ⟨⟨by omega,by omega⟩,?_⟩)
  simp [twist,h0,hm,hne]
end Am
