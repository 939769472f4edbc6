/- Drawn: states that some acts made. No condition. -/
import Derived.Test.YtjbbhccphedkfaaGreatT
import Derived.Test.YtjbbhccphedkfaaGreatD
import Derived.Test.YtjbbhccphedkfaaGreatE71
import Derived.Test.YtjbbhccphedkfaaGreatU6
import Derived.Test.YtjbbhccphedkfaaGreatE55
import Derived.Test.YtjbbhccphedkfaaGreatE59
set_option linter.unusedSimpArgs false
set_option linter.unusedVariables false
set_option linter.unnecessarySimpa false
set_option linter.unusedSectionVars false
namespace Am
open Go Go.Proofs
open Cel (cells)
set_option maxRecDepth 100000
def grAct (s:GState) (c:GCur):GAct × Int:=actOf s (curN c 3).1 (timeOf s + 1 + (curN (editD (curN c 3).2).2 2).1) (editD (curN c 3).2).1
def grCur (c:GCur):GCur:=(curN (editD (curN c 3).2).2 2).2
def grS (s:GState) (c:GCur):GState:=if (grAct s c).2 = 0 then (doAct s (grAct s c).1).1 else s
def grownK (c:GCur) (s:GState):Nat → GState × GCur
  | 0 => (s,c)
  | i + 1 => (grS (grownK c s i).1 (grownK c s i).2,grCur (grownK c s i).2)
theorem grCur_ok {c:GCur} (h:c.Ok):(grCur c).Ok:=curN_ok (editD_ok (curN_ok h _)) _
theorem grownK_cur {c:GCur} (h:c.Ok) (s:GState):∀ i,(grownK c s i).2.Ok
  | 0 => h
  | i + 1 => grCur_ok (grownK_cur h s i)
theorem grS_sok {s:GState} (h:SOK s) (c:GCur):SOK (grS s c):=by
  unfold grS
  split
  · exact sok_of (doAct_sok (of_sok h))
  · exact h
theorem grownK_sok {s:GState} (h:SOK s) (c:GCur):∀ i,SOK (grownK c s i).1
  | 0 => h
  | i + 1 => grS_sok (grownK_sok h c i) _
def stateD (c:GCur):GState × GCur:=grownK (curN c 9).2 stateNew (2 + (curN c 9).1).toNat
theorem stateD_sok (c:GCur):SOK (stateD c).1:=grownK_sok stateNew_sok _ _
theorem stateD_ok {c:GCur} (h:c.Ok):(stateD c).2.Ok:=grownK_cur (curN_ok h _) _ _
@[simp] def h156:Hts:={ merge:=fun _ => false,mergeF:=fun _ => false,lend:=fun f => if f = 50 || f = 177 then [.box []] else [],dr:=fun id => if id = 6 then [{ mn:=[640000],mb:=[25,28,10] },{ mn:=[640000],mb:=[25,28,10] },{ mb:=[10] },{ cr:=true,mb:=[10] },{ mn:=[640000],mb:=[28,10] },{ mb:=[25,10] },{ wr:=[640000],cr:=true,mb:=[10] },{ mb:=[10] },{ mn:=[640000],mb:=[25,28,10] },{ cr:=true,mb:=[10] },{ mb:=[10] },{ mb:=[10] },{ mn:=[640],mb:=[10] },{ mn:=[640000],cr:=true,mb:=[25,28,31] },{ wr:=[640] },{}] else [] }
set_option maxHeartbeats 8000000 in
theorem f156_ok (c:GCur) (hc:c.Ok) (s:GState) (hs:SOK s) (n:Nat) (hn:n ≤ 1000):FnW Tryz.prog 156 [.ptr [.im c.b.length (flat c.b),.int .i64 c.i,.int .i64 c.h],.agg [.ow 3 1 s.know.length (flat s.know),.ow 104 3 s.tallies.length (flat s.tallies),.ow 98 6 s.lives.length (flat s.lives),.ow 100 8 s.cs.length (flat s.cs)],.v (.int .i64 n)] (.agg [.ow 3 1 ((grownK c s n).1).know.length (flat ((grownK c s n).1).know),.ow 104 3 ((grownK c s n).1).tallies.length (flat ((grownK c s n).1).tallies),.ow 98 6 ((grownK c s n).1).lives.length (flat ((grownK c s n).1).lives),.ow 100 8 ((grownK c s n).1).cs.length (flat ((grownK c s n).1).cs)]) [.ptr [.im ((grownK c s n).2).b.length (flat ((grownK c s n).2).b),.int .i64 ((grownK c s n).2).i,.int .i64 ((grownK c s n).2).h],.any,.any]:=by
  refine FnW.of_AW TryzT_ok 1 (fn:=Tryz.f156) (by kernel_rfl) rfl (by kernel_rfl) rfl rfl rfl ?_; refine AW_of h156 TryzT_ok (by kernel_rfl) ?_
  simp -dsimp
  refine AWh_loop (fun i:Nat => i ≤ n) (fun i => mkE [(0,.box 640000 0),(2,.c (.int .i64 n)),(4,.box 256 0),(6,.box 384 0),(7,.c (.int .i64 i))] [(640000,.box [.c (.im ((grownK c s i).2).b.length (flat ((grownK c s i).2).b)),.c (.int .i64 ((grownK c s i).2).i),.c (.int .i64 ((grownK c s i).2).h)]),(256,.box [.arr 640064,.arr 640065,.arr 640066,.arr 640067]),(640064,.arr 0 3 1 (grownK c s i).1.know.length (flat (grownK c s i).1.know)),(640065,.arr 0 104 3 (grownK c s i).1.tallies.length (flat (grownK c s i).1.tallies)),(640066,.arr 0 98 6 (grownK c s i).1.lives.length (flat (grownK c s i).1.lives)),(640067,.arr 0 100 8 (grownK c s i).1.cs.length (flat (grownK c s i).1.cs)),(384,.box [.nil,.nil,.nil,.nil])]) (fun i => n - i) 0 (Wk_to [0,2,4,6,7] [(640000,640000),(256,256),(640064,640064),(640065,640065),(640066,640066),(640067,640067),(384,384)] rfl rfl (by simp [grownK])) (by simp) ?_
  rintro i hi
  have hC:=grownK_cur hc s i
  have hS:=grownK_sok hs c i
  have hO:=sok_Ok hS
  have hO2:=hO
  simp only [GState.Ok] at hO2
  have e1:(grownK c s (i + 1)).1 = grS (grownK c s i).1 (grownK c s i).2:=rfl
  have e2:(grownK c s (i + 1)).2 = grCur (grownK c s i).2:=rfl
  generalize f1:(grownK c s i).1 = s1 at *
  generalize f2:(grownK c s i).2 = c1 at *
  obtain ⟨g1,g2,g3,g4,g5⟩:=editD_good (curN c1 3).2
  have ht:=timeOf_bd hS
  have hb:=curN_bd (editD (curN c1 3).2).2 (n:=2) (by decide)
  have wi:IntKind.i64.wrap ((i:Int) + 1) = i + 1:=wrap64 (by omega) (by omega)
  have w1:IntKind.i64.wrap (timeOf s1 + 1) = timeOf s1 + 1:=wrap64 (by omega) (by omega)
  have w2:IntKind.i64.wrap (timeOf s1 + 1 + (curN (editD (curN c1 3).2).2 2).1) = timeOf s1 + 1 + (curN (editD (curN c1 3).2).2 2).1:=wrap64 (by omega) (by omega)
  refine AW_of h156 TryzT_ok (by kernel_rfl) ?_
  rcases Nat.lt_or_ge i n with q1 | q1
  · simp -dsimp [q1]
    refine ACallW_go ?_
    refine ACallC_go (fun us => f50_ok c1 hC 3) ?_
    simp -dsimp
    refine ACallW_go ?_
    refine ACallC_go (fun us => f177_ok (curN c1 3).2 (curN_ok hC _)) ?_
    simp -dsimp
    refine ACallK_of (f176_ok s1 (by omega)) ?_
    simp -dsimp [w1]
    refine ACallW_go ?_
    refine ACallC_go (fun us => f50_ok (editD (curN c1 3).2).2 (editD_ok (curN_ok hC _)) 2) ?_
    simp -dsimp [w2]
    refine ACallK_of (f175_ok s1 (curN c1 3).1 (timeOf s1 + 1 + (curN (editD (curN c1 3).2).2 2).1) (editD (curN c1 3).2).1 hO (by omega) (by omega) (by omega)) ?_
    have hA:actOf s1 (curN c1 3).1 (timeOf s1 + 1 + (curN (editD (curN c1 3).2).2 2).1) (editD (curN c1 3).2).1 = grAct s1 c1:=rfl
    have hAo:(grAct s1 c1).1.Ok:=actOf_ok hO (by omega) (by omega)
    rw [hA]
    by_cases q:(grAct s1 c1).2 = 0
    · simp -dsimp [q]
      refine ACallK_of (f178_ok s1 (grAct s1 c1).1 hO hAo) ?_
      simp -dsimp [wi]
      exact Back_of (i + 1) [0,2,4,6,7] [(640000,640000),(256,256),(640064,2496),(640065,2497),(640066,2498),(640067,2499),(384,384)] rfl rfl (by simp [e1,e2,grS,grCur,q]) (by omega) (by omega)
    · simp -dsimp [q,wi]
      exact Back_of (i + 1) [0,2,4,6,7] [(640000,640000),(256,256),(640064,640064),(640065,640065),(640066,640066),(640067,640067),(384,384)] rfl rfl (by simp [e1,e2,grS,grCur,q]) (by omega) (by omega)
  · obtain rfl:i = n:=by omega
    simp -dsimp
    rw [f1,f2]
    simp
@[simp] def h96:Hts:={ merge:=fun _ => false,mergeF:=fun _ => false,lend:=fun f => if f = 50 then [.box []] else if f = 156 then [.box [],.lend] else [] }
set_option maxHeartbeats 2000000 in
theorem f96_ok (c:GCur) (hc:c.Ok):FnW Tryz.prog 96 [.ptr [.im c.b.length (flat c.b),.int .i64 c.i,.int .i64 c.h]] (.agg [.ow 3 1 ((stateD c).1).know.length (flat ((stateD c).1).know),.ow 104 3 ((stateD c).1).tallies.length (flat ((stateD c).1).tallies),.ow 98 6 ((stateD c).1).lives.length (flat ((stateD c).1).lives),.ow 100 8 ((stateD c).1).cs.length (flat ((stateD c).1).cs)]) [.ptr [.im ((stateD c).2).b.length (flat ((stateD c).2).b),.int .i64 ((stateD c).2).i,.int .i64 ((stateD c).2).h]]:=by
  have hb:=curN_bd c (n:=9) (by decide)
  obtain ⟨m,hm⟩:=Int.eq_ofNat_of_zero_le (by omega:0 ≤ 2 + (curN c 9).1)
  have w1:IntKind.i64.wrap (2 + (curN c 9).1) = m:=by rw [hm]; exact wrap64 (by omega) (by omega)
  refine FnW.of_AW TryzT_ok 1 (fn:=Tryz.f96) (by kernel_rfl) rfl (by kernel_rfl) rfl rfl rfl ?_; refine AW_of h96 TryzT_ok (by kernel_rfl) ?_
  simp -dsimp
  refine ACallK_of (f132_ok) ?_
  simp -dsimp
  refine ACallW_go ?_
  refine ACallC_go (fun us => f50_ok c hc 9) ?_
  simp -dsimp [w1]
  refine ACallW_go ?_
  refine ACallC_go (fun us => f156_ok (curN c 9).2 (curN_ok hc _) stateNew stateNew_sok m (by omega)) ?_
  simp -dsimp
  simp [stateD,hm]
end Am
namespace Am
open Go Go.Proofs
open Cel (cells)
set_option maxRecDepth 100000
def tA:ByteArray:=⟨#[97]⟩
def tB:ByteArray:=⟨#[98]⟩
def tX:ByteArray:=⟨#[120]⟩
def anyM (k y:Int) (s:GState):GState :=
  if k = 0 then ⟨s.know.set (y.tmod 3).toNat (nth ([0,-1,1001]:List Int) (y.tmod 3).toNat),s.tallies,s.lives,s.cs⟩
  else if k = 1 then ⟨s.know,s.tallies ++ [⟨tA,y.tmod 4,y⟩],s.lives,s.cs⟩
  else if k = 2 then ⟨s.know,s.tallies,s.lives ++ [⟨y.tmod 2 == 0,tA,tX,y.tmod 3,⟨y.tmod 4,1 + y.tmod 5⟩⟩],s.cs⟩
  else if k = 3 then ⟨s.know,s.tallies,s.lives,s.cs ++ [⟨tA,⟨2,1 + y.tmod 9⟩,y.tmod 9,⟨0,y.tmod 3⟩,0,false⟩]⟩
  else if k = 4 then (if 0 < s.cs.length then ⟨s.know,s.tallies,s.lives,s.cs.set (y.tmod s.cs.length).toNat { nth s.cs (y.tmod s.cs.length).toNat with obj:=tB }⟩ else s)
  else s
def anyK (c:GCur):Int × GCur:=curN c 14
def anyY (c:GCur):Int × GCur:=curN (anyK c).2 60
def anyS (c:GCur):GState × GCur:=stateD (anyY c).2
def anyD (c:GCur):GState × GCur:=(anyM (anyK c).1 (anyY c).1 (anyS c).1,(anyS c).2)
theorem anyY_ok {c:GCur} (h:c.Ok):(anyY c).2.Ok:=curN_ok (curN_ok h _) _
theorem anyD_ok {c:GCur} (h:c.Ok):(anyD c).2.Ok:=stateD_ok (anyY_ok h)
theorem set_mem' {α:Type} {l:List α} {i:Nat} {y x:α} (h:x ∈ l.set i y):x = y ∨ x ∈ l:=by
  rcases List.mem_or_eq_of_mem_set h with h | h
  · exact .inr h
  · exact .inl h
theorem anyM_Ok (k y:Int) {s:GState} (h:SOK s):(anyM k y s).Ok:=by
  have hO:=sok_Ok h
  have h1:=h.t1
  have h2:=h.l1
  have h3:=h.c1
  have sA:tA.size ≤ 1073741824:=by decide
  have sB:tB.size ≤ 1073741824:=by decide
  have sX:tX.size ≤ 1073741824:=by decide
  simp only [GState.Ok] at hO
  obtain ⟨o0,o1,o2,o3,o4,o5,o6⟩:=hO
  unfold anyM
  split
  · simp only [GState.Ok,List.length_set]; exact ⟨o0,o1,o2,o3,o4,o5,o6⟩
  split
  · simp only [GState.Ok,List.length_append,List.length_singleton]
    refine ⟨o0,by omega,fun z hz => ?_,o3,o4,o5,o6⟩
    rcases List.mem_append.1 hz with hz | hz
    · exact o2 z hz
    · rw [List.mem_singleton.1 hz]; simp only [GTally.Ok]; exact sA
  split
  · simp only [GState.Ok,List.length_append,List.length_singleton]
    refine ⟨o0,o1,o2,by omega,fun z hz => ?_,o5,o6⟩
    rcases List.mem_append.1 hz with hz | hz
    · exact o4 z hz
    · rw [List.mem_singleton.1 hz]; simp only [GLive.Ok]; exact ⟨sA,sX⟩
  split
  · simp only [GState.Ok,List.length_append,List.length_singleton]
    refine ⟨o0,o1,o2,o3,o4,by omega,fun z hz => ?_⟩
    rcases List.mem_append.1 hz with hz | hz
    · exact o6 z hz
    · rw [List.mem_singleton.1 hz]; simp only [GCell.Ok]; exact sA
  split
  · split
    · simp only [GState.Ok,List.length_set]
      refine ⟨o0,o1,o2,o3,o4,o5,fun z hz => ?_⟩
      rcases set_mem' hz with rfl | hz
      · simp only [GCell.Ok]; exact sB
      · exact o6 z hz
    · simp only [GState.Ok]; exact ⟨o0,o1,o2,o3,o4,o5,o6⟩
  · simp only [GState.Ok]; exact ⟨o0,o1,o2,o3,o4,o5,o6⟩
theorem anyD_Ok (c:GCur):(anyD c).1.Ok:=anyM_Ok _ _ (stateD_sok _)
@[simp] def h32:Hts:={ merge:=fun _ => false,mergeF:=fun _ => false,lend:=fun f => if f = 50 || f = 96 then [.box []] else [],dr:=fun id => if id = 6 then [{ mb:=[20] },{ mb:=[20] },{ mb:=[20] },{ mb:=[20] },{ cr:=true },{ mb:=[20] },{ mb:=[20] },{},{},{ wr:=[768] },{ wr:=[768] }] else if id = 15 then [{},{},{},{},{},{},{},{},{ wr:=[771] },{ wr:=[771] }] else [] }
set_option maxHeartbeats 8000000 in
theorem f32_ok (c:GCur) (hc:c.Ok):FnW Tryz.prog 32 [.ptr [.im c.b.length (flat c.b),.int .i64 c.i,.int .i64 c.h]] (.agg [.ow 3 1 ((anyD c).1).know.length (flat ((anyD c).1).know),.ow 104 3 ((anyD c).1).tallies.length (flat ((anyD c).1).tallies),.ow 98 6 ((anyD c).1).lives.length (flat ((anyD c).1).lives),.ow 100 8 ((anyD c).1).cs.length (flat ((anyD c).1).cs)]) [.ptr [.im ((anyD c).2).b.length (flat ((anyD c).2).b),.int .i64 ((anyD c).2).i,.int .i64 ((anyD c).2).h]]:=by
  have hk:=curN_bd c (n:=14) (by decide)
  have hy:=curN_bd (curN c 14).2 (n:=60) (by decide)
  have hS:SOK (stateD (curN (curN c 14).2 60).2).1:=stateD_sok _
  have hO:=sok_Ok hS
  have hO2:=hO
  simp only [GState.Ok] at hO2
  have d1:(anyD c).1 = anyM (curN c 14).1 (curN (curN c 14).2 60).1 (stateD (curN (curN c 14).2 60).2).1:=rfl
  have d2:(anyD c).2 = (stateD (curN (curN c 14).2 60).2).2:=rfl
  rw [d1,d2]
  refine FnW.of_AW TryzT_ok 1 (fn:=Tryz.f32) (by kernel_rfl) rfl (by kernel_rfl) rfl rfl rfl ?_; refine AW_of h32 TryzT_ok (by kernel_rfl) ?_
  simp -dsimp
  refine ACallW_go ?_
  refine ACallC_go (fun us => f50_ok c hc 14) ?_
  simp -dsimp
  refine ACallW_go ?_
  refine ACallC_go (fun us => f50_ok (curN c 14).2 (curN_ok hc _) 60) ?_
  simp -dsimp
  refine ACallW_go ?_
  refine ACallC_go (fun us => f96_ok (curN (curN c 14).2 60).2 (curN_ok (curN_ok hc _) _)) ?_
  simp -dsimp
  refine ACallK_of (f90_ok (stateD (curN (curN c 14).2 60).2).1 hO) ?_
  generalize (stateD (curN (curN c 14).2 60).2).1 = s at *
  generalize (stateD (curN (curN c 14).2 60).2).2 = c1 at *
  generalize (curN (curN c 14).2 60).1 = y at *
  generalize (curN c 14).1 = k at *
  have hkl:=hS.k
  simp only [knowOk,Bool.and_eq_true,decide_eq_true_eq] at hkl
  have hk3:=hkl.1
  have tm:∀ n:Int,0 < n → ∃ m:Nat,y.tmod n = m ∧ (m:Int) < n:=fun n hn => by
    have:=tmod_bd hy.1 hn
    exact ⟨(y.tmod n).toNat,by omega,by omega⟩
  by_cases k0:k = 0
  · obtain ⟨m,e3,m3⟩:=tm 3 (by omega)
    subst k0
    have l0:0 < s.know.length:=by omega
    have l1:1 < s.know.length:=by omega
    have l2:2 < s.know.length:=by omega
    obtain h0 | h0 | h0:m = 0 ∨ m = 1 ∨ m = 2:=by omega
    · subst h0
      have e3:y.tmod 3 = 0:=by simpa using e3
      simp -dsimp [e3,l0,ne_of_lt l0]
      repeat (first|refine ⟨by omega,?_⟩|refine ⟨by simp [capMax];omega,?_⟩|refine ⟨⟨by omega,by omega⟩,?_⟩)
      simp [anyM,e3,nth]
    · subst h0
      have e3:y.tmod 3 = 1:=by simpa using e3
      simp -dsimp [e3,l1,ne_of_lt l1]
      repeat (first|refine ⟨by omega,?_⟩|refine ⟨by simp [capMax];omega,?_⟩|refine ⟨⟨by omega,by omega⟩,?_⟩)
      simp [anyM,e3,nth]
    · subst h0
      have e3:y.tmod 3 = 2:=by simpa using e3
      simp -dsimp [e3,l2,ne_of_lt l2]
      repeat (first|refine ⟨by omega,?_⟩|refine ⟨by simp [capMax];omega,?_⟩|refine ⟨⟨by omega,by omega⟩,?_⟩)
      simp [anyM,e3,nth]
  by_cases k1:k = 1
  · subst k1
    simp -dsimp
    repeat (first|refine ⟨by omega,?_⟩|refine ⟨by simp [capMax];omega,?_⟩|refine ⟨⟨by omega,by omega⟩,?_⟩)
    simp [anyM,tA]
  by_cases k2:k = 2
  · obtain ⟨m5,e5,b5⟩:=tm 5 (by omega)
    have w5:IntKind.i64.wrap (1 + (m5:Int)) = 1 + m5:=wrap64 (by omega) (by omega)
    subst k2
    simp -dsimp [e5,w5]
    repeat (first|refine ⟨by omega,?_⟩|refine ⟨by simp [capMax];omega,?_⟩|refine ⟨⟨by omega,by omega⟩,?_⟩)
    simp [anyM,tA,tX,e5]
  by_cases k3:k = 3
  · obtain ⟨m9,e9,b9⟩:=tm 9 (by omega)
    have w9:IntKind.i64.wrap (1 + (m9:Int)) = 1 + m9:=wrap64 (by omega) (by omega)
    subst k3
    simp -dsimp [e9,w9]
    repeat (first|refine ⟨by omega,?_⟩|refine ⟨by simp [capMax];omega,?_⟩|refine ⟨⟨by omega,by omega⟩,?_⟩)
    simp [anyM,tA,e9]
  by_cases k4:k = 4
  · subst k4
    rcases Nat.eq_zero_or_pos s.cs.length with z | z
    · have zn:¬ 0 < s.cs.length:=by omega
      have ze:s.cs = []:=List.eq_nil_of_length_eq_zero z
      simp -dsimp [z,ze]
      simp [anyM,zn,ze]
    · obtain ⟨m,em,bm⟩:=tm s.cs.length (by omega)
      have q1:m < s.cs.length:=by omega
      have zl:¬ s.cs.length = 0:=by omega
      have ze:¬ s.cs = []:=fun e => by rw [e] at z; simp at z
      simp -dsimp [em,q1,ne_of_lt q1,z,ze,zl]
      repeat (first|refine ⟨by omega,?_⟩|refine ⟨by simp [capMax];omega,?_⟩|refine ⟨⟨by omega,by omega⟩,?_⟩)
      simp [anyM,z,em,tB]
  simp -dsimp [k0,k1,k2,k3,k4]
  simp [anyM,k0,k1,k2,k3,k4]
end Am
namespace Am
open Go Go.Proofs
open Cel (cells)
set_option maxRecDepth 100000
end Am
namespace Am
open Go
end Am
namespace Am
open Go
end Am
namespace Am
open Go
structure Two (p a b:GState) (D0 D1 D2:List GAct):Prop where
  c0:Canon D0 p
  c1:Canon D1 a
  c2:Canon D2 b
  s1:∀ x,x ∈ D0 → x ∈ D1
  s2:∀ x,x ∈ D0 → x ∈ D2
  r1:∀ x,x ∈ D1 → x ∈ D0 ∨ x.dot.rep = 0
  r2:∀ x,x ∈ D2 → x ∈ D0 ∨ x.dot.rep = 1
  l0:D0.length ≤ 20
  l1:D1.length ≤ 30
  l2:D2.length ≤ 30
end Am
namespace Am
open Go
def stepD (rep:Int) (s:GState) (c:GCur):GState × GCur:=(if (actOf s rep (timeOf s + 1) (editD c).1).2 = 0 then (doAct s (actOf s rep (timeOf s + 1) (editD c).1).1).1 else s,(editD c).2)
def runK (rep:Int):Nat → Int → GState → GCur → GState × GCur
  | 0,_,s,c => (s,c)
  | f + 1,i,s,c => if i < (curN c 5).1 then runK rep f (i + 1) (stepD rep s (curN c 5).2).1 (stepD rep s (curN c 5).2).2 else (s,(curN c 5).2)
theorem stepD_ok {c:GCur} (h:c.Ok) (rep:Int) (s:GState):(stepD rep s c).2.Ok:=editD_ok h
theorem stepD_sok {s:GState} (h:SOK s) (rep:Int) (c:GCur):SOK (stepD rep s c).1:=by
  simp only [stepD]
  split
  · exact sok_of (doAct_sok (of_sok h))
  · exact h
theorem runK_ok (rep:Int):∀ (f:Nat) (i:Int) {s:GState} {c:GCur},SOK s → c.Ok → SOK (runK rep f i s c).1 ∧ (runK rep f i s c).2.Ok
  | 0,_,_,_,hs,hc => ⟨hs,hc⟩
  | f + 1,i,s,c,hs,hc => by
    rw [runK]
    split
    · exact runK_ok rep f (i + 1) (stepD_sok hs rep _) (stepD_ok (curN_ok hc _) rep s)
    · exact ⟨hs,curN_ok hc _⟩
def twoP (c:GCur):GState × GCur:=grownK (curN c 5).2 stateNew (1 + (curN c 5).1).toNat
def twoA (c:GCur):GState × GCur:=runK 0 5 0 (twoP c).1 (twoP c).2
def twoB (c:GCur):GState × GCur:=runK 1 5 0 (twoP c).1 (twoA c).2
theorem twoP_sok (c:GCur):SOK (twoP c).1:=grownK_sok stateNew_sok _ _
theorem twoP_ok {c:GCur} (h:c.Ok):(twoP c).2.Ok:=grownK_cur (curN_ok h _) _ _
theorem twoA_sok {c:GCur} (h:c.Ok):SOK (twoA c).1:=(runK_ok 0 5 0 (twoP_sok c) (twoP_ok h)).1
theorem twoA_ok {c:GCur} (h:c.Ok):(twoA c).2.Ok:=(runK_ok 0 5 0 (twoP_sok c) (twoP_ok h)).2
theorem twoB_ok {c:GCur} (h:c.Ok):(twoB c).2.Ok:=(runK_ok 1 5 0 (twoP_sok c) (twoA_ok h)).2
end Am
namespace Am
open Go Go.Proofs
open Cel (cells)
set_option maxRecDepth 100000
@[simp] def h135:Hts:={ merge:=fun _ => false,mergeF:=fun _ => false,own:=fun d => !(d == 28),lend:=fun f => if f = 177 then [.box []] else [],dr:=fun id => if id = 1 then [{ mn:=[640000],mb:=[15,18,7] },{ mn:=[640000],mb:=[15,18,7] },{ mb:=[7] },{ cr:=true,mb:=[7] },{ mn:=[640000],mb:=[18,7] },{ mb:=[15,7] },{ wr:=[640000],cr:=true,mb:=[7] },{ cr:=true,mb:=[7] },{ mb:=[7] },{ mb:=[7] },{ mn:=[448],mb:=[7] },{ mn:=[640000],cr:=true,mb:=[15,18,19] },{ wr:=[448] },{}] else [] }
set_option maxHeartbeats 4000000 in
theorem f135_ok (c:GCur) (hc:c.Ok) (s:GState) (hs:SOK s) (rep:Int):FnW Tryz.prog 135 [.ptr [.im c.b.length (flat c.b),.int .i64 c.i,.int .i64 c.h],.agg [.im s.know.length (flat s.know),.im s.tallies.length (flat s.tallies),.im s.lives.length (flat s.lives),.im s.cs.length (flat s.cs)],.v (.int .i64 rep)] (.agg [.im ((stepD rep s c).1).know.length (flat ((stepD rep s c).1).know),.im ((stepD rep s c).1).tallies.length (flat ((stepD rep s c).1).tallies),.im ((stepD rep s c).1).lives.length (flat ((stepD rep s c).1).lives),.im ((stepD rep s c).1).cs.length (flat ((stepD rep s c).1).cs)]) [.ptr [.im ((stepD rep s c).2).b.length (flat ((stepD rep s c).2).b),.int .i64 ((stepD rep s c).2).i,.int .i64 ((stepD rep s c).2).h],.any,.any]:=by
  have hO:=sok_Ok hs
  have hO2:=hO
  simp only [GState.Ok] at hO2
  have ht:=timeOf_bd hs
  have wt:IntKind.i64.wrap (timeOf s + 1) = timeOf s + 1:=wrap64 (by omega) (by omega)
  obtain ⟨g1,g2,g3,g4,g5⟩:=editD_good c
  have hAo:(actOf s rep (timeOf s + 1) (editD c).1).1.Ok:=actOf_ok hO (by omega) (by omega)
  refine FnW.of_AW TryzT_ok 1 (fn:=Tryz.f135) (by kernel_rfl) rfl (by kernel_rfl) rfl rfl rfl ?_; refine AW_of h135 TryzT_ok (by kernel_rfl) ?_
  simp -dsimp
  refine ACallK_of (f176_ok s (by omega)) ?_
  simp -dsimp [wt]
  refine ACallW_go ?_
  refine ACallC_go (fun us => f177_ok c hc) ?_
  simp -dsimp
  refine ACallK_of (f175_ok s rep (timeOf s + 1) (editD c).1 hO (by omega) (by omega) (by omega)) ?_
  by_cases q:(actOf s rep (timeOf s + 1) (editD c).1).2 = 0
  · simp -dsimp [q]
    refine ACallK_of (f178_ok s (actOf s rep (timeOf s + 1) (editD c).1).1 hO hAo) ?_
    simp -dsimp
    simp [stepD,q]
  · simp -dsimp [q]
    simp [stepD,q]
@[simp] def h163:Hts:={ merge:=fun _ => false,mergeF:=fun _ => false,own:=fun d => !(d == 15),lend:=fun f => if f = 50 || f = 135 then [.box []] else if f = 156 then [.box [],.lend] else [],dr:=fun id => if id = 12 then [{},{ mn:=[128] },{ mn:=[128,192] },{ wr:=[128] },{ wr:=[192] },{ wr:=[256] }] else [] }
set_option maxHeartbeats 8000000 in
theorem f163_ok (c:GCur) (hc:c.Ok):FnW Tryz.prog 163 [.ptr [.im c.b.length (flat c.b),.int .i64 c.i,.int .i64 c.h]] (.tup [.agg [.im ((twoP c).1).know.length (flat ((twoP c).1).know),.im ((twoP c).1).tallies.length (flat ((twoP c).1).tallies),.im ((twoP c).1).lives.length (flat ((twoP c).1).lives),.im ((twoP c).1).cs.length (flat ((twoP c).1).cs)],.agg [.im ((twoA c).1).know.length (flat ((twoA c).1).know),.im ((twoA c).1).tallies.length (flat ((twoA c).1).tallies),.im ((twoA c).1).lives.length (flat ((twoA c).1).lives),.im ((twoA c).1).cs.length (flat ((twoA c).1).cs)],.agg [.im ((twoB c).1).know.length (flat ((twoB c).1).know),.im ((twoB c).1).tallies.length (flat ((twoB c).1).tallies),.im ((twoB c).1).lives.length (flat ((twoB c).1).lives),.im ((twoB c).1).cs.length (flat ((twoB c).1).cs)]]) [.ptr [.im ((twoB c).2).b.length (flat ((twoB c).2).b),.int .i64 ((twoB c).2).i,.int .i64 ((twoB c).2).h]]:=by
  have hP:=twoP_sok c
  have hA:=twoA_sok hc
  have hb:=curN_bd c (n:=5) (by decide)
  obtain ⟨m,hm⟩:=Int.eq_ofNat_of_zero_le (by omega:0 ≤ 1 + (curN c 5).1)
  have w1:IntKind.i64.wrap (1 + (curN c 5).1) = m:=by rw [hm]; exact wrap64 (by omega) (by omega)
  have eP:grownK (curN c 5).2 stateNew m = twoP c:=by unfold twoP; rw [hm]; rfl
  refine FnW.of_AW TryzT_ok 1 (fn:=Tryz.f163) (by kernel_rfl) rfl (by kernel_rfl) rfl rfl rfl ?_; refine AW_of h163 TryzT_ok (by kernel_rfl) ?_
  simp -dsimp
  refine ACallK_of (f132_ok) ?_
  simp -dsimp
  refine ACallW_go ?_
  refine ACallC_go (fun us => f50_ok c hc 5) ?_
  simp -dsimp [w1]
  refine ACallW_go ?_
  refine ACallC_go (fun us => f156_ok (curN c 5).2 (curN_ok hc _) stateNew stateNew_sok m (by omega)) ?_
  rw [eP]
  simp -dsimp
  refine AWh_loop (fun q:Nat × GState × GCur => q.1 ≤ 4 ∧ SOK q.2.1 ∧ q.2.2.Ok ∧ runK 0 (5 - q.1) q.1 q.2.1 q.2.2 = twoA c) (fun q => mkE [(0,.box 640000 0),(2,.box 128 0),(3,.box 192 0),(4,.box 256 0),(5,.box 320 0),(6,.box 384 0),(7,.box 448 0),(8,.c (.int .i64 q.1))] [(640000,.box [.c (.im q.2.2.b.length (flat q.2.2.b)),.c (.int .i64 q.2.2.i),.c (.int .i64 q.2.2.h)]),(128,.box [.nil,.nil,.nil,.nil]),(192,.box [.nil,.nil,.nil,.nil]),(256,.box [.nil,.nil,.nil,.nil]),(320,.box [.c (.im ((twoP c).1).know.length (flat ((twoP c).1).know)),.c (.im ((twoP c).1).tallies.length (flat ((twoP c).1).tallies)),.c (.im ((twoP c).1).lives.length (flat ((twoP c).1).lives)),.c (.im ((twoP c).1).cs.length (flat ((twoP c).1).cs))]),(384,.box [.c (.im q.2.1.know.length (flat q.2.1.know)),.c (.im q.2.1.tallies.length (flat q.2.1.tallies)),.c (.im q.2.1.lives.length (flat q.2.1.lives)),.c (.im q.2.1.cs.length (flat q.2.1.cs))]),(448,.box [.c (.im ((twoP c).1).know.length (flat ((twoP c).1).know)),.c (.im ((twoP c).1).tallies.length (flat ((twoP c).1).tallies)),.c (.im ((twoP c).1).lives.length (flat ((twoP c).1).lives)),.c (.im ((twoP c).1).cs.length (flat ((twoP c).1).cs))])]) (fun q => 5 - q.1) (0,(twoP c).1,(twoP c).2) (Wk_to [0,2,3,4,5,6,7,8] [(640000,640000),(128,128),(192,192),(256,256),(320,320),(384,384),(448,448)] rfl rfl (by simp [twoP])) ⟨by simp,hP,twoP_ok hc,rfl⟩ ?_
  rintro ⟨i,s,d⟩ ⟨hi,hs,hd,hq⟩
  simp only at hi hs hd hq
  refine AW_of h163 TryzT_ok (by kernel_rfl) ?_
  have hb:=curN_bd d (n:=5) (by decide)
  have wi:IntKind.i64.wrap ((i:Int) + 1) = i + 1:=wrap64 (by omega) (by omega)
  obtain ⟨f,hf⟩:∃ f:Nat,5 - i = f + 1:=⟨4 - i,by omega⟩
  rw [hf,runK] at hq
  simp -dsimp
  refine ACallW_go ?_
  refine ACallC_go (fun us => f50_ok d hd 5) ?_
  rcases Int.lt_or_le (i:Int) (curN d 5).1 with h1 | h1
  · rw [if_pos h1] at hq
    simp -dsimp [h1]
    refine ACallW_go ?_
    refine ACallC_go (fun us => f135_ok (curN d 5).2 (curN_ok hd _) s hs 0) ?_
    simp -dsimp [wi]
    exact Back_of (i + 1,(stepD 0 s (curN d 5).2).1,(stepD 0 s (curN d 5).2).2) [0,2,3,4,5,6,7,8] [(640000,640000),(128,128),(192,192),(256,256),(320,320),(384,384),(448,448)] rfl rfl (by simp) ⟨by simp only; omega,stepD_sok hs _ _,stepD_ok (curN_ok hd _) _ _,by simp only; rw [← hq]; congr 1; omega⟩ (by simp only; omega)
  have h1':¬ (i:Int) < (curN d 5).1:=by omega
  rw [if_neg h1'] at hq
  simp -dsimp [h1']
  have e1:(twoA c).1 = s:=by rw [← hq]
  have e2:(twoA c).2 = (curN d 5).2:=by rw [← hq]
  rw [← e1,← e2]
  clear hq h1 h1' hf wi hb hi hs hd
  refine AWh_loop (fun q:Nat × GState × GCur => q.1 ≤ 4 ∧ SOK q.2.1 ∧ q.2.2.Ok ∧ runK 1 (5 - q.1) q.1 q.2.1 q.2.2 = twoB c) (fun q => mkE [(0,.box 640000 0),(2,.box 128 0),(3,.box 192 0),(4,.box 256 0),(5,.box 320 0),(6,.box 384 0),(7,.box 448 0),(9,.c (.int .i64 q.1))] [(640000,.box [.c (.im q.2.2.b.length (flat q.2.2.b)),.c (.int .i64 q.2.2.i),.c (.int .i64 q.2.2.h)]),(128,.box [.nil,.nil,.nil,.nil]),(192,.box [.nil,.nil,.nil,.nil]),(256,.box [.nil,.nil,.nil,.nil]),(320,.box [.c (.im ((twoP c).1).know.length (flat ((twoP c).1).know)),.c (.im ((twoP c).1).tallies.length (flat ((twoP c).1).tallies)),.c (.im ((twoP c).1).lives.length (flat ((twoP c).1).lives)),.c (.im ((twoP c).1).cs.length (flat ((twoP c).1).cs))]),(384,.box [.c (.im ((twoA c).1).know.length (flat ((twoA c).1).know)),.c (.im ((twoA c).1).tallies.length (flat ((twoA c).1).tallies)),.c (.im ((twoA c).1).lives.length (flat ((twoA c).1).lives)),.c (.im ((twoA c).1).cs.length (flat ((twoA c).1).cs))]),(448,.box [.c (.im q.2.1.know.length (flat q.2.1.know)),.c (.im q.2.1.tallies.length (flat q.2.1.tallies)),.c (.im q.2.1.lives.length (flat q.2.1.lives)),.c (.im q.2.1.cs.length (flat q.2.1.cs))])]) (fun q => 5 - q.1) (0,(twoP c).1,(twoA c).2) (Wk_to [0,2,3,4,5,6,7,9] [(640000,640000),(128,128),(192,192),(256,256),(320,320),(384,384),(448,448)] rfl rfl (by simp)) ⟨by simp,hP,twoA_ok hc,rfl⟩ ?_
  rintro ⟨i,s,d⟩ ⟨hi,hs,hd,hq⟩
  simp only at hi hs hd hq
  refine AW_of h163 TryzT_ok (by kernel_rfl) ?_
  have hb:=curN_bd d (n:=5) (by decide)
  have wi:IntKind.i64.wrap ((i:Int) + 1) = i + 1:=wrap64 (by omega) (by omega)
  obtain ⟨f,hf⟩:∃ f:Nat,5 - i = f + 1:=⟨4 - i,by omega⟩
  rw [hf,runK] at hq
  simp -dsimp
  refine ACallW_go ?_
  refine ACallC_go (fun us => f50_ok d hd 5) ?_
  rcases Int.lt_or_le (i:Int) (curN d 5).1 with h1 | h1
  · rw [if_pos h1] at hq
    simp -dsimp [h1]
    refine ACallW_go ?_
    refine ACallC_go (fun us => f135_ok (curN d 5).2 (curN_ok hd _) s hs 1) ?_
    simp -dsimp [wi]
    exact Back_of (i + 1,(stepD 1 s (curN d 5).2).1,(stepD 1 s (curN d 5).2).2) [0,2,3,4,5,6,7,9] [(640000,640000),(128,128),(192,192),(256,256),(320,320),(384,384),(448,448)] rfl rfl (by simp) ⟨by simp only; omega,stepD_sok hs _ _,stepD_ok (curN_ok hd _) _ _,by simp only; rw [← hq]; congr 1; omega⟩ (by simp only; omega)
  have h1':¬ (i:Int) < (curN d 5).1:=by omega
  rw [if_neg h1'] at hq
  simp -dsimp [h1']
  have e1:(twoB c).1 = s:=by rw [← hq]
  have e2:(twoB c).2 = (curN d 5).2:=by rw [← hq]
  rw [← e1,← e2]
  simp
end Am
namespace Am
open Go Go.Proofs
open Cel (cells)
set_option maxRecDepth 100000
end Am
