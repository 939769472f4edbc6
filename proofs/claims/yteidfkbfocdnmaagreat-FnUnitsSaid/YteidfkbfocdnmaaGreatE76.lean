/- What an act does to lists: of both. No condition. -/
import Derived.Test.YteidfkbfocdnmaaGreatT
import Derived.Test.YteidfkbfocdnmaaGreatD
import Derived.Test.YteidfkbfocdnmaaGreatE56
import Derived.Test.YteidfkbfocdnmaaGreatE16
import Derived.Test.YteidfkbfocdnmaaGreatE64
import Derived.Test.YteidfkbfocdnmaaGreatAm31
set_option linter.unusedSimpArgs false
set_option linter.unusedVariables false
set_option linter.unnecessarySimpa false
set_option linter.unusedSectionVars false
namespace Am
open Go Go.Proofs
open Cel (cells)
set_option maxRecDepth 100000
def keepK (m:Bool) (o k:ByteArray) (kn:List Int) (x:GLive):Bool:=!((x.map == m) && (decide (x.obj = o) && (decide (x.key = k) && knows kn x.dot)))
def clearK (m:Bool) (o k:ByteArray) (kn:List Int) (l:List GLive) (i:Nat):List GLive:=filK (keepK m o k kn) [] l i
theorem clearK_len (m:Bool) (o k:ByteArray) (kn:List Int) (l:List GLive) (i:Nat):(clearK m o k kn l i).length ≤ i:=by
  have:=filK_len (keepK m o k kn) [] l i
  simpa [clearK] using this
@[simp] def h287:Hts:={ merge:=fun _ => false,mergeF:=fun _ => false }
set_option maxHeartbeats 4000000 in
theorem f287_ok (u0 u1 u3:Value) (l:List GLive) (m:Bool) (o k:ByteArray) (kn:List Int) (ha:l.length ≤ 1000000) (hk:kn.length ≤ 1073741824):FnW Tryz.prog 287 [.ptr [.tk u0,.tk u1,.ow 159 6 l.length (flat l),.tk u3],.v (.bool m),.v (.str o),.v (.str k),.v (.im kn.length (flat kn))] (.tup []) [.ptr [.tk u0,.tk u1,.ow 159 6 (clearK m o k kn l l.length).length (flat (clearK m o k kn l l.length)),.tk u3],.any,.any,.any,.any]:=by
  refine FnW.of_AW TryzT_ok 1 (fn:=Tryz.f287) (by kernel_rfl) rfl (by kernel_rfl) rfl rfl rfl ?_; refine AW_of h287 TryzT_ok (by kernel_rfl) ?_
  simp -dsimp
  refine AWh_loop (fun i:Nat => i ≤ l.length) (fun i => mkE [(0,.box 640000 0),(1,.c (.bool m)),(2,.c (.str o)),(3,.c (.str k)),(4,.c (.im kn.length (flat kn))),(10,.arr 900001),(11,.c (.int .i64 i))] [(900001,.arr 0 159 6 (clearK m o k kn l i).length (flat (clearK m o k kn l i))),(640000,.box [.c (.tk u0),.c (.tk u1),.arr 640003,.c (.tk u3)]),(640003,.arr 0 159 6 l.length (flat l))]) (fun i => l.length - i) 0 (Wk_to [0,1,2,3,4,10,11] [(900001,832),(640000,640000),(640003,640003)] rfl rfl (by simp [clearK,filK])) (by simp) ?_
  rintro i hi
  have hcl:=clearK_len m o k kn l i
  refine AW_of h287 TryzT_ok (by kernel_rfl) ?_
  rcases Nat.lt_or_ge i l.length with h1 | h1
  · by_cases e1:(nth l i).map = m
    case neg =>
      have b1:((nth l i).map != m) = true:=by simp [e1]
      have b2:((nth l i).map ^^ m) = true:=by revert e1; cases (nth l i).map <;> cases m <;> simp
      have b3:((nth l i).map == m) = false:=by simp [e1]
      have hn:(clearK m o k kn l (i + 1)) = (clearK m o k kn l i) ++ [nth l i]:=by simp [clearK,filK,keepK,e1]
      simp -dsimp [h1,ne_of_lt h1,b1,b2,b3]
      repeat (first|refine ⟨by omega,?_⟩|refine ⟨by simp [capMax];omega,?_⟩|refine ⟨⟨by omega,by omega⟩,?_⟩)
      exact Back_of (i + 1) [0,1,2,3,4,10,11] [(900001,3584),(640000,640000),(640003,640003)] rfl rfl (by simp [hn]; rw [wrap64 (by omega) (by omega)]) (by omega) (by omega)
    have b1:((nth l i).map != m) = false:=by simp [e1]
    have b2:((nth l i).map ^^ m) = false:=by rw [e1]; cases m <;> rfl
    have b3:((nth l i).map == m) = true:=by simp [e1]
    by_cases e2:(nth l i).obj = o
    case neg =>
      have hn:(clearK m o k kn l (i + 1)) = (clearK m o k kn l i) ++ [nth l i]:=by simp [clearK,filK,keepK,e2]
      simp -dsimp [h1,ne_of_lt h1,b1,b2,b3,e2]
      repeat (first|refine ⟨by omega,?_⟩|refine ⟨by simp [capMax];omega,?_⟩|refine ⟨⟨by omega,by omega⟩,?_⟩)
      exact Back_of (i + 1) [0,1,2,3,4,10,11] [(900001,3584),(640000,640000),(640003,640003)] rfl rfl (by simp [hn]; rw [wrap64 (by omega) (by omega)]) (by omega) (by omega)
    by_cases e3:(nth l i).key = k
    case neg =>
      have hn:(clearK m o k kn l (i + 1)) = (clearK m o k kn l i) ++ [nth l i]:=by simp [clearK,filK,keepK,e3]
      simp -dsimp [h1,ne_of_lt h1,b1,b2,b3,eq_true e2,e3]
      repeat (first|refine ⟨by omega,?_⟩|refine ⟨by simp [capMax];omega,?_⟩|refine ⟨⟨by omega,by omega⟩,?_⟩)
      exact Back_of (i + 1) [0,1,2,3,4,10,11] [(900001,3584),(640000,640000),(640003,640003)] rfl rfl (by simp [hn]; rw [wrap64 (by omega) (by omega)]) (by omega) (by omega)
    simp -dsimp [h1,ne_of_lt h1,b1,b2,b3,eq_true e2,eq_true e3]
    repeat (first|refine ⟨by omega,?_⟩|refine ⟨by simp [capMax];omega,?_⟩|refine ⟨⟨by omega,by omega⟩,?_⟩)
    refine ACallK_of (f17_ok _ _ hk) ?_
    cases g:knows kn (nth l i).dot
    · skip
      have hn:(clearK m o k kn l (i + 1)) = (clearK m o k kn l i) ++ [nth l i]:=by simp [clearK,filK,keepK,g]
      simp -dsimp [h1,ne_of_lt h1,b1,b2,b3]
      repeat (first|refine ⟨by omega,?_⟩|refine ⟨by simp [capMax];omega,?_⟩|refine ⟨⟨by omega,by omega⟩,?_⟩)
      exact Back_of (i + 1) [0,1,2,3,4,10,11] [(900001,3584),(640000,640000),(640003,640003)] rfl rfl (by simp [hn]; rw [wrap64 (by omega) (by omega)]) (by omega) (by omega)
    · skip
      have hn:(clearK m o k kn l (i + 1)) = (clearK m o k kn l i):=by simp [clearK,filK,keepK,e1,e2,e3,g]
      simp -dsimp [h1,ne_of_lt h1,b1,b2,b3]
      repeat (first|refine ⟨by omega,?_⟩|refine ⟨by simp [capMax];omega,?_⟩|refine ⟨⟨by omega,by omega⟩,?_⟩)
      exact Back_of (i + 1) [0,1,2,3,4,10,11] [(900001,900001),(640000,640000),(640003,640003)] rfl rfl (by simp [hn]; rw [wrap64 (by omega) (by omega)]) (by omega) (by omega)
  · obtain rfl:i = l.length:=by omega
    simp -dsimp
end Am
namespace Am
open Go Go.Proofs
open Cel (cells)
set_option maxRecDepth 100000
def refAtI (s:GState) (a:GAct):Nat:=(cellAt s.cs a.ref).toNat
def actRefOk (s:GState) (a:GAct):Bool:=if a.kind = 7 ∨ (a.kind = 6 ∧ ¬ a.ref = zeroDot) then decide (0 ≤ cellAt s.cs a.ref) && (decide ((nth s.cs (refAtI s a)).obj = a.obj) && (a.kind == 7 || decide ((nth s.cs (refAtI s a)).time < a.time))) else true
@[simp] def h166:Hts:={ merge:=fun _ => false,mergeF:=fun _ => false,dr:=fun id => if id = 4 then [{},{},{},{},{},{},{},{},{},{},{},{},{},{},{},{},{},{},{},{},{},{},{},{},{},{},{},{},{},{}] else [] }
set_option maxHeartbeats 4000000 in
theorem f166_ok (s:GState) (a:GAct) (hs:s.cs.length ≤ 1073741824):FnR Tryz.prog 166 [.agg [.im s.know.length (flat s.know),.im s.tallies.length (flat s.tallies),.im s.lives.length (flat s.lives),.im s.cs.length (flat s.cs)],.agg [.int .i64 a.dot.rep,.int .i64 a.dot.seq,.int .i64 a.time,.im a.knew.length (flat a.knew),.int .i64 a.kind,.str a.obj,.str a.key,.int .i64 a.val,.int .i64 a.ref.rep,.int .i64 a.ref.seq]] (.v (.bool (actRefOk s a))):=by
  obtain ⟨dot,time,knew,kind,obj,key,val,ref⟩:=a
  refine FnW.of_AW TryzT_ok 0 (fn:=Tryz.f166) (by kernel_rfl) rfl (by kernel_rfl) rfl rfl rfl ?_; refine AW_of h166 TryzT_ok (by kernel_rfl) ?_
  have goon:(kind = 7 ∨ (kind = 6 ∧ ¬ ref = zeroDot)) → actRefOk s ⟨dot,time,knew,kind,obj,key,val,ref⟩ = (decide (0 ≤ cellAt s.cs ref) && (decide ((nth s.cs (cellAt s.cs ref).toNat).obj = obj) && (kind == 7 || decide ((nth s.cs (cellAt s.cs ref).toNat).time < time)))):=fun h => by simp only [actRefOk,refAtI]; rw [if_pos h]; rfl
  by_cases k7:kind = 7
  · subst k7
    have hg:=goon (.inl rfl)
    simp -dsimp
    refine ACallK_of (f45_ok s ref hs) ?_
    rcases cellAt_cases s.cs ref with c1 | ⟨j,hj,c1⟩
    · rw [c1] at hg ⊢
      simp -dsimp
      simp [hg]
    · rw [c1] at hg ⊢
      have jn:¬ (j:Int) < 0:=by omega
      by_cases o1:(nth s.cs j).obj = obj
      · simp -dsimp [hj,ne_of_lt hj,jn,eq_true o1]
        repeat (first|refine ⟨by omega,?_⟩|refine ⟨by simp [capMax];omega,?_⟩|refine ⟨⟨by omega,by omega⟩,?_⟩)
        simp [hg,o1]
      · simp -dsimp [hj,ne_of_lt hj,jn,o1]
        repeat (first|refine ⟨by omega,?_⟩|refine ⟨by simp [capMax];omega,?_⟩|refine ⟨⟨by omega,by omega⟩,?_⟩)
        simp [hg,o1]
  have b7:(kind != 7) = true:=by simp [k7]
  have b7':(kind == 7) = false:=by simp [k7]
  by_cases k6:kind = 6
  case neg =>
    have b6:(kind != 6) = true:=by simp [k6]
    simp -dsimp [b7,b6]
    simp [actRefOk,k6,k7]
  subst k6
  by_cases rz:ref = zeroDot
  · have z1:ref.rep = 0:=by rw [rz]; rfl
    have z2:ref.seq = 0:=by rw [rz]; rfl
    simp -dsimp [z1,z2]
    simp [actRefOk,rz]
  have rz':(ref.rep == 0 && ref.seq == 0) = false:=by
    rw [Bool.eq_false_iff]; intro h; exact rz (by simpa [GDot.ext_iff,zeroDot] using h)
  have hg:=goon (.inr ⟨rfl,rz⟩)
  simp -dsimp [rz']
  refine ACallK_of (f45_ok s ref hs) ?_
  rcases cellAt_cases s.cs ref with c1 | ⟨j,hj,c1⟩
  · rw [c1] at hg ⊢
    simp -dsimp
    simp [hg]
  · rw [c1] at hg ⊢
    have jn:¬ (j:Int) < 0:=by omega
    by_cases o1:(nth s.cs j).obj = obj
    · simp -dsimp [hj,ne_of_lt hj,jn,eq_true o1]
      repeat (first|refine ⟨by omega,?_⟩|refine ⟨by simp [capMax];omega,?_⟩|refine ⟨⟨by omega,by omega⟩,?_⟩)
      simp [hg,o1]
    · simp -dsimp [hj,ne_of_lt hj,jn,o1]
      repeat (first|refine ⟨by omega,?_⟩|refine ⟨by simp [capMax];omega,?_⟩|refine ⟨⟨by omega,by omega⟩,?_⟩)
      simp [hg,o1]
end Am
namespace Am
open Go Go.Proofs
open Cel (cells)
set_option maxRecDepth 100000
def doneAct (s:GState) (a:GAct):GState :=
  let k:=s.know.set a.dot.rep.toNat a.dot.seq
  if a.kind = 1 then ⟨k,addT s.tallies a.obj a.dot.rep a.val,s.lives,s.cs⟩
  else if a.kind = 2 then ⟨k,s.tallies,insF liveLt ⟨false,a.obj,a.key,0,a.dot⟩ s.lives,s.cs⟩
  else if a.kind = 3 then ⟨k,s.tallies,clearK false a.obj a.key a.knew s.lives s.lives.length,s.cs⟩
  else if a.kind = 4 then ⟨k,s.tallies,insF liveLt ⟨true,a.obj,a.key,a.val,a.dot⟩ (clearK true a.obj a.key a.knew s.lives s.lives.length),s.cs⟩
  else if a.kind = 5 then ⟨k,s.tallies,clearK true a.obj a.key a.knew s.lives s.lives.length,s.cs⟩
  else if a.kind = 6 then ⟨k,s.tallies,s.lives,insF cellLt ⟨a.obj,a.dot,a.time,a.ref,a.val,false⟩ s.cs⟩
  else ⟨k,s.tallies,s.lives,s.cs.set (refAtI s a) { nth s.cs (refAtI s a) with gone:=true }⟩
def doAct (s:GState) (a:GAct):GState × Int :=
  if stateOk s = false then (s,3) else if actOk a = false then (s,3) else if knows s.know a.dot = true then (s,1) else
  if knowIn a.knew s.know = false then (s,2) else if actRefOk s a = false then (s,3) else
  if tooMany (doneAct s a) = true then (s,4) else (doneAct s a,0)
structure ActF (s:GState) (a:GAct):Prop where
  r0:0 ≤ a.dot.rep
  r1:a.dot.rep.toNat < s.know.length
  k1:1 ≤ a.kind
  k7:a.kind ≤ 7
  v0:0 ≤ a.val
  v1:a.val ≤ 999999
  ref:a.kind = 7 → ∃ j:Nat,j < s.cs.length ∧ cellAt s.cs a.ref = j
theorem actF_of {s:GState} {a:GAct} (ks:stateOk s = true) (ka:actOk a = true) (kr:actRefOk s a = true):ActF s a:=by
  have hk:=stateOk_know ks
  simp only [actOk,Bool.and_eq_true] at ka
  obtain ⟨⟨⟨⟨⟨a1,a2⟩,a3⟩,a4⟩,a5⟩,a6⟩:=ka
  simp only [dotOk,spIn,Bool.and_eq_true,decide_eq_true_eq] at a1
  simp only [plain,spIn,Bool.and_eq_true,Bool.or_eq_true,decide_eq_true_eq,beq_iff_eq] at a5
  refine ⟨by omega,by omega,by omega,by omega,by omega,by omega,fun h7 => ?_⟩
  simp only [actRefOk,h7,true_or,if_true,Bool.and_eq_true,decide_eq_true_eq] at kr
  rcases cellAt_cases s.cs a.ref with c1 | ⟨j,hj,c1⟩
  · omega
  · exact ⟨j,hj,c1⟩
@[simp] def h167:Hts:={ merge:=fun _ => false,mergeF:=fun _ => false,lend:=fun f => if f = 275 then [.box [0,2,3]] else if f = 287 then [.box [0,1,3]] else [],dr:=fun id => if id = 1 then [{},{},{},{},{},{},{},{},{},{},{ wr:=[640001] },{ wr:=[640001] }] else if id = 6 then [{ mb:=[42] },{},{},{},{},{},{},{},{},{},{},{},{ cr:=true },{},{ wr:=[640000] },{ wr:=[640000] }] else if id = 11 then [{ mb:=[79] },{},{},{},{},{},{},{},{},{},{},{},{},{},{ cr:=true },{},{ wr:=[640000] },{ wr:=[640000] }] else if id = 15 then [{ mb:=[110] },{},{},{},{},{},{},{},{},{},{},{},{},{},{},{},{ cr:=true },{},{ wr:=[640000] },{ wr:=[640000] }] else if id = 17 then [{ mb:=[124] },{ mb:=[124] },{ mb:=[124] },{ mb:=[124] },{},{},{},{},{},{ cr:=true },{},{ wr:=[640004] },{ wr:=[640004] }] else [] }
set_option maxHeartbeats 8000000 in
theorem f167_ok (s:GState) (a:GAct) (hs:s.Ok) (F:ActF s a) (hk:a.knew.length ≤ 1073741824) (l1:s.tallies.length ≤ 120) (l2:s.lives.length ≤ 120) (l3:s.cs.length ≤ 120):FnW Tryz.prog 167 [.ptr [.ow 3 1 s.know.length (flat s.know),.ow 179 3 s.tallies.length (flat s.tallies),.ow 159 6 s.lives.length (flat s.lives),.ow 72 8 s.cs.length (flat s.cs)],.agg [.int .i64 a.dot.rep,.int .i64 a.dot.seq,.int .i64 a.time,.im a.knew.length (flat a.knew),.int .i64 a.kind,.str a.obj,.str a.key,.int .i64 a.val,.int .i64 a.ref.rep,.int .i64 a.ref.seq]] (.tup []) [.ptr [.ow 3 1 (doneAct s a).know.length (flat (doneAct s a).know),.ow 179 3 (doneAct s a).tallies.length (flat (doneAct s a).tallies),.ow 159 6 (doneAct s a).lives.length (flat (doneAct s a).lives),.ow 72 8 (doneAct s a).cs.length (flat (doneAct s a).cs)],.any]:=by
  obtain ⟨dot,time,knew,kind,obj,key,val,ref⟩:=a
  obtain ⟨f0,f1,f2,f3,f4,f5,f6⟩:=F
  simp only at f0 f1 f2 f3 f4 f5 f6 hk
  have hkl:=clearK_len false obj key knew s.lives s.lives.length
  have hkl2:=clearK_len true obj key knew s.lives s.lives.length
  refine FnW.of_AW TryzT_ok 1 (fn:=Tryz.f167) (by kernel_rfl) rfl (by kernel_rfl) rfl rfl rfl ?_; refine AW_of h167 TryzT_ok (by kernel_rfl) ?_
  obtain rfl | rfl | rfl | rfl | rfl | rfl | rfl:kind = 1 ∨ kind = 2 ∨ kind = 3 ∨ kind = 4 ∨ kind = 5 ∨ kind = 6 ∨ kind = 7:=by omega
  · simp -dsimp [f0,f1,ne_of_lt f1]
    repeat (first|refine ⟨by omega,?_⟩|refine ⟨by simp [capMax];omega,?_⟩|refine ⟨⟨by omega,by omega⟩,?_⟩)
    refine ACallW_go ?_
    refine ACallC_go (fun us => f275_ok _ _ _ _ _ _ _ (by omega)) ?_
    simp -dsimp
    simp [doneAct]
  · simp -dsimp [f0,f1,ne_of_lt f1]
    repeat (first|refine ⟨by omega,?_⟩|refine ⟨by simp [capMax];omega,?_⟩|refine ⟨⟨by omega,by omega⟩,?_⟩)
    refine ACallK_of (f152_ok s.lives ⟨false,obj,key,0,dot⟩ (by omega)) ?_
    simp -dsimp
    simp [doneAct]
  · simp -dsimp [f0,f1,ne_of_lt f1]
    repeat (first|refine ⟨by omega,?_⟩|refine ⟨by simp [capMax];omega,?_⟩|refine ⟨⟨by omega,by omega⟩,?_⟩)
    refine ACallW_go ?_
    refine ACallC_go (fun us => f287_ok _ _ _ _ _ _ _ _ (by omega) hk) ?_
    simp -dsimp
    simp [doneAct]
  · simp -dsimp [f0,f1,ne_of_lt f1]
    repeat (first|refine ⟨by omega,?_⟩|refine ⟨by simp [capMax];omega,?_⟩|refine ⟨⟨by omega,by omega⟩,?_⟩)
    refine ACallW_go ?_
    refine ACallC_go (fun us => f287_ok _ _ _ _ _ _ _ _ (by omega) hk) ?_
    simp -dsimp
    refine ACallK_of (f152_ok (clearK true obj key knew s.lives s.lives.length) ⟨true,obj,key,val,dot⟩ (by omega)) ?_
    simp -dsimp
    simp [doneAct]
  · simp -dsimp [f0,f1,ne_of_lt f1]
    repeat (first|refine ⟨by omega,?_⟩|refine ⟨by simp [capMax];omega,?_⟩|refine ⟨⟨by omega,by omega⟩,?_⟩)
    refine ACallW_go ?_
    refine ACallC_go (fun us => f287_ok _ _ _ _ _ _ _ _ (by omega) hk) ?_
    simp -dsimp
    simp [doneAct]
  · simp -dsimp [f0,f1,ne_of_lt f1]
    repeat (first|refine ⟨by omega,?_⟩|refine ⟨by simp [capMax];omega,?_⟩|refine ⟨⟨by omega,by omega⟩,?_⟩)
    refine ACallK_of (f276_ok s.cs ⟨obj,dot,time,ref,val,false⟩ (by omega)) ?_
    simp -dsimp
    simp [doneAct]
  · obtain ⟨j,hj,c1⟩:=f6 rfl
    simp -dsimp [f0,f1,ne_of_lt f1]
    repeat (first|refine ⟨by omega,?_⟩|refine ⟨by simp [capMax];omega,?_⟩|refine ⟨⟨by omega,by omega⟩,?_⟩)
    have hcall:=f45_ok ⟨s.know.set dot.rep.toNat dot.seq,s.tallies,s.lives,s.cs⟩ ref (by simp only; omega)
    simp only [List.length_set] at hcall
    refine ACallK_of (hcall) ?_
    rw [c1]
    simp -dsimp [hj,ne_of_lt hj]
    repeat (first|refine ⟨by omega,?_⟩|refine ⟨by simp [capMax];omega,?_⟩|refine ⟨⟨by omega,by omega⟩,?_⟩)
    simp [doneAct,refAtI,c1]
theorem doneAct_ok {s:GState} {a:GAct} (hs:s.Ok) (ha:a.Ok) (l1:s.tallies.length ≤ 120) (l2:s.lives.length ≤ 120) (l3:s.cs.length ≤ 120):(doneAct s a).Ok:=by
  simp only [GState.Ok,GAct.Ok] at hs ha
  obtain ⟨s0,s1,s2,s3,s4,s5,s6⟩:=hs
  obtain ⟨a0,a1,a2⟩:=ha
  have c1:=clearK_len false a.obj a.key a.knew s.lives s.lives.length
  have c2:=clearK_len true a.obj a.key a.knew s.lives s.lives.length
  have hcm:∀ m y,y ∈ clearK m a.obj a.key a.knew s.lives s.lives.length → y.Ok:=by
    intro m y hy
    rcases (filK_mem (Nat.le_refl _)).1 hy with h | ⟨i,hi,rfl,_⟩
    · cases h
    · exact s4 _ (nth_mem hi)
  have hins:∀ (l:List GLive) (x:GLive),(∀ y,y ∈ l → y.Ok) → x.Ok → ∀ y,y ∈ insF liveLt x l → y.Ok:=by
    intro l x hl hx y hy
    rcases List.mem_cons.1 ((insF_perm _ _).mem_iff.1 hy) with rfl | h
    · exact hx
    · exact hl y h
  have hx1:GLive.Ok ⟨false,a.obj,a.key,0,a.dot⟩:=by simp only [GLive.Ok]; exact ⟨a1,a2⟩
  have hx2:GLive.Ok ⟨true,a.obj,a.key,a.val,a.dot⟩:=by simp only [GLive.Ok]; exact ⟨a1,a2⟩
  have ht:=addT_len s.tallies a.obj a.dot.rep a.val
  unfold doneAct
  simp only
  split
  · simp only [GState.Ok,List.length_set]
    refine ⟨s0,by omega,fun y hy => ?_,s3,s4,s5,s6⟩
    rcases addT_mem hy with h | h
    · exact s2 y h
    · simp only [GTally.Ok]; rw [h]; exact a1
  split
  · simp only [GState.Ok,List.length_set,insF_len]
    exact ⟨s0,s1,s2,by omega,hins _ _ s4 hx1,s5,s6⟩
  split
  · simp only [GState.Ok,List.length_set]
    exact ⟨s0,s1,s2,by omega,hcm _,s5,s6⟩
  split
  · simp only [GState.Ok,List.length_set,insF_len]
    exact ⟨s0,s1,s2,by omega,hins _ _ (hcm _) hx2,s5,s6⟩
  split
  · simp only [GState.Ok,List.length_set]
    exact ⟨s0,s1,s2,by omega,hcm _,s5,s6⟩
  split
  · simp only [GState.Ok,List.length_set,insF_len]
    refine ⟨s0,s1,s2,s3,s4,by omega,fun y hy => ?_⟩
    rcases List.mem_cons.1 ((insF_perm _ _).mem_iff.1 hy) with rfl | h
    · simp only [GCell.Ok]; exact a1
    · exact s6 y h
  · simp only [GState.Ok,List.length_set]
    refine ⟨s0,s1,s2,s3,s4,s5,fun y hy => ?_⟩
    rcases List.mem_or_eq_of_mem_set hy with h | rfl
    · exact s6 y h
    · simp only [GCell.Ok]
      by_cases hi:refAtI s a < s.cs.length
      · have:=s6 _ (nth_mem hi)
        simpa only [GCell.Ok] using this
      · rw [List.set_eq_of_length_le (by omega)] at hy
        have:=s6 _ hy
        simpa only [GCell.Ok] using this
@[simp] def h37:Hts:={ merge:=fun _ => false,mergeF:=fun _ => false,lend:=fun f => if f = 167 then [.box []] else [] }
set_option maxHeartbeats 8000000 in
theorem f37_ok (s:GState) (a:GAct) (hs:s.Ok) (ha:a.Ok):FnR Tryz.prog 37 [.agg [.im s.know.length (flat s.know),.im s.tallies.length (flat s.tallies),.im s.lives.length (flat s.lives),.im s.cs.length (flat s.cs)],.agg [.int .i64 a.dot.rep,.int .i64 a.dot.seq,.int .i64 a.time,.im a.knew.length (flat a.knew),.int .i64 a.kind,.str a.obj,.str a.key,.int .i64 a.val,.int .i64 a.ref.rep,.int .i64 a.ref.seq]] (.tup [.agg [.ow 3 1 ((doAct s a).1).know.length (flat ((doAct s a).1).know),.ow 179 3 ((doAct s a).1).tallies.length (flat ((doAct s a).1).tallies),.ow 159 6 ((doAct s a).1).lives.length (flat ((doAct s a).1).lives),.ow 72 8 ((doAct s a).1).cs.length (flat ((doAct s a).1).cs)],.v (.int .i64 ((doAct s a).2))]):=by
  have hs2:=hs
  have ha2:=ha
  simp only [GState.Ok] at hs2
  simp only [GAct.Ok] at ha2
  refine FnW.of_AW TryzT_ok 0 (fn:=Tryz.f37) (by kernel_rfl) rfl (by kernel_rfl) rfl rfl rfl ?_; refine AW_of h37 TryzT_ok (by kernel_rfl) ?_
  simp -dsimp
  refine ACallK_of (f147_ok _ hs) ?_
  simp -dsimp
  refine ACallK_of (f70_ok _ hs) ?_
  rw [stateOkS_eq]
  cases ks:stateOk s
  · simp -dsimp
    simp [doAct,ks]
  have sl:=stateOk_len ks
  simp -dsimp
  refine ACallK_of (f163_ok _ ha) ?_
  cases ka:actOk a
  · simp -dsimp
    simp [doAct,ks,ka]
  simp -dsimp
  refine ACallK_of (f17_ok _ _ hs2.1) ?_
  cases k1:knows s.know a.dot
  case true =>
    simp -dsimp
    simp [doAct,ks,ka,k1]
  simp -dsimp
  refine ACallK_of (f89_ok _ _ ha2.1 hs2.1) ?_
  cases k2:knowIn a.knew s.know
  · simp -dsimp
    simp [doAct,ks,ka,k1,k2]
  simp -dsimp
  refine ACallK_of (f166_ok s a hs2.2.2.2.2.2.1) ?_
  cases k3:actRefOk s a
  · simp -dsimp
    simp [doAct,ks,ka,k1,k2,k3]
  have F:=actF_of ks ka k3
  simp -dsimp
  refine ACallW_go ?_
  refine ACallC_go (fun us => f167_ok s a hs F ha2.1 sl.1 sl.2.1 sl.2.2) ?_
  have hdd:doAct s a = if tooMany (doneAct s a) = true then (s,4) else (doneAct s a,0):=by simp [doAct,ks,ka,k1,k2,k3]
  rw [hdd]
  clear hdd
  generalize doneAct s a = R at *
  by_cases h1:120 < R.tallies.length
  · have h1':(120:Int) < R.tallies.length:=by omega
    simp -dsimp [h1']
    refine ACallK_of (f147_ok _ hs) ?_
    simp -dsimp
    simp [tooMany,h1]
  have h1':¬ (120:Int) < R.tallies.length:=by omega
  by_cases h2:120 < R.lives.length
  · have h2':(120:Int) < R.lives.length:=by omega
    simp -dsimp [h1',h2']
    refine ACallK_of (f147_ok _ hs) ?_
    simp -dsimp
    simp [tooMany,h2]
  have h2':¬ (120:Int) < R.lives.length:=by omega
  by_cases h3:120 < R.cs.length
  · have h3':(120:Int) < R.cs.length:=by omega
    simp -dsimp [h1',h2',h3']
    refine ACallK_of (f147_ok _ hs) ?_
    simp -dsimp
    simp [tooMany,h3]
  have h3':¬ (120:Int) < R.cs.length:=by omega
  have k3:tooMany R = false:=by simp [tooMany,h1,h2,h3]
  simp -dsimp [h1',h2',h3']
  simp [k3]
end Am
namespace Am
open Go Go.Proofs
open Cel (cells)
set_option maxRecDepth 100000
end Am
