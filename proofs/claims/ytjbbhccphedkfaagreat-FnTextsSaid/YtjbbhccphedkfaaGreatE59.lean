/- What is behind: of both. No condition. -/
import Derived.Test.YtjbbhccphedkfaaGreatT
import Derived.Test.YtjbbhccphedkfaaGreatD
import Derived.Test.YtjbbhccphedkfaaGreatE55
import Derived.Test.YtjbbhccphedkfaaGreatAm31
import Derived.Test.YtjbbhccphedkfaaGreatE7
import Derived.Test.YtjbbhccphedkfaaGreatAm29
set_option linter.unusedSimpArgs false
set_option linter.unusedVariables false
set_option linter.unnecessarySimpa false
set_option linter.unusedSectionVars false
namespace Am
open Go Go.Proofs
open Cel (cells)
set_option maxRecDepth 100000
def behind (a b:GState):Bool:=stateOk a && (stateOk b && decide (mergeState a b = b))
theorem mergeState_ok {a b:GState} (ha:a.Ok) (hb:b.Ok):(mergeState a b).Ok:=by
  unfold mergeState
  split
  · rename_i h
    simp only [Bool.and_eq_true] at h
    split
    · exact mergeRaw_ok ha hb h.1 h.2
    · exact ha
  · exact ha
@[simp] def h26:Hts:={ merge:=fun _ => false,mergeF:=fun _ => false,dr:=fun id => if id = 1 then [{},{ cr:=true },{},{},{ cr:=true },{},{},{},{},{ cr:=true },{ mb:=[14] },{ cr:=true },{},{}] else [] }
set_option maxHeartbeats 4000000 in
theorem f26_ok (a b:GState) (ha:a.Ok) (hb:b.Ok):FnR Tryz.prog 26 [.agg [.im a.know.length (flat a.know),.im a.tallies.length (flat a.tallies),.im a.lives.length (flat a.lives),.im a.cs.length (flat a.cs)],.agg [.im b.know.length (flat b.know),.im b.tallies.length (flat b.tallies),.im b.lives.length (flat b.lives),.im b.cs.length (flat b.cs)]] (.v (.bool (behind a b))):=by
  refine FnW.of_AW TryzT_ok 0 (fn:=Tryz.f26) (by kernel_rfl) rfl (by kernel_rfl) rfl rfl rfl ?_; refine AW_of h26 TryzT_ok (by kernel_rfl) ?_
  simp -dsimp
  refine ACallK_of (f17_ok _ ha) ?_
  rw [stateOkS_eq]
  cases ka:stateOk a
  · simp -dsimp
    simp [behind,ka]
  simp -dsimp
  refine ACallK_of (f17_ok _ hb) ?_
  rw [stateOkS_eq]
  cases kb:stateOk b
  · simp -dsimp
    simp [behind,kb]
  simp -dsimp
  refine ACallK_of (f31_ok _ _ ha hb) ?_
  simp -dsimp
  refine ACallK_of (f18_ok (mergeState a b) b (mergeState_ok ha hb)) ?_
  simp -dsimp
  simp [behind,ka,kb]
end Am
namespace Am
open Go Go.Proofs
open Cel (cells)
set_option maxRecDepth 100000
theorem bne2 (x y:Int):((x != y) = true ∧ (x == y) = false) ∨ ((x != y) = false ∧ (x == y) = true):=by
  by_cases h:x = y <;> simp [h]
def refZ (d:GDot):Bool:=d.rep == 0 && d.seq == 0
def actRef (a:GAct):Bool:=if (a.kind == 7) = true then knows a.knew a.ref else if (a.kind == 6) = true then refZ a.ref || knows a.knew a.ref else refZ a.ref
def actOk (a:GAct):Bool:=dotOk a.dot && knowOk a.knew && (nth a.knew a.dot.rep.toNat == a.dot.seq - 1) && spIn a.time 1 10000 && plain a.kind a.val a.obj a.key && actRef a
@[simp] def h201:Hts:={ merge:=fun _ => false,mergeF:=fun _ => false,dr:=fun id => if id = 1 then [{},{},{ cr:=true },{},{},{},{},{ cr:=true },{},{},{},{},{},{},{},{},{},{},{},{},{},{},{},{},{},{},{},{ cr:=true },{},{},{},{},{},{},{},{},{},{},{},{ cr:=true },{},{}] else [] }
set_option maxHeartbeats 2000000 in
theorem f201_ok (a:GAct) (h:a.Ok):FnR Tryz.prog 201 [.agg [.int .i64 a.dot.rep,.int .i64 a.dot.seq,.int .i64 a.time,.im a.knew.length (flat a.knew),.int .i64 a.kind,.str a.obj,.str a.key,.int .i64 a.val,.int .i64 a.ref.rep,.int .i64 a.ref.seq]] (.v (.bool (actOk a))):=by
  simp only [GAct.Ok] at h
  obtain ⟨o0,o1,o2⟩:=h
  refine FnW.of_AW TryzT_ok 0 (fn:=Tryz.f201) (by kernel_rfl) rfl (by kernel_rfl) rfl rfl rfl ?_; refine AW_of h201 TryzT_ok (by kernel_rfl) ?_
  simp -dsimp
  refine ACallK_of (f129_ok _) ?_
  cases g1:dotOk a.dot
  · simp -dsimp
    simp [actOk,g1]
  simp -dsimp
  refine ACallK_of (f63_ok _ o0) ?_
  cases g2:knowOk a.knew
  · simp -dsimp
    simp [actOk,g2]
  obtain ⟨r1,r2,r3⟩:=dot_range g2 g1
  have hs:1 ≤ a.dot.seq ∧ a.dot.seq ≤ 1000:=by simp [dotOk,spIn] at g1; omega
  have w:IntKind.i64.wrap (a.dot.seq - 1) = a.dot.seq - 1:=wrap64 (by omega) (by omega)
  rcases bne2 (nth a.knew a.dot.rep.toNat) (a.dot.seq - 1) with ⟨e1,e2⟩ | ⟨e1,e2⟩
  · simp -dsimp [r1,ne_of_lt r1,w,e1]
    repeat (first | refine ⟨by omega,?_⟩ | refine ⟨⟨by omega,by omega⟩,?_⟩)
    simp [actOk,e2]
  simp -dsimp [r1,ne_of_lt r1,w,e1]
  repeat (first | refine ⟨by omega,?_⟩ | refine ⟨⟨by omega,by omega⟩,?_⟩)
  refine ACallK_of (f86_ok _ _ _) ?_
  cases g4:spIn a.time 1 10000
  · simp -dsimp
    simp [actOk,g4]
  simp -dsimp
  refine ACallK_of (f223_ok _ _ _ _ (by omega) (by omega)) ?_
  cases g5:plain a.kind a.val a.obj a.key
  · simp -dsimp
    simp [actOk,g5]
  rcases bne2 a.kind 7 with ⟨c1,c2⟩ | ⟨c1,c2⟩
  · rcases bne2 a.kind 6 with ⟨d1,d2⟩ | ⟨d1,d2⟩
    · simp -dsimp [c1,c2,d1,d2]
      simp [actOk,actRef,g1,g2,e2,g4,g5,c2,d2,refZ]
    · rcases bne2 a.ref.rep 0 with ⟨p1,p2⟩ | ⟨p1,p2⟩ <;> rcases bne2 a.ref.seq 0 with ⟨q1,q2⟩ | ⟨q1,q2⟩
      all_goals (
        simp -dsimp [c1,c2,d1,d2,p1,p2,q1,q2]
        first
        | (simp [actOk,actRef,g1,g2,e2,g4,g5,c2,d2,refZ,p2,q2]; done)
        | (refine ACallK_of (f67_ok _ _ o0) ?_
           simp -dsimp
           simp [actOk,actRef,g1,g2,e2,g4,g5,c2,d2,refZ,p2,q2]))
  · simp -dsimp [c1,c2]
    refine ACallK_of (f67_ok _ _ o0) ?_
    simp -dsimp
    simp [actOk,actRef,g1,g2,e2,g4,g5,c2]
def zeroAct:GAct:=⟨⟨0,0⟩,0,[],0,⟨#[]⟩,⟨#[]⟩,0,⟨0,0⟩⟩
end Am
namespace Am
open Go Go.Proofs
open Cel (cells)
set_option maxRecDepth 100000
end Am
namespace Am
open Go Go.Proofs
open Cel (cells)
set_option maxRecDepth 100000
def keepK (m:Bool) (o k:ByteArray) (kn:List Int) (x:GLive):Bool:=!((x.map == m) && (decide (x.obj = o) && (decide (x.key = k) && knows kn x.dot)))
def clearK (m:Bool) (o k:ByteArray) (kn:List Int) (l:List GLive) (i:Nat):List GLive:=filK (keepK m o k kn) [] l i
theorem clearK_len (m:Bool) (o k:ByteArray) (kn:List Int) (l:List GLive) (i:Nat):(clearK m o k kn l i).length ≤ i:=by
  have:=filK_len (keepK m o k kn) [] l i
  simpa [clearK] using this
@[simp] def h226:Hts:={ merge:=fun _ => false,mergeF:=fun _ => false }
set_option maxHeartbeats 4000000 in
theorem f226_ok (u0 u1 u3:Value) (l:List GLive) (m:Bool) (o k:ByteArray) (kn:List Int) (ha:l.length ≤ 1000000) (hk:kn.length ≤ 1073741824):FnW Tryz.prog 226 [.ptr [.tk u0,.tk u1,.ow 98 6 l.length (flat l),.tk u3],.v (.bool m),.v (.str o),.v (.str k),.v (.im kn.length (flat kn))] (.tup []) [.ptr [.tk u0,.tk u1,.ow 98 6 (clearK m o k kn l l.length).length (flat (clearK m o k kn l l.length)),.tk u3],.any,.any,.any,.any]:=by
  refine FnW.of_AW TryzT_ok 1 (fn:=Tryz.f226) (by kernel_rfl) rfl (by kernel_rfl) rfl rfl rfl ?_; refine AW_of h226 TryzT_ok (by kernel_rfl) ?_
  simp -dsimp
  refine AWh_loop (fun i:Nat => i ≤ l.length) (fun i => mkE [(0,.box 640000 0),(1,.c (.bool m)),(2,.c (.str o)),(3,.c (.str k)),(4,.c (.im kn.length (flat kn))),(10,.arr 900001),(11,.c (.int .i64 i))] [(900001,.arr 0 98 6 (clearK m o k kn l i).length (flat (clearK m o k kn l i))),(640000,.box [.c (.tk u0),.c (.tk u1),.arr 640003,.c (.tk u3)]),(640003,.arr 0 98 6 l.length (flat l))]) (fun i => l.length - i) 0 (Wk_to [0,1,2,3,4,10,11] [(900001,832),(640000,640000),(640003,640003)] rfl rfl (by simp [clearK,filK])) (by simp) ?_
  rintro i hi
  have hcl:=clearK_len m o k kn l i
  refine AW_of h226 TryzT_ok (by kernel_rfl) ?_
  rcases Nat.lt_or_ge i l.length with h1 | h1
  · by_cases e1:(nth l i).map = m
    case neg =>
      have b1:((nth l i).map != m) = true:=by simp [e1]
      have b2:((nth l i).map ^^ m) = true:=by revert e1; cases (nth l i).map <;> cases m <;> simp
      have b3:((nth l i).map == m) = false:=by simp [e1]
      have hn:(clearK m o k kn l (i + 1)) = (clearK m o k kn l i) ++ [nth l i]:=by simp [clearK,filK,keepK,e1]
      simp -dsimp [h1,ne_of_lt h1,b1,b2,b3]
      repeat (first|refine ⟨by omega,?_⟩|refine ⟨by simp [capMax];omega,?_⟩|refine ⟨⟨by omega,by omega⟩,?_⟩)
      exact Back_of (i + 1) [0,1,2,3,4,10,11] [(900001,3584),(640000,640000),(640003,640003)] rfl rfl (by simp [hn]; rw [wrap64 (by omega) (by omega)]) (by omega) (by omega)
    have b1:((nth l i).map != m) = false:=by simp [e1]
    have b2:((nth l i).map ^^ m) = false:=by rw [e1]; cases m <;> rfl
    have b3:((nth l i).map == m) = true:=by simp [e1]
    by_cases e2:(nth l i).obj = o
    case neg =>
      have hn:(clearK m o k kn l (i + 1)) = (clearK m o k kn l i) ++ [nth l i]:=by simp [clearK,filK,keepK,e2]
      simp -dsimp [h1,ne_of_lt h1,b1,b2,b3,e2]
      repeat (first|refine ⟨by omega,?_⟩|refine ⟨by simp [capMax];omega,?_⟩|refine ⟨⟨by omega,by omega⟩,?_⟩)
      exact Back_of (i + 1) [0,1,2,3,4,10,11] [(900001,3584),(640000,640000),(640003,640003)] rfl rfl (by simp [hn]; rw [wrap64 (by omega) (by omega)]) (by omega) (by omega)
    by_cases e3:(nth l i).key = k
    case neg =>
      have hn:(clearK m o k kn l (i + 1)) = (clearK m o k kn l i) ++ [nth l i]:=by simp [clearK,filK,keepK,e3]
      simp -dsimp [h1,ne_of_lt h1,b1,b2,b3,eq_true e2,e3]
      repeat (first|refine ⟨by omega,?_⟩|refine ⟨by simp [capMax];omega,?_⟩|refine ⟨⟨by omega,by omega⟩,?_⟩)
      exact Back_of (i + 1) [0,1,2,3,4,10,11] [(900001,3584),(640000,640000),(640003,640003)] rfl rfl (by simp [hn]; rw [wrap64 (by omega) (by omega)]) (by omega) (by omega)
    simp -dsimp [h1,ne_of_lt h1,b1,b2,b3,eq_true e2,eq_true e3]
    repeat (first|refine ⟨by omega,?_⟩|refine ⟨by simp [capMax];omega,?_⟩|refine ⟨⟨by omega,by omega⟩,?_⟩)
    refine ACallK_of (f67_ok _ _ hk) ?_
    cases g:knows kn (nth l i).dot
    · skip
      have hn:(clearK m o k kn l (i + 1)) = (clearK m o k kn l i) ++ [nth l i]:=by simp [clearK,filK,keepK,g]
      simp -dsimp [h1,ne_of_lt h1,b1,b2,b3]
      repeat (first|refine ⟨by omega,?_⟩|refine ⟨by simp [capMax];omega,?_⟩|refine ⟨⟨by omega,by omega⟩,?_⟩)
      exact Back_of (i + 1) [0,1,2,3,4,10,11] [(900001,3584),(640000,640000),(640003,640003)] rfl rfl (by simp [hn]; rw [wrap64 (by omega) (by omega)]) (by omega) (by omega)
    · skip
      have hn:(clearK m o k kn l (i + 1)) = (clearK m o k kn l i):=by simp [clearK,filK,keepK,e1,e2,e3,g]
      simp -dsimp [h1,ne_of_lt h1,b1,b2,b3]
      repeat (first|refine ⟨by omega,?_⟩|refine ⟨by simp [capMax];omega,?_⟩|refine ⟨⟨by omega,by omega⟩,?_⟩)
      exact Back_of (i + 1) [0,1,2,3,4,10,11] [(900001,900001),(640000,640000),(640003,640003)] rfl rfl (by simp [hn]; rw [wrap64 (by omega) (by omega)]) (by omega) (by omega)
  · obtain rfl:i = l.length:=by omega
    simp -dsimp
end Am
namespace Am
open Go Go.Proofs
open Cel (cells)
set_option maxRecDepth 100000
def refAtI (s:GState) (a:GAct):Nat:=(cellAt s.cs a.ref).toNat
def actRefOk (s:GState) (a:GAct):Bool:=if a.kind = 7 ∨ (a.kind = 6 ∧ ¬ a.ref = zeroDot) then decide (0 ≤ cellAt s.cs a.ref) && (decide ((nth s.cs (refAtI s a)).obj = a.obj) && (a.kind == 7 || decide ((nth s.cs (refAtI s a)).time < a.time))) else true
@[simp] def h207:Hts:={ merge:=fun _ => false,mergeF:=fun _ => false,dr:=fun id => if id = 4 then [{},{},{},{},{},{},{},{},{},{},{},{},{},{},{},{},{},{},{},{},{},{},{},{},{},{},{},{},{},{}] else [] }
set_option maxHeartbeats 4000000 in
theorem f207_ok (s:GState) (a:GAct) (hs:s.cs.length ≤ 1073741824):FnR Tryz.prog 207 [.agg [.im s.know.length (flat s.know),.im s.tallies.length (flat s.tallies),.im s.lives.length (flat s.lives),.im s.cs.length (flat s.cs)],.agg [.int .i64 a.dot.rep,.int .i64 a.dot.seq,.int .i64 a.time,.im a.knew.length (flat a.knew),.int .i64 a.kind,.str a.obj,.str a.key,.int .i64 a.val,.int .i64 a.ref.rep,.int .i64 a.ref.seq]] (.v (.bool (actRefOk s a))):=by
  obtain ⟨dot,time,knew,kind,obj,key,val,ref⟩:=a
  refine FnW.of_AW TryzT_ok 0 (fn:=Tryz.f207) (by kernel_rfl) rfl (by kernel_rfl) rfl rfl rfl ?_; refine AW_of h207 TryzT_ok (by kernel_rfl) ?_
  have goon:(kind = 7 ∨ (kind = 6 ∧ ¬ ref = zeroDot)) → actRefOk s ⟨dot,time,knew,kind,obj,key,val,ref⟩ = (decide (0 ≤ cellAt s.cs ref) && (decide ((nth s.cs (cellAt s.cs ref).toNat).obj = obj) && (kind == 7 || decide ((nth s.cs (cellAt s.cs ref).toNat).time < time)))):=fun h => by simp only [actRefOk,refAtI]; rw [if_pos h]; rfl
  by_cases k7:kind = 7
  · subst k7
    have hg:=goon (.inl rfl)
    simp -dsimp
    refine ACallK_of (f68_ok s ref hs) ?_
    rcases cellAt_cases s.cs ref with c1 | ⟨j,hj,c1⟩
    · rw [c1] at hg ⊢
      simp -dsimp
      simp [hg]
    · rw [c1] at hg ⊢
      have jn:¬ (j:Int) < 0:=by omega
      by_cases o1:(nth s.cs j).obj = obj
      · simp -dsimp [hj,ne_of_lt hj,jn,eq_true o1]
        repeat (first|refine ⟨by omega,?_⟩|refine ⟨by simp [capMax];omega,?_⟩|refine ⟨⟨by omega,by omega⟩,?_⟩)
        simp [hg,o1]
      · simp -dsimp [hj,ne_of_lt hj,jn,o1]
        repeat (first|refine ⟨by omega,?_⟩|refine ⟨by simp [capMax];omega,?_⟩|refine ⟨⟨by omega,by omega⟩,?_⟩)
        simp [hg,o1]
  have b7:(kind != 7) = true:=by simp [k7]
  have b7':(kind == 7) = false:=by simp [k7]
  by_cases k6:kind = 6
  case neg =>
    have b6:(kind != 6) = true:=by simp [k6]
    simp -dsimp [b7,b6]
    simp [actRefOk,k6,k7]
  subst k6
  by_cases rz:ref = zeroDot
  · have z1:ref.rep = 0:=by rw [rz]; rfl
    have z2:ref.seq = 0:=by rw [rz]; rfl
    simp -dsimp [z1,z2]
    simp [actRefOk,rz]
  have rz':(ref.rep == 0 && ref.seq == 0) = false:=by
    rw [Bool.eq_false_iff]; intro h; exact rz (by simpa [GDot.ext_iff,zeroDot] using h)
  have hg:=goon (.inr ⟨rfl,rz⟩)
  simp -dsimp [rz']
  refine ACallK_of (f68_ok s ref hs) ?_
  rcases cellAt_cases s.cs ref with c1 | ⟨j,hj,c1⟩
  · rw [c1] at hg ⊢
    simp -dsimp
    simp [hg]
  · rw [c1] at hg ⊢
    have jn:¬ (j:Int) < 0:=by omega
    by_cases o1:(nth s.cs j).obj = obj
    · simp -dsimp [hj,ne_of_lt hj,jn,eq_true o1]
      repeat (first|refine ⟨by omega,?_⟩|refine ⟨by simp [capMax];omega,?_⟩|refine ⟨⟨by omega,by omega⟩,?_⟩)
      simp [hg,o1]
    · simp -dsimp [hj,ne_of_lt hj,jn,o1]
      repeat (first|refine ⟨by omega,?_⟩|refine ⟨by simp [capMax];omega,?_⟩|refine ⟨⟨by omega,by omega⟩,?_⟩)
      simp [hg,o1]
end Am
namespace Am
open Go Go.Proofs
open Cel (cells)
set_option maxRecDepth 100000
def tooMany (s:GState):Bool:=decide (120 < s.tallies.length) || (decide (120 < s.lives.length) || decide (120 < s.cs.length))
end Am
namespace Am
open Go Go.Proofs
open Cel (cells)
set_option maxRecDepth 100000
def doneAct (s:GState) (a:GAct):GState :=
  let k:=s.know.set a.dot.rep.toNat a.dot.seq
  if a.kind = 1 then ⟨k,addT s.tallies a.obj a.dot.rep a.val,s.lives,s.cs⟩
  else if a.kind = 2 then ⟨k,s.tallies,insF liveLt ⟨false,a.obj,a.key,0,a.dot⟩ s.lives,s.cs⟩
  else if a.kind = 3 then ⟨k,s.tallies,clearK false a.obj a.key a.knew s.lives s.lives.length,s.cs⟩
  else if a.kind = 4 then ⟨k,s.tallies,insF liveLt ⟨true,a.obj,a.key,a.val,a.dot⟩ (clearK true a.obj a.key a.knew s.lives s.lives.length),s.cs⟩
  else if a.kind = 5 then ⟨k,s.tallies,clearK true a.obj a.key a.knew s.lives s.lives.length,s.cs⟩
  else if a.kind = 6 then ⟨k,s.tallies,s.lives,insF cellLt ⟨a.obj,a.dot,a.time,a.ref,a.val,false⟩ s.cs⟩
  else ⟨k,s.tallies,s.lives,s.cs.set (refAtI s a) { nth s.cs (refAtI s a) with gone:=true }⟩
def doAct (s:GState) (a:GAct):GState × Int :=
  if stateOk s = false then (s,3) else if actOk a = false then (s,3) else if knows s.know a.dot = true then (s,1) else
  if knowIn a.knew s.know = false then (s,2) else if actRefOk s a = false then (s,3) else
  if tooMany (doneAct s a) = true then (s,4) else (doneAct s a,0)
structure ActF (s:GState) (a:GAct):Prop where
  r0:0 ≤ a.dot.rep
  r1:a.dot.rep.toNat < s.know.length
  k1:1 ≤ a.kind
  k7:a.kind ≤ 7
  v0:0 ≤ a.val
  v1:a.val ≤ 999999
  ref:a.kind = 7 → ∃ j:Nat,j < s.cs.length ∧ cellAt s.cs a.ref = j
theorem actF_of {s:GState} {a:GAct} (ks:stateOk s = true) (ka:actOk a = true) (kr:actRefOk s a = true):ActF s a:=by
  have hk:=stateOk_know ks
  simp only [actOk,Bool.and_eq_true] at ka
  obtain ⟨⟨⟨⟨⟨a1,a2⟩,a3⟩,a4⟩,a5⟩,a6⟩:=ka
  simp only [dotOk,spIn,Bool.and_eq_true,decide_eq_true_eq] at a1
  simp only [plain,spIn,Bool.and_eq_true,Bool.or_eq_true,decide_eq_true_eq,beq_iff_eq] at a5
  refine ⟨by omega,by omega,by omega,by omega,by omega,by omega,fun h7 => ?_⟩
  simp only [actRefOk,h7,true_or,if_true,Bool.and_eq_true,decide_eq_true_eq] at kr
  rcases cellAt_cases s.cs a.ref with c1 | ⟨j,hj,c1⟩
  · omega
  · exact ⟨j,hj,c1⟩
@[simp] def h208:Hts:={ merge:=fun _ => false,mergeF:=fun _ => false,lend:=fun f => if f = 154 then [.box [0,2,3]] else if f = 226 then [.box [0,1,3]] else [],dr:=fun id => if id = 1 then [{},{},{},{},{},{},{},{},{},{},{ wr:=[640001] },{ wr:=[640001] }] else if id = 6 then [{ mb:=[42] },{},{},{},{},{},{},{},{},{},{},{},{ cr:=true },{},{ wr:=[640000] },{ wr:=[640000] }] else if id = 11 then [{ mb:=[79] },{},{},{},{},{},{},{},{},{},{},{},{},{},{ cr:=true },{},{ wr:=[640000] },{ wr:=[640000] }] else if id = 15 then [{ mb:=[110] },{},{},{},{},{},{},{},{},{},{},{},{},{},{},{},{ cr:=true },{},{ wr:=[640000] },{ wr:=[640000] }] else if id = 17 then [{ mb:=[124] },{ mb:=[124] },{ mb:=[124] },{ mb:=[124] },{},{},{},{},{},{ cr:=true },{},{ wr:=[640004] },{ wr:=[640004] }] else [] }
set_option maxHeartbeats 8000000 in
theorem f208_ok (s:GState) (a:GAct) (hs:s.Ok) (F:ActF s a) (hk:a.knew.length ≤ 1073741824) (l1:s.tallies.length ≤ 120) (l2:s.lives.length ≤ 120) (l3:s.cs.length ≤ 120):FnW Tryz.prog 208 [.ptr [.ow 3 1 s.know.length (flat s.know),.ow 104 3 s.tallies.length (flat s.tallies),.ow 98 6 s.lives.length (flat s.lives),.ow 100 8 s.cs.length (flat s.cs)],.agg [.int .i64 a.dot.rep,.int .i64 a.dot.seq,.int .i64 a.time,.im a.knew.length (flat a.knew),.int .i64 a.kind,.str a.obj,.str a.key,.int .i64 a.val,.int .i64 a.ref.rep,.int .i64 a.ref.seq]] (.tup []) [.ptr [.ow 3 1 (doneAct s a).know.length (flat (doneAct s a).know),.ow 104 3 (doneAct s a).tallies.length (flat (doneAct s a).tallies),.ow 98 6 (doneAct s a).lives.length (flat (doneAct s a).lives),.ow 100 8 (doneAct s a).cs.length (flat (doneAct s a).cs)],.any]:=by
  obtain ⟨dot,time,knew,kind,obj,key,val,ref⟩:=a
  obtain ⟨f0,f1,f2,f3,f4,f5,f6⟩:=F
  simp only at f0 f1 f2 f3 f4 f5 f6 hk
  have hkl:=clearK_len false obj key knew s.lives s.lives.length
  have hkl2:=clearK_len true obj key knew s.lives s.lives.length
  refine FnW.of_AW TryzT_ok 1 (fn:=Tryz.f208) (by kernel_rfl) rfl (by kernel_rfl) rfl rfl rfl ?_; refine AW_of h208 TryzT_ok (by kernel_rfl) ?_
  obtain rfl | rfl | rfl | rfl | rfl | rfl | rfl:kind = 1 ∨ kind = 2 ∨ kind = 3 ∨ kind = 4 ∨ kind = 5 ∨ kind = 6 ∨ kind = 7:=by omega
  · simp -dsimp [f0,f1,ne_of_lt f1]
    repeat (first|refine ⟨by omega,?_⟩|refine ⟨by simp [capMax];omega,?_⟩|refine ⟨⟨by omega,by omega⟩,?_⟩)
    refine ACallW_go ?_
    refine ACallC_go (fun us => f154_ok _ _ _ _ _ _ _ (by omega)) ?_
    simp -dsimp
    simp [doneAct]
  · simp -dsimp [f0,f1,ne_of_lt f1]
    repeat (first|refine ⟨by omega,?_⟩|refine ⟨by simp [capMax];omega,?_⟩|refine ⟨⟨by omega,by omega⟩,?_⟩)
    refine ACallK_of (f95_ok s.lives ⟨false,obj,key,0,dot⟩ (by omega)) ?_
    simp -dsimp
    simp [doneAct]
  · simp -dsimp [f0,f1,ne_of_lt f1]
    repeat (first|refine ⟨by omega,?_⟩|refine ⟨by simp [capMax];omega,?_⟩|refine ⟨⟨by omega,by omega⟩,?_⟩)
    refine ACallW_go ?_
    refine ACallC_go (fun us => f226_ok _ _ _ _ _ _ _ _ (by omega) hk) ?_
    simp -dsimp
    simp [doneAct]
  · simp -dsimp [f0,f1,ne_of_lt f1]
    repeat (first|refine ⟨by omega,?_⟩|refine ⟨by simp [capMax];omega,?_⟩|refine ⟨⟨by omega,by omega⟩,?_⟩)
    refine ACallW_go ?_
    refine ACallC_go (fun us => f226_ok _ _ _ _ _ _ _ _ (by omega) hk) ?_
    simp -dsimp
    refine ACallK_of (f95_ok (clearK true obj key knew s.lives s.lives.length) ⟨true,obj,key,val,dot⟩ (by omega)) ?_
    simp -dsimp
    simp [doneAct]
  · simp -dsimp [f0,f1,ne_of_lt f1]
    repeat (first|refine ⟨by omega,?_⟩|refine ⟨by simp [capMax];omega,?_⟩|refine ⟨⟨by omega,by omega⟩,?_⟩)
    refine ACallW_go ?_
    refine ACallC_go (fun us => f226_ok _ _ _ _ _ _ _ _ (by omega) hk) ?_
    simp -dsimp
    simp [doneAct]
  · simp -dsimp [f0,f1,ne_of_lt f1]
    repeat (first|refine ⟨by omega,?_⟩|refine ⟨by simp [capMax];omega,?_⟩|refine ⟨⟨by omega,by omega⟩,?_⟩)
    refine ACallK_of (f155_ok s.cs ⟨obj,dot,time,ref,val,false⟩ (by omega)) ?_
    simp -dsimp
    simp [doneAct]
  · obtain ⟨j,hj,c1⟩:=f6 rfl
    simp -dsimp [f0,f1,ne_of_lt f1]
    repeat (first|refine ⟨by omega,?_⟩|refine ⟨by simp [capMax];omega,?_⟩|refine ⟨⟨by omega,by omega⟩,?_⟩)
    have hcall:=f68_ok ⟨s.know.set dot.rep.toNat dot.seq,s.tallies,s.lives,s.cs⟩ ref (by simp only; omega)
    simp only [List.length_set] at hcall
    refine ACallK_of (hcall) ?_
    rw [c1]
    simp -dsimp [hj,ne_of_lt hj]
    repeat (first|refine ⟨by omega,?_⟩|refine ⟨by simp [capMax];omega,?_⟩|refine ⟨⟨by omega,by omega⟩,?_⟩)
    simp [doneAct,refAtI,c1]
@[simp] def h178:Hts:={ merge:=fun _ => false,mergeF:=fun _ => false,lend:=fun f => if f = 208 then [.box []] else [] }
set_option maxHeartbeats 8000000 in
theorem f178_ok (s:GState) (a:GAct) (hs:s.Ok) (ha:a.Ok):FnR Tryz.prog 178 [.agg [.im s.know.length (flat s.know),.im s.tallies.length (flat s.tallies),.im s.lives.length (flat s.lives),.im s.cs.length (flat s.cs)],.agg [.int .i64 a.dot.rep,.int .i64 a.dot.seq,.int .i64 a.time,.im a.knew.length (flat a.knew),.int .i64 a.kind,.str a.obj,.str a.key,.int .i64 a.val,.int .i64 a.ref.rep,.int .i64 a.ref.seq]] (.tup [.agg [.ow 3 1 ((doAct s a).1).know.length (flat ((doAct s a).1).know),.ow 104 3 ((doAct s a).1).tallies.length (flat ((doAct s a).1).tallies),.ow 98 6 ((doAct s a).1).lives.length (flat ((doAct s a).1).lives),.ow 100 8 ((doAct s a).1).cs.length (flat ((doAct s a).1).cs)],.v (.int .i64 ((doAct s a).2))]):=by
  have hs2:=hs
  have ha2:=ha
  simp only [GState.Ok] at hs2
  simp only [GAct.Ok] at ha2
  refine FnW.of_AW TryzT_ok 0 (fn:=Tryz.f178) (by kernel_rfl) rfl (by kernel_rfl) rfl rfl rfl ?_; refine AW_of h178 TryzT_ok (by kernel_rfl) ?_
  simp -dsimp
  refine ACallK_of (f90_ok _ hs) ?_
  simp -dsimp
  refine ACallK_of (f17_ok _ hs) ?_
  rw [stateOkS_eq]
  cases ks:stateOk s
  · simp -dsimp
    simp [doAct,ks]
  have sl:=stateOk_len ks
  simp -dsimp
  refine ACallK_of (f201_ok _ ha) ?_
  cases ka:actOk a
  · simp -dsimp
    simp [doAct,ks,ka]
  simp -dsimp
  refine ACallK_of (f67_ok _ _ hs2.1) ?_
  cases k1:knows s.know a.dot
  case true =>
    simp -dsimp
    simp [doAct,ks,ka,k1]
  simp -dsimp
  refine ACallK_of (f70_ok _ _ ha2.1 hs2.1) ?_
  cases k2:knowIn a.knew s.know
  · simp -dsimp
    simp [doAct,ks,ka,k1,k2]
  simp -dsimp
  refine ACallK_of (f207_ok s a hs2.2.2.2.2.2.1) ?_
  cases k3:actRefOk s a
  · simp -dsimp
    simp [doAct,ks,ka,k1,k2,k3]
  have F:=actF_of ks ka k3
  simp -dsimp
  refine ACallW_go ?_
  refine ACallC_go (fun us => f208_ok s a hs F ha2.1 sl.1 sl.2.1 sl.2.2) ?_
  have hdd:doAct s a = if tooMany (doneAct s a) = true then (s,4) else (doneAct s a,0):=by simp [doAct,ks,ka,k1,k2,k3]
  rw [hdd]
  clear hdd
  generalize doneAct s a = R at *
  by_cases h1:120 < R.tallies.length
  · have h1':(120:Int) < R.tallies.length:=by omega
    simp -dsimp [h1']
    refine ACallK_of (f90_ok _ hs) ?_
    simp -dsimp
    simp [tooMany,h1]
  have h1':¬ (120:Int) < R.tallies.length:=by omega
  by_cases h2:120 < R.lives.length
  · have h2':(120:Int) < R.lives.length:=by omega
    simp -dsimp [h1',h2']
    refine ACallK_of (f90_ok _ hs) ?_
    simp -dsimp
    simp [tooMany,h2]
  have h2':¬ (120:Int) < R.lives.length:=by omega
  by_cases h3:120 < R.cs.length
  · have h3':(120:Int) < R.cs.length:=by omega
    simp -dsimp [h1',h2',h3']
    refine ACallK_of (f90_ok _ hs) ?_
    simp -dsimp
    simp [tooMany,h3]
  have h3':¬ (120:Int) < R.cs.length:=by omega
  have k3:tooMany R = false:=by simp [tooMany,h1,h2,h3]
  simp -dsimp [h1',h2',h3']
  simp [k3]
end Am
namespace Am
open Go
structure SOK (s:GState):Prop where
  k:knowOk s.know = true
  t1:s.tallies.length ≤ 120
  t2:∀ t,t ∈ s.tallies → tallyOk t = true
  t3:s.tallies.Pairwise fun a b => tallyLt a b = true
  l1:s.lives.length ≤ 120
  l2:∀ x,x ∈ s.lives → knows s.know x.dot = true ∧ liveOk x = true
  l3:s.lives.Pairwise fun a b => liveLt a b = true
  c1:s.cs.length ≤ 120
  c2:∀ c,c ∈ s.cs → knows s.know c.dot = true ∧ cellOk' c = true
  c3:s.cs.Pairwise fun a b => cellLt a b = true
  c4:∀ c,c ∈ s.cs → c.ref = zeroDot ∨ ∃ y,y ∈ s.cs ∧ y.dot = c.ref ∧ y.obj = c.obj ∧ y.time < c.time
theorem idx_cases {α:Type} [Cel α] (p:α → Bool) (xs:List α):(∃ i:Nat,i < xs.length ∧ p (nth xs i) = true ∧ (∀ j:Nat,j < i → p (nth xs j) = false) ∧ idx p xs = i) ∨ ((∀ j:Nat,j < xs.length → p (nth xs j) = false) ∧ idx p xs = -1):=by
  have key:∀ n:Nat,n ≤ xs.length → (∃ i:Nat,i < n ∧ p (nth xs i) = true ∧ ∀ j:Nat,j < i → p (nth xs j) = false) ∨ ∀ j:Nat,j < n → p (nth xs j) = false:=by
    intro n
    induction n with
    | zero => intro _; right; intro j hj; omega
    | succ n ih =>
      intro hn
      rcases ih (by omega) with ⟨i,h1,h2,h3⟩ | h
      · exact Or.inl ⟨i,by omega,h2,h3⟩
      · cases e:p (nth xs n)
        · right; intro j hj
          by_cases e2:j = n
          · subst e2; exact e
          · exact h j (by omega)
        · exact Or.inl ⟨n,by omega,e,h⟩
  rcases key xs.length (Nat.le_refl _) with ⟨i,h1,h2,h3⟩ | h
  · exact Or.inl ⟨i,h1,h2,h3,idx_here h1 h3 h2⟩
  · exact Or.inr ⟨h,idx_none h⟩
theorem cells_one {l:List GCell} (h:l.Pairwise fun a b => cellLt a b = true) {x y:GCell} (hx:x ∈ l) (hy:y ∈ l) (e:x.dot = y.dot):x = y:=by
  obtain ⟨i,hi,rfl⟩:=mem_nth hx
  obtain ⟨j,hj,rfl⟩:=mem_nth hy
  have irr:∀ d:GDot,before d d = false:=fun d => by simp [before]
  rcases Nat.lt_trichotomy i j with h1 | h1 | h1
  · have:=pw_nth h h1 hj
    rw [cellLt,e,irr] at this; cases this
  · rw [h1]
  · have:=pw_nth h h1 hi
    rw [cellLt,e,irr] at this; cases this
theorem cellAt_of {l:List GCell} (h:l.Pairwise fun a b => cellLt a b = true) {y:GCell} (hy:y ∈ l):0 ≤ cellAt l y.dot ∧ nth l (cellAt l y.dot).toNat = y:=by
  obtain ⟨i,hi,e⟩:=mem_nth hy
  unfold cellAt
  rcases idx_cases (dotIs y.dot) l with ⟨j,hj,h1,_,c1⟩ | ⟨h1,c1⟩
  · have hd:(nth l j).dot = y.dot:=by simpa [dotIs] using h1
    refine ⟨by omega,?_⟩
    rw [c1]
    exact cells_one h (nth_mem hj) hy hd
  · exfalso
    have:=h1 i hi
    rw [dotIs,e] at this; simp at this
theorem refGood_iff {l:List GCell} (h:l.Pairwise fun a b => cellLt a b = true) (c:GCell):refGood l c = true ↔ ∃ y,y ∈ l ∧ y.dot = c.ref ∧ y.obj = c.obj ∧ y.time < c.time:=by
  simp only [refGood,Bool.and_eq_true,decide_eq_true_eq]
  constructor
  · rintro ⟨⟨h1,h2⟩,h3⟩
    unfold cellAt at h1 h2 h3
    rcases idx_cases (dotIs c.ref) l with ⟨j,hj,h4,_,c1⟩ | ⟨_,c1⟩
    · rw [c1] at h2 h3
      exact ⟨_,nth_mem hj,by simpa [dotIs] using h4,h2,h3⟩
    · omega
  · rintro ⟨y,h1,h2,h3,h4⟩
    obtain ⟨q1,q2⟩:=cellAt_of h h1
    rw [h2] at q1 q2
    rw [q2]
    exact ⟨⟨q1,h3⟩,h4⟩
theorem refAt_iff {l:List GCell} (h:l.Pairwise fun a b => cellLt a b = true) (i:Nat):refAt l i = true ↔ (nth l i).ref = zeroDot ∨ ∃ y,y ∈ l ∧ y.dot = (nth l i).ref ∧ y.obj = (nth l i).obj ∧ y.time < (nth l i).time:=by
  rw [refAt,Bool.or_eq_true,refGood_iff h]
  simp only [Bool.and_eq_true,beq_iff_eq,GDot.ext_iff,zeroDot]
theorem sok_of {s:GState} (h:stateOk s = true):SOK s:=by
  have hl:=stateOk_len h
  have ht3:=stateOk_tallies h
  obtain ⟨hl3,hl2⟩:=stateOk_lives h
  have hc3:=stateOk_cells h
  simp only [stateOk,talliesOk,livKsOk,celKsOk,Bool.and_eq_true] at h
  obtain ⟨⟨⟨⟨h1,_,h2⟩,_,h3⟩,_,h4⟩,h5⟩:=h
  have a2:=allB_iff.1 h2
  have a3:=allB_iff.1 h3
  have a4:=allB_iff.1 h4
  have a5:=allB_iff.1 h5
  refine ⟨h1,hl.1,fun t ht => ?_,ht3,hl.2.1,fun x hx => ?_,hl3,hl.2.2,fun c hc => ?_,hc3,fun c hc => ?_⟩
  · obtain ⟨i,hi,rfl⟩:=mem_nth ht
    have:=a2 i hi
    simp only [talAt,Bool.and_eq_true] at this
    exact this.1
  · obtain ⟨i,hi,rfl⟩:=mem_nth hx
    have:=a3 i hi
    simp only [livKAt,Bool.and_eq_true] at this
    exact this.1
  · obtain ⟨i,hi,rfl⟩:=mem_nth hc
    have:=a4 i hi
    simp only [celKAt,Bool.and_eq_true] at this
    exact this.1
  · obtain ⟨i,hi,rfl⟩:=mem_nth hc
    exact (refAt_iff hc3 i).1 (a5 i hi)
theorem of_sok {s:GState} (h:SOK s):stateOk s = true:=by
  simp only [stateOk,talliesOk,livKsOk,celKsOk,Bool.and_eq_true,decide_eq_true_eq]
  have cons:∀ {α:Type} [Cel α] {l:List α} {lt:α → α → Bool},l.Pairwise (fun a b => lt a b = true) → ∀ i:Nat,i < l.length → i = 0 ∨ lt (nth l (i - 1)) (nth l i) = true:=by
    intro α _ l lt hp i hi
    rcases Nat.eq_zero_or_pos i with h0 | h0
    · exact .inl h0
    · exact .inr (pw_nth hp (by omega) hi)
  refine ⟨⟨⟨⟨h.k,h.t1,allB_iff.2 fun i hi => ?_⟩,h.l1,allB_iff.2 fun i hi => ?_⟩,h.c1,allB_iff.2 fun i hi => ?_⟩,allB_iff.2 fun i hi => ?_⟩
  · simp only [talAt,Bool.and_eq_true,Bool.or_eq_true,decide_eq_true_eq]
    exact ⟨h.t2 _ (nth_mem hi),cons h.t3 i hi⟩
  · simp only [livKAt,Bool.and_eq_true,Bool.or_eq_true,decide_eq_true_eq]
    exact ⟨h.l2 _ (nth_mem hi),cons h.l3 i hi⟩
  · simp only [celKAt,Bool.and_eq_true,Bool.or_eq_true,decide_eq_true_eq]
    exact ⟨h.c2 _ (nth_mem hi),cons h.c3 i hi⟩
  · exact (refAt_iff h.c3 i).2 (h.c4 _ (nth_mem hi))
end Am
namespace Am
open Go
theorem nth_setL {α:Type} [Cel α] (m:List α) (i x:Nat) (v:α):nth (m.set i v) x = if x = i ∧ i < m.length then v else nth m x:=by
  unfold nth
  rw [List.getD_eq_getElem?_getD,List.getD_eq_getElem?_getD,List.getElem?_set]
  by_cases e:i = x
  · subst e
    by_cases h:i < m.length
    · simp [h]
    · simp [h]
  · have e':¬ x = i:=fun h => e h.symm
    simp [e,e']
structure Done (s:GState) (a:GAct):Prop where
  s0:SOK s
  a0:actOk a = true
  n:knows s.know a.dot = false
  ki:knowIn a.knew s.know = true
  r:actRefOk s a = true
  m:tooMany (doneAct s a) = false
theorem done_of {s:GState} {a:GAct} (h:(doAct s a).2 = 0):Done s a ∧ (doAct s a).1 = doneAct s a:=by
  unfold doAct at h ⊢
  split at h <;> rename_i h1 <;> try (simp at h)
  split at h <;> rename_i h2 <;> try (simp at h)
  split at h <;> rename_i h3 <;> try (simp at h)
  split at h <;> rename_i h4 <;> try (simp at h)
  split at h <;> rename_i h5 <;> try (simp at h)
  split at h <;> rename_i h6 <;> try (simp at h)
  rw [if_neg h1,if_neg h2,if_neg h3,if_neg h4,if_neg h5,if_neg h6]
  simp only [Bool.not_eq_false,Bool.not_eq_true] at h1 h2 h3 h4 h5 h6
  exact ⟨⟨sok_of h1,h2,h3,h4,h5,h6⟩,rfl⟩
theorem dot_of {a:GAct} (h:actOk a = true):0 ≤ a.dot.rep ∧ a.dot.rep ≤ 2 ∧ 1 ≤ a.dot.seq ∧ a.dot.seq ≤ 1000:=by
  simp only [actOk,dotOk,spIn,Bool.and_eq_true,decide_eq_true_eq] at h
  omega
theorem seq_next {s:GState} {a:GAct} (h:Done s a):a.dot.seq = nth s.know a.dot.rep.toNat + 1 ∧ a.dot.rep.toNat < s.know.length:=by
  have hd:=dot_of h.a0
  have hk:=h.s0.k
  have hkk:=hk
  simp only [knowOk,Bool.and_eq_true,decide_eq_true_eq] at hkk
  have ha:=h.a0
  simp only [actOk,Bool.and_eq_true,beq_iff_eq] at ha
  have hi:=h.ki
  simp only [knowIn,Bool.and_eq_true,decide_eq_true_eq] at hi
  have hkn:=hi.1.1
  simp only [knowOk,Bool.and_eq_true,decide_eq_true_eq] at hkn
  have h1:=hi.2 a.dot.rep.toNat (by omega)
  have h2:=ha.1.1.1.2
  have hdo:dotOk a.dot = true:=ha.1.1.1.1.1
  have hn:=h.n
  rw [knows,hk,hdo] at hn
  simp only [Bool.and_true,Bool.true_and,decide_eq_false_iff_not] at hn
  omega
theorem know_next {s:GState} {a:GAct} (h:Done s a):knowOk (s.know.set a.dot.rep.toNat a.dot.seq) = true:=by
  have hd:=dot_of h.a0
  have hk:=h.s0.k
  simp only [knowOk,Bool.and_eq_true,decide_eq_true_eq,List.length_set] at hk ⊢
  refine ⟨hk.1,fun j hj => ?_⟩
  rw [nth_setL]
  split
  · omega
  · exact hk.2 j hj
theorem knows_next {s:GState} {a:GAct} (h:Done s a) {d:GDot} (hd:knows s.know d = true):knows (s.know.set a.dot.rep.toNat a.dot.seq) d = true:=by
  obtain ⟨h1,h2⟩:=seq_next h
  simp only [knows,Bool.and_eq_true,decide_eq_true_eq] at hd ⊢
  refine ⟨⟨know_next h,hd.1.2⟩,?_⟩
  rw [nth_setL]
  split
  · rename_i e
    have:=hd.2
    rw [e.1] at this
    omega
  · exact hd.2
theorem knows_self {s:GState} {a:GAct} (h:Done s a):knows (s.know.set a.dot.rep.toNat a.dot.seq) a.dot = true:=by
  obtain ⟨h1,h2⟩:=seq_next h
  have ha:=h.a0
  simp only [actOk,Bool.and_eq_true] at ha
  simp only [knows,Bool.and_eq_true,decide_eq_true_eq]
  refine ⟨⟨know_next h,ha.1.1.1.1.1⟩,?_⟩
  rw [nth_setL,if_pos ⟨rfl,h2⟩]
  exact Int.le_refl _
end Am
namespace Am
open Go
theorem plain_of {a:GAct} (h:actOk a = true):1 ≤ a.kind ∧ a.kind ≤ 7 ∧ nameOk a.obj = true ∧ (2 ≤ a.kind → a.kind ≤ 5 → nameOk a.key = true) ∧ 0 ≤ a.val ∧ a.val ≤ 999999 ∧ 1 ≤ a.time ∧ a.time ≤ 10000 ∧ (a.kind ≠ 1 → a.kind ≠ 4 → a.kind ≠ 6 → a.val = 0):=by
  simp only [actOk,plain,Bool.and_eq_true] at h
  obtain ⟨⟨⟨_,ht⟩,⟨⟨hk,ho⟩,hy⟩,hv⟩,_⟩:=h
  simp only [spIn,Bool.and_eq_true,decide_eq_true_eq] at ht hk
  refine ⟨hk.1,hk.2,ho,fun h2 h5 => ?_,?_,?_,ht.1,ht.2,fun n1 n4 n6 => ?_⟩
  · have:spIn a.kind 2 5 = true:=by simp [spIn,h2,h5]
    rw [if_pos this] at hy; exact hy
  · simp only [spIn,Bool.or_eq_true,Bool.and_eq_true,beq_iff_eq,decide_eq_true_eq] at hv
    rcases hv with h | h <;> omega
  · simp only [spIn,Bool.or_eq_true,Bool.and_eq_true,beq_iff_eq,decide_eq_true_eq] at hv
    rcases hv with h | h <;> omega
  · simp only [valued,Bool.or_eq_true,Bool.and_eq_true,beq_iff_eq] at hv
    rcases hv with h | h
    · exact h
    · rcases h.1 with (h | h) | h
      · exact absurd h n1
      · exact absurd h n4
      · exact absurd h n6
theorem ins_live {s:GState} {a:GAct} (h:Done s a) {l:List GLive} (hl:l.Pairwise fun x y => liveLt x y = true) (hk:∀ x,x ∈ l → knows s.know x.dot = true) (x:GLive) (hx:x.dot = a.dot):(insF liveLt x l).Pairwise fun x y => liveLt x y = true:=by
  refine insF_sorted liveLt_Lt hl fun y hy hf => ?_
  refine before_ne (fun e => ?_) hf
  have:=hk y hy
  rw [← e,hx,h.n] at this
  cases this
theorem ins_cell {s:GState} {a:GAct} (h:Done s a) {l:List GCell} (hl:l.Pairwise fun x y => cellLt x y = true) (hk:∀ x,x ∈ l → knows s.know x.dot = true) (x:GCell) (hx:x.dot = a.dot):(insF cellLt x l).Pairwise fun x y => cellLt x y = true:=by
  refine insF_sorted cellLt_Lt hl fun y hy hf => ?_
  refine before_ne (fun e => ?_) hf
  have:=hk y hy
  rw [← e,hx,h.n] at this
  cases this
theorem insF_mem {α:Type} [Cel α] {lt:α → α → Bool} {x y:α} {l:List α}:y ∈ insF lt x l ↔ y = x ∨ y ∈ l:=by
  rw [(insF_perm (lt:=lt) x l).mem_iff,List.mem_cons]
theorem clear_sub (m:Bool) (o k:ByteArray) (kn:List Int) (l:List GLive):(clearK m o k kn l l.length).Sublist l:=by
  rw [clearK,filK_filter _ _ _ (Nat.le_refl _),List.take_length]
  exact List.filter_sublist
theorem addT_cases (l:List GTally) (o:ByteArray) (r v:Int):(∃ i:Nat,i < l.length ∧ (nth l i).obj = o ∧ (nth l i).rep = r ∧ addT l o r v = l.set i ⟨o,r,(IntKind.i64.wrap ((nth l i).sum + v)).tmod 1000000⟩) ∨ ((∀ t,t ∈ l → ¬ (t.obj = o ∧ t.rep = r)) ∧ addT l o r v = insF tallyLt ⟨o,r,v⟩ l):=by
  unfold addT
  rcases idx_cases (talIs o r) l with ⟨i,hi,h1,_,c1⟩ | ⟨h1,c1⟩
  · left
    simp only [talIs,Bool.and_eq_true,decide_eq_true_eq,beq_iff_eq] at h1
    refine ⟨i,hi,h1.1,h1.2,?_⟩
    rw [c1,if_pos (by omega),Int.toNat_natCast]
  · right
    refine ⟨fun t ht => ?_,by rw [c1,if_neg (by omega)]⟩
    obtain ⟨i,hi,rfl⟩:=mem_nth ht
    have:=h1 i hi
    simp only [talIs,Bool.and_eq_false_iff,decide_eq_false_iff_not,beq_eq_false_iff_ne] at this
    rintro ⟨e1,e2⟩
    rcases this with h | h
    · exact h e1
    · exact h e2
theorem set_mem {α:Type} [Cel α] {l:List α} {i:Nat} {y x:α} (h:x ∈ l.set i y):x = y ∨ x ∈ l:=by
  rcases List.mem_or_eq_of_mem_set h with h | h
  · exact .inr h
  · exact .inl h
theorem done_sok {s:GState} {a:GAct} (h:Done s a):SOK (doneAct s a):=by
  have S:=h.s0
  obtain ⟨k1,k7,ho,hky,v0,v1,t0,t1,vz⟩:=plain_of h.a0
  obtain ⟨r0,r1,s1,s2⟩:=dot_of h.a0
  have hm:=h.m
  have hkn:=fun d hd => knows_next h (d:=d) hd
  have hself:=knows_self h
  simp only [tooMany,Bool.or_eq_false_iff,decide_eq_false_iff_not] at hm
  have lv:∀ x,x ∈ s.lives → knows (s.know.set a.dot.rep.toNat a.dot.seq) x.dot = true ∧ liveOk x = true:=fun x hx => ⟨hkn _ (S.l2 x hx).1,(S.l2 x hx).2⟩
  have cv:∀ x,x ∈ s.cs → knows (s.know.set a.dot.rep.toNat a.dot.seq) x.dot = true ∧ cellOk' x = true:=fun x hx => ⟨hkn _ (S.c2 x hx).1,(S.c2 x hx).2⟩
  have sub:=fun m => clear_sub m a.obj a.key a.knew s.lives
  unfold doneAct at hm ⊢
  by_cases e1:a.kind = 1
  · simp only [e1,if_true] at hm ⊢
    refine ⟨know_next h,by simpa using Nat.not_lt.1 hm.1,?_,?_,S.l1,lv,S.l3,S.c1,cv,S.c3,S.c4⟩
    · rcases addT_cases s.tallies a.obj a.dot.rep a.val with ⟨i,hi,q1,q2,e⟩ | ⟨q,e⟩
      · rw [e]
        intro t ht
        rcases set_mem ht with rfl | ht
        · have:=S.t2 _ (nth_mem hi)
          simp only [tallyOk,spIn,Bool.and_eq_true,decide_eq_true_eq] at this ⊢
          rw [wrap64 (by omega) (by omega)]
          have hn:=Int.tmod_nonneg 1000000 (show 0 ≤ (nth s.tallies i).sum + a.val by omega)
          have hlt:=Int.tmod_lt_of_pos ((nth s.tallies i).sum + a.val) (show (0:Int) < 1000000 by omega)
          exact ⟨⟨ho,by omega,by omega⟩,hn,by omega⟩
        · exact S.t2 t ht
      · rw [e]
        intro t ht
        rcases insF_mem.1 ht with rfl | ht
        · simp only [tallyOk,spIn,Bool.and_eq_true,decide_eq_true_eq]
          exact ⟨⟨ho,by omega,by omega⟩,v0,v1⟩
        · exact S.t2 t ht
    · rcases addT_cases s.tallies a.obj a.dot.rep a.val with ⟨i,hi,q1,q2,e⟩ | ⟨q,e⟩
      · rw [e]
        refine pw_of_nth fun x y hxy hy => ?_
        rw [List.length_set] at hy
        have hp:=pw_nth S.t3 hxy hy
        rw [nth_setL,nth_setL]
        by_cases ex:x = i
        · subst ex
          rw [if_pos ⟨rfl,hi⟩,if_neg (by omega)]
          simpa [tallyLt,q1,q2] using hp
        · rw [if_neg (by omega)]
          by_cases ey:y = i
          · subst ey
            rw [if_pos ⟨rfl,hi⟩]
            simpa [tallyLt,q1,q2] using hp
          · rw [if_neg (by omega)]; exact hp
      · rw [e]
        refine insF_sorted tallyLt_Lt S.t3 fun y hy hf => ?_
        cases hg:tallyLt y ⟨a.obj,a.dot.rep,a.val⟩
        · have:=tallyLt_tri hf hg
          exact absurd ⟨this.1.symm,this.2.symm⟩ (q y hy)
        · rfl
  simp only [e1,if_false] at hm ⊢
  by_cases e2:a.kind = 2
  · simp only [e2,if_true] at hm ⊢
    refine ⟨know_next h,S.t1,S.t2,S.t3,by simpa using Nat.not_lt.1 hm.2.1,fun x hx => ?_,ins_live h S.l3 (fun x hx => (S.l2 x hx).1) _ rfl,S.c1,cv,S.c3,S.c4⟩
    rcases insF_mem.1 hx with rfl | hx
    · exact ⟨hself,by simp [liveOk,ho,hky (by omega) (by omega),spIn]⟩
    · exact lv x hx
  simp only [e2,if_false] at hm ⊢
  by_cases e3:a.kind = 3
  · simp only [e3,if_true] at hm ⊢
    exact ⟨know_next h,S.t1,S.t2,S.t3,Nat.le_trans (sub false).length_le S.l1,fun x hx => lv x ((sub false).subset hx),S.l3.sublist (sub false),S.c1,cv,S.c3,S.c4⟩
  simp only [e3,if_false] at hm ⊢
  by_cases e4:a.kind = 4
  · simp only [e4,if_true] at hm ⊢
    refine ⟨know_next h,S.t1,S.t2,S.t3,by simpa using Nat.not_lt.1 hm.2.1,fun x hx => ?_,ins_live h (S.l3.sublist (sub true)) (fun x hx => (S.l2 x ((sub true).subset hx)).1) _ rfl,S.c1,cv,S.c3,S.c4⟩
    rcases insF_mem.1 hx with rfl | hx
    · exact ⟨hself,by simp [liveOk,ho,hky (by omega) (by omega),spIn,v0,v1]⟩
    · exact lv x ((sub true).subset hx)
  simp only [e4,if_false] at hm ⊢
  by_cases e5:a.kind = 5
  · simp only [e5,if_true] at hm ⊢
    exact ⟨know_next h,S.t1,S.t2,S.t3,Nat.le_trans (sub true).length_le S.l1,fun x hx => lv x ((sub true).subset hx),S.l3.sublist (sub true),S.c1,cv,S.c3,S.c4⟩
  simp only [e5,if_false] at hm ⊢
  by_cases e6:a.kind = 6
  · simp only [e6,if_true] at hm ⊢
    refine ⟨know_next h,S.t1,S.t2,S.t3,S.l1,lv,S.l3,by simpa using Nat.not_lt.1 hm.2.2,fun x hx => ?_,ins_cell h S.c3 (fun x hx => (S.c2 x hx).1) _ rfl,fun c hc => ?_⟩
    · rcases insF_mem.1 hx with rfl | hx
      · exact ⟨hself,by simp [cellOk',ho,spIn,v0,v1,t0,t1]⟩
      · exact cv x hx
    · rcases insF_mem.1 hc with rfl | hc
      · by_cases hz:a.ref = zeroDot
        · exact .inl hz
        · have hr:=h.r
          rw [actRefOk,if_pos (.inr ⟨e6,hz⟩)] at hr
          simp only [Bool.and_eq_true,Bool.or_eq_true,decide_eq_true_eq,beq_iff_eq] at hr
          obtain ⟨h1,h2,h3⟩:=hr
          rcases idx_cases (dotIs a.ref) s.cs with ⟨j,hj,q1,_,c1⟩ | ⟨_,c1⟩
          · have ej:refAtI s a = j:=by unfold refAtI cellAt; rw [c1]; rfl
            rw [ej] at h2 h3
            refine .inr ⟨_,insF_mem.2 (.inr (nth_mem hj)),by simpa [dotIs] using q1,h2,?_⟩
            rcases h3 with h3 | h3
            · omega
            · exact h3
          · unfold cellAt at h1; omega
      · rcases S.c4 c hc with hz | ⟨y,hy,q⟩
        · exact .inl hz
        · exact .inr ⟨y,insF_mem.2 (.inr hy),q⟩
  simp only [e6,if_false] at hm ⊢
  have e7:a.kind = 7:=by omega
  have hr:=h.r
  rw [actRefOk,if_pos (.inl e7)] at hr
  simp only [Bool.and_eq_true,decide_eq_true_eq] at hr
  have hi:refAtI s a < s.cs.length:=by
    have h1:=hr.1
    unfold refAtI
    rcases cellAt_cases s.cs a.ref with c1 | ⟨j,hj,c1⟩
    · omega
    · omega
  generalize refAtI s a = i at hi hm ⊢
  have hback:∀ c,c ∈ s.cs.set i { nth s.cs i with gone:=true } → ∃ c0,c0 ∈ s.cs ∧ c.dot = c0.dot ∧ c.obj = c0.obj ∧ c.time = c0.time ∧ c.ref = c0.ref ∧ c.val = c0.val:=by
    intro c hc
    rcases set_mem hc with rfl | hc
    · exact ⟨_,nth_mem hi,rfl,rfl,rfl,rfl,rfl⟩
    · exact ⟨c,hc,rfl,rfl,rfl,rfl,rfl⟩
  have hforth:∀ c0,c0 ∈ s.cs → ∃ c,c ∈ s.cs.set i { nth s.cs i with gone:=true } ∧ c.dot = c0.dot ∧ c.obj = c0.obj ∧ c.time = c0.time:=by
    intro c0 hc
    obtain ⟨j,hj,rfl⟩:=mem_nth hc
    have hm2:nth (s.cs.set i { nth s.cs i with gone:=true }) j ∈ s.cs.set i { nth s.cs i with gone:=true }:=nth_mem (by rw [List.length_set]; exact hj)
    refine ⟨_,hm2,?_⟩
    rw [nth_setL]
    split
    · rename_i e
      obtain ⟨rfl,_⟩:=e
      exact ⟨rfl,rfl,rfl⟩
    · exact ⟨rfl,rfl,rfl⟩
  refine ⟨know_next h,S.t1,S.t2,S.t3,S.l1,lv,S.l3,by rw [List.length_set]; exact S.c1,fun c hc => ?_,pw_of_nth fun x y hxy hy => ?_,fun c hc => ?_⟩
  · obtain ⟨c0,h0,d1,d2,d3,d4,d5⟩:=hback c hc
    have:=cv c0 h0
    refine ⟨by rw [d1]; exact this.1,?_⟩
    have h2:=this.2
    simp only [cellOk'] at h2 ⊢
    rw [d2,d3,d5]; exact h2
  · rw [List.length_set] at hy
    have hp:=pw_nth S.c3 hxy hy
    rw [nth_setL,nth_setL]
    by_cases ex:x = i
    · subst ex
      rw [if_pos ⟨rfl,hi⟩,if_neg (by omega)]
      exact hp
    · rw [if_neg (by omega)]
      by_cases ey:y = i
      · subst ey
        rw [if_pos ⟨rfl,hi⟩]
        exact hp
      · rw [if_neg (by omega)]; exact hp
  · obtain ⟨c0,h0,d1,d2,d3,d4,d5⟩:=hback c hc
    rcases S.c4 c0 h0 with hz | ⟨y,hy,q1,q2,q3⟩
    · exact .inl (by rw [d4]; exact hz)
    · obtain ⟨y',hy',w1,w2,w3⟩:=hforth y hy
      exact .inr ⟨y',hy',by rw [w1,q1,d4],by rw [w2,q2,d2],by rw [w3,d3]; exact q3⟩
theorem doAct_sok {s:GState} {a:GAct} (h:stateOk s = true):stateOk (doAct s a).1 = true:=by
  by_cases hc:(doAct s a).2 = 0
  · obtain ⟨h1,h2⟩:=done_of hc
    rw [h2]; exact of_sok (done_sok h1)
  · have:(doAct s a).1 = s:=by
      unfold doAct at hc ⊢
      split <;> try rfl
      split <;> try rfl
      split <;> try rfl
      split <;> try rfl
      split <;> try rfl
      split <;> try rfl
      simp_all
    rw [this]; exact h
end Am
namespace Am
open Go
theorem stateNew_sok:SOK (⟨[0,0,0],[],[],[]⟩:GState):=by
  refine ⟨by decide,by simp,by simp,by simp,by simp,by simp,by simp,by simp,by simp,by simp,by simp⟩
end Am
namespace Am
open Go
end Am
