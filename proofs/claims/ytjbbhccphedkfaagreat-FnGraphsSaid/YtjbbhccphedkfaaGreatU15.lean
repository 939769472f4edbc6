/- An act made of a wish is done. No condition. -/
import Derived.Test.YtjbbhccphedkfaaGreatD
import Derived.Test.YtjbbhccphedkfaaGreatU9
import Derived.Test.YtjbbhccphedkfaaGreatE70
import Derived.Test.YtjbbhccphedkfaaGreatT
import Derived.Test.YtjbbhccphedkfaaGreatU39
import Derived.Test.YtjbbhccphedkfaaGreatE91
set_option linter.unusedSimpArgs false
set_option linter.unusedVariables false
set_option linter.unnecessarySimpa false
set_option linter.unusedSectionVars false
namespace Am
open Go
def timeK (l:List GCell):Nat → Int
  | 0 => 0
  | i + 1 => if timeK l i < (nth l i).time then (nth l i).time else timeK l i
def timeOf (s:GState):Int:=timeK s.cs s.cs.length
theorem timeK_bd (l:List GCell) {m:Int} (hm:0 ≤ m) (h:∀ x,x ∈ l → x.time ≤ m):∀ i:Nat,i ≤ l.length → 0 ≤ timeK l i ∧ timeK l i ≤ m
  | 0,_ => by simp only [timeK]; omega
  | i + 1,hi => by
    have h1:=timeK_bd l hm h i (by omega)
    have h2:=h _ (nth_mem (show i < l.length by omega))
    rw [timeK]
    split <;> omega
theorem timeOf_bd {s:GState} (h:SOK s):0 ≤ timeOf s ∧ timeOf s ≤ 10000 :=
  timeK_bd s.cs (by omega) (fun x hx => by
    have:=(h.c2 x hx).2
    simp only [cellOk',cellOk,spIn,Bool.and_eq_true,decide_eq_true_eq] at this
    omega) s.cs.length (Nat.le_refl _)
theorem actOf_cases (s:GState) (rep time:Int) (e:GEdit):((actOf s rep time e).2 = 0 ∧ actPre s rep time e = true ∧ (actPlace s e).2 = true ∧ actOk (actRaw s rep time e) = true ∧ (actOf s rep time e).1 = actRaw s rep time e) ∨ (¬ (actOf s rep time e).2 = 0 ∧ (actOf s rep time e).1 = zeroAct):=by
  unfold actOf
  cases h1:actPre s rep time e
  · simp
  cases h2:(actPlace s e).2
  · simp
  cases h3:actOk (actRaw s rep time e)
  · simp
  · simp
theorem actOf_rep {s:GState} {rep time:Int} {e:GEdit} (h:(actOf s rep time e).2 = 0):(actOf s rep time e).1.dot.rep = rep:=by
  rcases actOf_cases s rep time e with ⟨_,_,_,_,h4⟩ | ⟨h1,_⟩
  · rw [h4]; rfl
  · exact absurd h h1
end Am
namespace Am
open Go Go.Proofs
open Cel (cells)
set_option maxRecDepth 100000
def objs:List ByteArray:=[⟨#[97]⟩,⟨#[98]⟩,⟨#[116,97,108,108,121]⟩]
def keys:List ByteArray:=[⟨#[120]⟩,⟨#[121]⟩,⟨#[122,111,111]⟩]
def kinds:List Int:=[1,2,3,4,5,6,6,6,7]
def vals:List Int:=[0,1,7,999999]
theorem objs_ok (c:GCur):nameOk (curPick c objs).1 = true ∧ (curPick c objs).1.size ≤ 8:=by
  have h:=curPick_mem c (l:=objs) (by simp [objs])
  generalize (curPick c objs).1 = x at h
  simp only [objs,List.mem_cons,List.not_mem_nil,or_false] at h
  rcases h with rfl | rfl | rfl <;> decide
theorem keys_ok (c:GCur):nameOk (curPick c keys).1 = true ∧ (curPick c keys).1.size ≤ 8:=by
  have h:=curPick_mem c (l:=keys) (by simp [keys])
  generalize (curPick c keys).1 = x at h
  simp only [keys,List.mem_cons,List.not_mem_nil,or_false] at h
  rcases h with rfl | rfl | rfl <;> decide
theorem vals_ok (c:GCur):0 ≤ (curPick c vals).1 ∧ (curPick c vals).1 ≤ 999999:=by
  have h:=curPick_mem c (l:=vals) (by simp [vals])
  generalize (curPick c vals).1 = x at h
  simp only [vals,List.mem_cons,List.not_mem_nil,or_false] at h
  omega
theorem kinds_ok (c:GCur):1 ≤ (curPick c kinds).1 ∧ (curPick c kinds).1 ≤ 7:=by
  have h:=curPick_mem c (l:=kinds) (by simp [kinds])
  generalize (curPick c kinds).1 = x at h
  simp only [kinds,List.mem_cons,List.not_mem_nil,or_false] at h
  omega
@[simp] def h203:Hts:={ merge:=fun _ => false,lend:=fun f => if f = 225 then [.box [],.lend] else [] }
theorem f203_ok (c:GCur) (hc:c.Ok):FnW Tryz.prog 203 [.ptr [.im c.b.length (flat c.b),.int .i64 c.i,.int .i64 c.h]] (.v (.str ((curPick c objs).1))) [.ptr [.im ((curPick c objs).2).b.length (flat ((curPick c objs).2).b),.int .i64 ((curPick c objs).2).i,.int .i64 ((curPick c objs).2).h]]:=by
  refine FnW.of_AW TryzT_ok 1 (fn:=Tryz.f203) (by kernel_rfl) rfl (by kernel_rfl) rfl rfl rfl ?_; refine AW_of h203 TryzT_ok (by kernel_rfl) ?_
  simp -dsimp
  refine ACallW_go ?_
  refine ACallC_go (fun us => f225_ok c hc objs (by simp [objs])) ?_
  simp -dsimp
@[simp] def h205:Hts:={ merge:=fun _ => false,lend:=fun f => if f = 225 then [.box [],.lend] else [] }
theorem f205_ok (c:GCur) (hc:c.Ok):FnW Tryz.prog 205 [.ptr [.im c.b.length (flat c.b),.int .i64 c.i,.int .i64 c.h]] (.v (.str ((curPick c keys).1))) [.ptr [.im ((curPick c keys).2).b.length (flat ((curPick c keys).2).b),.int .i64 ((curPick c keys).2).i,.int .i64 ((curPick c keys).2).h]]:=by
  refine FnW.of_AW TryzT_ok 1 (fn:=Tryz.f205) (by kernel_rfl) rfl (by kernel_rfl) rfl rfl rfl ?_; refine AW_of h205 TryzT_ok (by kernel_rfl) ?_
  simp -dsimp
  refine ACallW_go ?_
  refine ACallC_go (fun us => f225_ok c hc keys (by simp [keys])) ?_
  simp -dsimp
@[simp] def h176:Hts:={ merge:=fun _ => false }
set_option maxHeartbeats 1000000 in
theorem f176_ok (s:GState) (hs:s.cs.length ≤ 1073741824):FnR Tryz.prog 176 [.agg [.im s.know.length (flat s.know),.im s.tallies.length (flat s.tallies),.im s.lives.length (flat s.lives),.im s.cs.length (flat s.cs)]] (.v (.int .i64 (timeOf s))):=by
  refine FnW.of_AW TryzT_ok 0 (fn:=Tryz.f176) (by kernel_rfl) rfl (by kernel_rfl) rfl rfl rfl ?_; refine AW_of h176 TryzT_ok (by kernel_rfl) ?_
  simp -dsimp
  refine AWh_loop (fun i:Nat => i ≤ s.cs.length) (fun i => mkE [(1,.box 64 0),(3,.c (.int .i64 (timeK s.cs i))),(4,.c (.int .i64 i))] [(64,.box [.c (.im s.know.length (flat s.know)),.c (.im s.tallies.length (flat s.tallies)),.c (.im s.lives.length (flat s.lives)),.c (.im s.cs.length (flat s.cs))])]) (fun i => s.cs.length - i) 0 (Wk_to [1,3,4] [(64,64)] rfl rfl (by simp [timeK])) (by simp) ?_
  rintro i hi
  refine AW_of h176 TryzT_ok (by kernel_rfl) ?_
  have wi:IntKind.i64.wrap ((i:Int) + 1) = i + 1:=wrap64 (by omega) (by omega)
  rcases Nat.lt_or_ge i s.cs.length with q1 | q1
  · by_cases q2:timeK s.cs i < (nth s.cs i).time
    · simp -dsimp [q1,ne_of_lt q1,q2,wi]
      exact Back_of (i + 1) [1,3,4] [(64,64)] rfl rfl (by simp [timeK,q2]) (by omega) (by omega)
    · simp -dsimp [q1,ne_of_lt q1,q2,Int.not_lt.1 q2,wi]
      exact Back_of (i + 1) [1,3,4] [(64,64)] rfl rfl (by simp [timeK,q2]) (by omega) (by omega)
  · obtain rfl:i = s.cs.length:=by omega
    simp -dsimp
    simp [timeOf]
end Am
namespace Am
open Go Go.Proofs
open Cel (cells)
set_option maxRecDepth 100000
theorem str_nilV {s:ByteArray}:(s.toList = [] ↔ s = ⟨#[]⟩):=by
  rw [ByteArray.toList_eq]
  constructor
  · intro h
    cases s
    simp only at h
    simp [Array.toList_eq_nil_iff.1 h]
  · rintro rfl; rfl
def edK (c:GCur):Int × GCur:=curPick c kinds
def edO (c:GCur):ByteArray × GCur:=curPick (edK c).2 objs
def edY (c:GCur):ByteArray × GCur:=if spIn (edK c).1 2 5 = true then curPick (edO c).2 keys else (⟨#[]⟩,(edO c).2)
def edV (c:GCur):Int × GCur:=if valued (edK c).1 = true then curPick (edY c).2 vals else (0,(edY c).2)
def edP (c:GCur):Int × GCur:=if 6 ≤ (edK c).1 then curN (edV c).2 3 else (0,(edV c).2)
def editD (c:GCur):GEdit × GCur:=(⟨(edK c).1,(edO c).1,(edY c).1,(edV c).1,(edP c).1⟩,(edP c).2)
theorem edO_ok {c:GCur} (h:c.Ok):(edO c).2.Ok:=curPick_ok (curPick_ok h _) _
theorem edY_ok {c:GCur} (h:c.Ok):(edY c).2.Ok:=by
  unfold edY
  split
  · exact curPick_ok (edO_ok h) _
  · exact edO_ok h
theorem edV_ok {c:GCur} (h:c.Ok):(edV c).2.Ok:=by
  unfold edV
  split
  · exact curPick_ok (edY_ok h) _
  · exact edY_ok h
theorem editD_ok {c:GCur} (h:c.Ok):(editD c).2.Ok:=by
  show (edP c).2.Ok
  unfold edP
  split
  · exact curN_ok (edV_ok h) _
  · exact edV_ok h
theorem editD_good (c:GCur):editOk (editD c).1 = true ∧ (editD c).1.obj.size ≤ 8 ∧ (editD c).1.key.size ≤ 8 ∧ 0 ≤ (editD c).1.place ∧ (editD c).1.place ≤ 2:=by
  have hk:=kinds_ok c
  have ho:=objs_ok (edK c).2
  have hp:0 ≤ (edP c).1 ∧ (edP c).1 ≤ 2 ∧ ((edP c).1 = 0 ∨ 6 ≤ (edK c).1):=by
    unfold edP
    split
    · have:=curN_bd (edV c).2 (n:=3) (by decide); omega
    · exact ⟨by simp,by simp,.inl rfl⟩
  have hy:(edY c).1.size ≤ 8 ∧ ((spIn (edK c).1 2 5 = true ∧ nameOk (edY c).1 = true) ∨ (spIn (edK c).1 2 5 = false ∧ (edY c).1 = ⟨#[]⟩)):=by
    unfold edY
    split
    · rename_i h; have:=keys_ok (edO c).2; exact ⟨this.2,.inl ⟨h,this.1⟩⟩
    · rename_i h; exact ⟨Nat.zero_le _,.inr ⟨by simpa using h,rfl⟩⟩
  have hv:0 ≤ (edV c).1 ∧ (edV c).1 ≤ 999999 ∧ ((edV c).1 = 0 ∨ valued (edK c).1 = true):=by
    unfold edV
    split
    · rename_i h; have:=vals_ok (edY c).2; exact ⟨this.1,this.2,.inr h⟩
    · simp
  refine ⟨?_,ho.2,hy.1,hp.1,hp.2.1⟩
  show editOk ⟨(edK c).1,(edO c).1,(edY c).1,(edV c).1,(edP c).1⟩ = true
  have ho':nameOk (edO c).1 = true:=ho.1
  generalize hK:(edK c).1 = k at *
  have hk':1 ≤ k ∧ k ≤ 7:=by rw [← hK]; exact hk
  simp only [editOk,plain,Bool.and_eq_true,Bool.or_eq_true,decide_eq_true_eq,beq_iff_eq]
  refine ⟨⟨⟨⟨by simp [spIn]; omega,ho'⟩,?_⟩,?_⟩,by omega⟩
  · rcases hy.2 with ⟨h1,h2⟩ | ⟨h1,h2⟩
    · rw [if_pos h1]; exact h2
    · rw [if_neg (by simp [h1]),h2]; exact decide_eq_true (str_nilV.2 rfl)
  · rcases hv.2.2 with h | h
    · exact .inl h
    · exact .inr ⟨h,by simp [spIn]; omega⟩
@[simp] def h177:Hts:={ merge:=fun _ => false,mergeF:=fun _ => false,lend:=fun f => if f = 225 || f = 202 then [.box [],.lend] else if f = 203 || f = 205 || f = 50 then [.box []] else [] }
set_option maxHeartbeats 4000000 in
theorem f177_ok (c:GCur) (hc:c.Ok):FnW Tryz.prog 177 [.ptr [.im c.b.length (flat c.b),.int .i64 c.i,.int .i64 c.h]] (.agg [.int .i64 ((editD c).1).kind,.str ((editD c).1).obj,.str ((editD c).1).key,.int .i64 ((editD c).1).val,.int .i64 ((editD c).1).place]) [.ptr [.im ((editD c).2).b.length (flat ((editD c).2).b),.int .i64 ((editD c).2).i,.int .i64 ((editD c).2).h]]:=by
  have hk:=kinds_ok c
  refine FnW.of_AW TryzT_ok 1 (fn:=Tryz.f177) (by kernel_rfl) rfl (by kernel_rfl) rfl rfl rfl ?_; refine AW_of h177 TryzT_ok (by kernel_rfl) ?_
  simp -dsimp
  refine ACallW_go ?_
  refine ACallC_go (fun us => f202_ok c hc kinds (by simp [kinds])) ?_
  simp -dsimp
  refine ACallW_go ?_
  refine ACallC_of (fun us => f203_ok (edK c).2 (curPick_ok hc _)) (by intro us; simp -dsimp [edK]; exact ⟨rfl,rfl⟩) ?_
  simp -dsimp
  refine ACallK_of (f204_ok _) ?_
  have key:(curPick c kinds).1 = 1 ∨ (curPick c kinds).1 = 2 ∨ (curPick c kinds).1 = 3 ∨ (curPick c kinds).1 = 4 ∨ (curPick c kinds).1 = 5 ∨ (curPick c kinds).1 = 6 ∨ (curPick c kinds).1 = 7:=by omega
  rcases key with e | e | e | e | e | e | e
  · have s1:spIn 1 2 5 = false:=by decide
    have s2:valued 1 = true:=by decide
    simp -dsimp [e,s1]
    refine ACallK_of (f206_ok _) ?_
    simp -dsimp [e,s2]
    refine ACallW_go ?_
    refine ACallC_of (fun us => f202_ok (edO c).2 (edO_ok hc) vals (by simp [vals])) (by intro us; simp -dsimp [edO,edK]; exact ⟨rfl,rfl⟩) ?_
    simp -dsimp [e]
    simp [editD,edP,edV,edY,edO,edK,e,s1,s2]
  · have s1:spIn 2 2 5 = true:=by decide
    have s2:valued 2 = false:=by decide
    simp -dsimp [e,s1]
    refine ACallW_go ?_
    refine ACallC_of (fun us => f205_ok (edO c).2 (edO_ok hc)) (by intro us; simp -dsimp [edO,edK]; exact ⟨rfl,rfl⟩) ?_
    simp -dsimp [e]
    refine ACallK_of (f206_ok _) ?_
    simp -dsimp [e,s2]
    simp [editD,edP,edV,edY,edO,edK,e,s1,s2]
  · have s1:spIn 3 2 5 = true:=by decide
    have s2:valued 3 = false:=by decide
    simp -dsimp [e,s1]
    refine ACallW_go ?_
    refine ACallC_of (fun us => f205_ok (edO c).2 (edO_ok hc)) (by intro us; simp -dsimp [edO,edK]; exact ⟨rfl,rfl⟩) ?_
    simp -dsimp [e]
    refine ACallK_of (f206_ok _) ?_
    simp -dsimp [e,s2]
    simp [editD,edP,edV,edY,edO,edK,e,s1,s2]
  · have s1:spIn 4 2 5 = true:=by decide
    have s2:valued 4 = true:=by decide
    simp -dsimp [e,s1]
    refine ACallW_go ?_
    refine ACallC_of (fun us => f205_ok (edO c).2 (edO_ok hc)) (by intro us; simp -dsimp [edO,edK]; exact ⟨rfl,rfl⟩) ?_
    simp -dsimp [e]
    refine ACallK_of (f206_ok _) ?_
    simp -dsimp [e,s2]
    refine ACallW_go ?_
    refine ACallC_of (fun us => f202_ok (curPick (edO c).2 keys).2 (curPick_ok (edO_ok hc) _) vals (by simp [vals])) (by intro us; simp -dsimp [edO,edK]; exact ⟨rfl,rfl⟩) ?_
    simp -dsimp [e]
    simp [editD,edP,edV,edY,edO,edK,e,s1,s2]
  · have s1:spIn 5 2 5 = true:=by decide
    have s2:valued 5 = false:=by decide
    simp -dsimp [e,s1]
    refine ACallW_go ?_
    refine ACallC_of (fun us => f205_ok (edO c).2 (edO_ok hc)) (by intro us; simp -dsimp [edO,edK]; exact ⟨rfl,rfl⟩) ?_
    simp -dsimp [e]
    refine ACallK_of (f206_ok _) ?_
    simp -dsimp [e,s2]
    simp [editD,edP,edV,edY,edO,edK,e,s1,s2]
  · have s1:spIn 6 2 5 = false:=by decide
    have s2:valued 6 = true:=by decide
    simp -dsimp [e,s1]
    refine ACallK_of (f206_ok _) ?_
    simp -dsimp [e,s2]
    refine ACallW_go ?_
    refine ACallC_of (fun us => f202_ok (edO c).2 (edO_ok hc) vals (by simp [vals])) (by intro us; simp -dsimp [edO,edK]; exact ⟨rfl,rfl⟩) ?_
    simp -dsimp [e]
    refine ACallW_go ?_
    refine ACallC_of (fun us => f50_ok (curPick (edO c).2 vals).2 (curPick_ok (edO_ok hc) _) 3) (by intro us; simp -dsimp [edO,edK]; exact ⟨rfl,rfl⟩) ?_
    simp -dsimp [e]
    simp [editD,edP,edV,edY,edO,edK,e,s1,s2]
  · have s1:spIn 7 2 5 = false:=by decide
    have s2:valued 7 = false:=by decide
    simp -dsimp [e,s1]
    refine ACallK_of (f206_ok _) ?_
    simp -dsimp [e,s2]
    refine ACallW_go ?_
    refine ACallC_of (fun us => f50_ok (edO c).2 (edO_ok hc) 3) (by intro us; simp -dsimp [edO,edK]; exact ⟨rfl,rfl⟩) ?_
    simp -dsimp [e]
    simp [editD,edP,edV,edY,edO,edK,e,s1,s2]
end Am
namespace Am
open Go
theorem actOf_ok {s:GState} {rep time:Int} {e:GEdit} (hs:s.Ok) (h1:e.obj.size ≤ 1073741824) (h2:e.key.size ≤ 1073741824):(actOf s rep time e).1.Ok:=by
  unfold actOf
  split
  · simp only [zeroAct,GAct.Ok]; exact ⟨by simp,Nat.zero_le _,Nat.zero_le _⟩
  split
  · simp only [zeroAct,GAct.Ok]; exact ⟨by simp,Nat.zero_le _,Nat.zero_le _⟩
  split
  · simp only [zeroAct,GAct.Ok]; exact ⟨by simp,Nat.zero_le _,Nat.zero_le _⟩
  · simp only [GState.Ok] at hs
    simp only [GAct.Ok]; exact ⟨hs.1,h1,h2⟩
theorem nameOk_size {s:ByteArray} (h:nameOk s = true):s.size ≤ 8:=by
  simp only [nameOk,spIn,Bool.and_eq_true,decide_eq_true_eq] at h
  omega
theorem sok_Ok {s:GState} (h:SOK s):s.Ok:=by
  have hk:=h.k
  have h1:=h.t1
  have h2:=h.l1
  have h3:=h.c1
  simp only [knowOk,Bool.and_eq_true,decide_eq_true_eq] at hk
  simp only [GState.Ok]
  refine ⟨by omega,by omega,fun y hy => ?_,by omega,fun y hy => ?_,by omega,fun y hy => ?_⟩
  · have:=h.t2 y hy
    simp only [tallyOk,Bool.and_eq_true] at this
    simp only [GTally.Ok]
    have:=nameOk_size this.1.1
    omega
  · have:=(h.l2 y hy).2
    simp only [liveOk,Bool.and_eq_true] at this
    simp only [GLive.Ok]
    have h4:=nameOk_size this.1.1.1
    have h5:=nameOk_size this.1.1.2
    omega
  · have:=(h.c2 y hy).2
    simp only [cellOk',Bool.and_eq_true] at this
    simp only [GCell.Ok]
    have:=nameOk_size this.1.1
    omega
end Am
namespace Am
open Go Go.Proofs
open Cel (cells)
set_option maxRecDepth 100000
end Am
namespace Am
open Go
def stepD (rep:Int) (s:GState) (c:GCur):GState × GCur:=(if (actOf s rep (timeOf s + 1) (editD c).1).2 = 0 then (doAct s (actOf s rep (timeOf s + 1) (editD c).1).1).1 else s,(editD c).2)
theorem stepD_ok {c:GCur} (h:c.Ok) (rep:Int) (s:GState):(stepD rep s c).2.Ok:=editD_ok h
theorem stepD_sok {s:GState} (h:SOK s) (rep:Int) (c:GCur):SOK (stepD rep s c).1:=by
  simp only [stepD]
  split
  · exact sok_of (doAct_sok (of_sok h))
  · exact h
end Am
namespace Am
open Go
theorem step_in {out:List GAct} {s:GState} (hW:Wo out) (hl:out.length ≤ 59) (h:InA out s) {r:Int} (ho:∀ a,a ∈ out → a.dot.rep = r → knows s.know a.dot = true) (c:GCur) :
    ∃ out',Wo out' ∧ out'.length ≤ out.length + 1 ∧ (∀ a,a ∈ out → a ∈ out') ∧ (∀ a,a ∈ out' → a ∈ out ∨ a.dot.rep = r) ∧ InA out' (stepD r s c).1 ∧ below s (stepD r s c).1 ∧ ∀ a,a ∈ out' → a.dot.rep = r → knows (stepD r s c).1.know a.dot = true:=by
  have same:∀ {t:GState},t = s → ∃ out',Wo out' ∧ out'.length ≤ out.length + 1 ∧ (∀ a,a ∈ out → a ∈ out') ∧ (∀ a,a ∈ out' → a ∈ out ∨ a.dot.rep = r) ∧ InA out' t ∧ below s t ∧ ∀ a,a ∈ out' → a.dot.rep = r → knows t.know a.dot = true:=fun e => by
    subst e; exact ⟨out,hW,by omega,fun _ h => h,fun _ h => .inl h,h,in_refl h,ho⟩
  simp only [stepD]
  split
  · rename_i hc
    have hr:=actOf_rep hc
    obtain ⟨D,d1,d2⟩:=h
    generalize (actOf s r (timeOf s + 1) (editD c).1).1 = a at *
    by_cases hd:(doAct s a).2 = 0
    · obtain ⟨q1,q2⟩:=done_of hd
      rw [q2]
      have hn:∀ b,b ∈ out → b.dot ≠ a.dot:=fun b hb e => by
        have:=ho b hb (by rw [e]; exact hr)
        rw [e,q1.n] at this; cases this
      have hcn:=canon_next d1 q1
      have hb:=know_sub d1 hcn (fun x hx => List.mem_cons_of_mem _ hx)
      refine ⟨a :: out,⟨?_,by simp only [List.length_cons]; omega⟩,by simp,fun x hx => List.mem_cons_of_mem _ hx,fun x hx => ?_,⟨_,hcn,fun x hx => ?_⟩,hb,fun x hx hxr => ?_⟩
      · rw [List.map_cons,List.nodup_cons]
        refine ⟨fun hx => ?_,hW.n⟩
        obtain ⟨b,hb,e⟩:=List.mem_map.1 hx
        exact hn b hb e
      · rcases List.mem_cons.1 hx with rfl | hx
        · exact .inr hr
        · exact .inl hx
      · rcases List.mem_cons.1 hx with rfl | hx
        · exact List.mem_cons_self
        · exact List.mem_cons_of_mem _ (d2 x hx)
      · rcases List.mem_cons.1 hx with rfl | hx
        · exact (hcn.know _).2 ⟨_,List.mem_cons_self,rfl⟩
        · exact knows_in hb (ho x hx hxr)
    · exact same (doAct_same hd)
  · exact same rfl
abbrev Reg:=List (GDot × GState)
structure GR (out:List GAct) (reg:Reg) (r:Int) (g:GGraph) (s:GState):Prop where
  ok:GraOk g
  cm:∀ c,c ∈ g.commits → (c.id,c.state) ∈ reg
  st:InA out s
  hd:0 ≤ g.head → below (stAt g g.head.toNat) s
  oa:∀ a,a ∈ out → a.dot.rep = r → knows s.know a.dot = true
  oi:∀ p,p ∈ reg → p.1.rep = r → ∃ c,c ∈ g.commits ∧ c.id = p.1
structure Wr (out:List GAct) (reg:Reg) (n:Nat):Prop where
  w:Wo out
  l:out.length ≤ n
  rn:(reg.map (·.1)).Nodup
  rl:reg.length ≤ n
  rq:∀ p,p ∈ reg → p.1.seq ≤ n
  ri:∀ p,p ∈ reg → InA out p.2
theorem reg_one {reg:Reg} (h:(reg.map (·.1)).Nodup) {a b:GDot × GState} (ha:a ∈ reg) (hb:b ∈ reg) (e:a.1 = b.1):a = b:=by
  induction reg with
  | nil => cases ha
  | cons x r ih =>
    rw [List.map_cons,List.nodup_cons] at h
    rcases List.mem_cons.1 ha with ea | ha'
    · rcases List.mem_cons.1 hb with eb | hb'
      · rw [ea,eb]
      · exact absurd (List.mem_map.2 ⟨b,hb',by rw [← e,ea]⟩) h.1
    · rcases List.mem_cons.1 hb with eb | hb'
      · exact absurd (List.mem_map.2 ⟨a,ha',by rw [e,eb]⟩) h.1
      · exact ih h.2 ha' hb'
theorem gr_len {out:List GAct} {reg:Reg} {n:Nat} (hW:Wr out reg n) {r:Int} {g:GGraph} {s:GState} (h:GR out reg r g s):g.commits.length ≤ n:=by
  have hn:(g.commits.map (·.id)).Nodup:=by
    unfold List.Nodup
    rw [List.pairwise_iff_getElem]
    intro i j hi hj hij e
    rw [List.length_map] at hi hj
    rw [List.getElem_map,List.getElem_map,← nth_eq hi,← nth_eq hj] at e
    have:=gra_one h.ok hi hj e
    omega
  have:=nodup_len (m:=reg.map (·.1)) hn (fun d hd => by
    obtain ⟨c,hc,rfl⟩:=List.mem_map.1 hd
    exact List.mem_map.2 ⟨_,h.cm c hc,rfl⟩)
  simp only [List.length_map] at this
  have:=hW.rl
  omega
theorem gr_all {out:List GAct} {reg:Reg} {n:Nat} (hW:Wr out reg n) {r:Int} {g:GGraph} {s:GState} (h:GR out reg r g s):AllIn out g:=fun c hc => hW.ri _ (h.cm c hc)
theorem gr_seq {out:List GAct} {reg:Reg} {n:Nat} (hW:Wr out reg n) {r:Int} {g:GGraph} {s:GState} (h:GR out reg r g s):∀ c,c ∈ g.commits → c.id.seq ≤ n:=fun c hc => hW.rq _ (h.cm c hc)
theorem gr_agree {out:List GAct} {reg:Reg} {n:Nat} (hW:Wr out reg n) {r q:Int} {g h:GGraph} {s t:GState} (hg:GR out reg r g s) (hh:GR out reg q h t):Agree g.commits h.commits:=fun x hx y hy e => by
  have:=reg_one hW.rn (hg.cm x hx) (hh.cm y hy) e
  exact congrArg Prod.snd this
theorem gr_pair {out:List GAct} {reg:Reg} {n:Nat} (hW:Wr out reg n) (hn:n ≤ 39) {r q:Int} {g h:GGraph} {s t:GState} (hg:GR out reg r g s) (hh:GR out reg q h t):Pair out g h n :=
  ⟨hW.w,hg.ok,hh.ok,gr_all hW hg,gr_all hW hh,gr_agree hW hg hh,by have:=gr_len hW hg; have:=gr_len hW hh; omega,by omega,by omega,gr_seq hW hg,gr_seq hW hh⟩
theorem GR.other {out out':List GAct} {reg reg':Reg} {r q:Int} {g:GGraph} {s:GState} (h:GR out reg q g s) (hq:q ≠ r) (h1:∀ a,a ∈ out → a ∈ out') (h2:∀ a,a ∈ out' → a ∈ out ∨ a.dot.rep = r) (h3:∀ p,p ∈ reg → p ∈ reg') (h4:∀ p,p ∈ reg' → p ∈ reg ∨ p.1.rep = r):GR out' reg' q g s :=
  ⟨h.ok,fun c hc => h3 _ (h.cm c hc),in_more h.st h1,h.hd,fun a ha hr => (h2 a ha).elim (fun k => h.oa a k hr) fun k => absurd (hr.symm.trans k) hq,
    fun p hp hr => (h4 p hp).elim (fun k => h.oi p k hr) fun k => absurd (hr.symm.trans k) hq⟩
theorem Wr.more {out:List GAct} {reg:Reg} {n:Nat} (h:Wr out reg n):Wr out reg (n + 1) :=
  ⟨h.w,by have:=h.l; omega,h.rn,by have:=h.rl; omega,fun p hp => by have:=h.rq p hp; push_cast; omega,h.ri⟩
theorem Wr.com {out:List GAct} {reg:Reg} {n:Nat} (h:Wr out reg n) {r:Int} {cs:List GCommit} {hd:Int} (hs:∀ c,c ∈ cs → c.id.seq ≤ n) (ho:∀ p,p ∈ reg → p.1.rep = r → ∃ c,c ∈ cs ∧ c.id = p.1) {s:GState} (hi:InA out s):Wr out ((⟨r,seqOf cs r + 1⟩,s) :: reg) (n + 1):=by
  have hb:=seqK_le cs r (n:=(n:Int)) (by omega) hs cs.length (Nat.le_refl _)
  refine ⟨h.w,by have:=h.l; omega,?_,by have:=h.rl; simp only [List.length_cons]; omega,fun p hp => ?_,fun p hp => ?_⟩
  · rw [List.map_cons,List.nodup_cons]
    refine ⟨fun hx => ?_,h.rn⟩
    obtain ⟨p,hp,e⟩:=List.mem_map.1 hx
    have e:p.1 = ⟨r,seqOf cs r + 1⟩:=e
    obtain ⟨c,hc,e2⟩:=ho p hp (by rw [e])
    obtain ⟨i,hi,rfl⟩:=mem_nth hc
    have:=seqK_ge cs r cs.length i hi (by rw [e2,e])
    rw [e2,e] at this
    have e3:seqOf cs r = seqK cs r cs.length:=rfl
    simp only at this
    omega
  · rcases List.mem_cons.1 hp with rfl | hp
    · show seqOf cs r + 1 ≤ _
      have e3:seqOf cs r = seqK cs r cs.length:=rfl
      push_cast
      omega
    · have:=h.rq p hp; push_cast; omega
  · rcases List.mem_cons.1 hp with rfl | hp
    · exact hi
    · exact h.ri p hp
theorem commit_world {out:List GAct} {reg:Reg} {n:Nat} (hW:Wr out reg n) (hn:n ≤ 39) {r:Int} {g:GGraph} {s:GState} (h:GR out reg r g s) (c:GCur) (ups:List Int) :
    ∃ out' reg',Wr out' reg' (n + 1) ∧ (∀ a,a ∈ out → a ∈ out') ∧ (∀ a,a ∈ out' → a ∈ out ∨ a.dot.rep = r) ∧ (∀ p,p ∈ reg → p ∈ reg') ∧ (∀ p,p ∈ reg' → p ∈ reg ∨ p.1.rep = r) ∧ GR out' reg' r (commitTo g r ups (stepD r s c).1).1 (stepD r s c).1:=by
  obtain ⟨out',w1,w2,w3,w4,w5,w6,w7⟩:=step_in hW.w (by have:=hW.l; omega) h.st h.oa c
  have hW1:∀ {m:Nat},m = n + 1 → Wr out' reg m:=fun e => by
    subst e
    exact ⟨w1,by have:=hW.l; omega,hW.rn,by have:=hW.rl; omega,fun p hp => by have:=hW.rq p hp; push_cast; omega,fun p hp => in_more (hW.ri p hp) w3⟩
  generalize (stepD r s c).1 = t at *
  have same:GR out' reg r g t:=⟨h.ok,h.cm,w5,fun h0 => below_trans (h.hd h0) w6,w7,h.oi⟩
  unfold commitTo
  split
  · exact ⟨out',reg,hW1 rfl,w3,w4,fun _ h => h,fun _ h => .inl h,same⟩
  split
  · rename_i hc
    have hb:=seqK_le g.commits r (n:=(n:Int)) (by omega) (gr_seq hW h) g.commits.length (Nat.le_refl _)
    refine ⟨out',(⟨r,seqOf g.commits r + 1⟩,t) :: reg,?_,w3,w4,fun p hp => List.mem_cons_of_mem _ hp,fun p hp => ?_,⟨graphOk_iff.1 hc,fun x hx => ?_,w5,fun _ => ?_,w7,fun p hp hr => ?_⟩⟩
    · have hW':Wr out' reg n → Wr out' ((⟨r,seqOf g.commits r + 1⟩,t) :: reg) (n + 1):=fun hW' => hW'.com (hd:=0) (gr_seq hW h) h.oi w5
      obtain ⟨a1,a2,a3,a4,a5,a6⟩:=hW1 (m:=n + 1) rfl
      have hq:=hW.com (hd:=0) (gr_seq hW h) h.oi h.st
      exact ⟨a1,a2,hq.rn,hq.rl,fun p hp => by
        rcases List.mem_cons.1 hp with rfl | hp
        · exact hq.rq (⟨r,seqOf g.commits r + 1⟩,s) List.mem_cons_self
        · exact a5 p hp,fun p hp => by
        rcases List.mem_cons.1 hp with rfl | hp
        · exact w5
        · exact a6 p hp⟩
    · rcases List.mem_cons.1 hp with rfl | hp
      · exact .inr rfl
      · exact .inl hp
    · rcases List.mem_append.1 hx with hx | hx
      · exact List.mem_cons_of_mem _ (h.cm x hx)
      · rw [List.mem_singleton.1 hx]; exact List.mem_cons_self
    · show below (nth (g.commits ++ [_]) (g.commits.length:Int).toNat).state t
      rw [Int.toNat_natCast,nth_more_at]
      exact in_refl w5
    · rcases List.mem_cons.1 hp with rfl | hp
      · exact ⟨_,List.mem_append.2 (.inr (List.mem_singleton.2 rfl)),rfl⟩
      · obtain ⟨x,hx,e⟩:=h.oi p hp hr
        exact ⟨x,List.mem_append.2 (.inl hx),e⟩
  · exact ⟨out',reg,hW1 rfl,w3,w4,fun _ h => h,fun _ h => .inl h,same⟩
theorem fetch_world {out:List GAct} {reg:Reg} {n:Nat} (hW:Wr out reg n) (hn:n ≤ 39) {r q:Int} (hr0:0 ≤ r) (hr2:r ≤ 2) {g h:GGraph} {s t:GState} (hg:GR out reg r g s) (hh:GR out reg q h t) (hd:0 ≤ h.head) :
    ∃ cs p reg',FetG out g h n cs p ∧ 0 ≤ (joinM ⟨cs,g.head⟩ r p).1.head ∧ (joinM ⟨cs,g.head⟩ r p).1.head < (joinM ⟨cs,g.head⟩ r p).1.commits.length ∧ Wr out reg' (n + 1) ∧ (∀ p,p ∈ reg → p ∈ reg') ∧ (∀ p,p ∈ reg' → p ∈ reg ∨ p.1.rep = r) ∧
      GR out reg' r (joinM ⟨cs,g.head⟩ r p).1 (mergeState s (stAt (joinM ⟨cs,g.head⟩ r p).1 (joinM ⟨cs,g.head⟩ r p).1.head.toNat)):=by
  have hP:=gr_pair hW hn hg hh
  obtain ⟨cs,p,hf⟩:=fet_pair hP hd
  obtain ⟨j1,j2,j3⟩:=joined_law (g:=⟨cs,g.head⟩) (r:=r) (k:=p) hW.w hf.ft.ok hf.a hf.l hr0 hr2 (n:=n) (by omega) (by omega) hf.q (by omega) (by have:=hf.pl; show (p:Int) < cs.length; omega)
  have hreg:∀ c,c ∈ cs → (c.id,c.state) ∈ reg:=fun c hc => by
    rcases hf.ft.new c hc with h1 | ⟨y,h1,h2,h3⟩
    · exact hg.cm c h1
    · rw [h2,h3]; exact hh.cm y h1
  have hin:InA out (if (⟨cs,g.head⟩:GGraph).head < 0 then stAt ⟨cs,g.head⟩ (p:Int).toNat else mergeState (stAt ⟨cs,g.head⟩ (⟨cs,g.head⟩:GGraph).head.toNat) (stAt ⟨cs,g.head⟩ (p:Int).toNat)):=by
    have hp1:InA out (stAt ⟨cs,g.head⟩ (p:Int).toNat):=hf.a _ (nth_mem (by rw [Int.toNat_natCast]; exact hf.pl))
    split
    · exact hp1
    · rename_i h0
      have h0:¬ g.head < 0:=h0
      have:=hf.ft.ok.h1
      have h3:g.head < cs.length:=this
      exact (in_merge hW.w (hf.a _ (nth_mem (show g.head.toNat < cs.length by omega))) hp1).1
  have hold:∀ c,c ∈ g.commits → c ∈ cs:=fun c hc => by
    obtain ⟨i,hi,rfl⟩:=mem_nth hc
    have:=hf.ft.len
    rw [← hf.ft.old i hi]
    exact nth_mem (by omega)
  have hoi:∀ p,p ∈ reg → p.1.rep = r → ∃ c,c ∈ cs ∧ c.id = p.1:=fun p hp hr => by
    obtain ⟨c,hc,e⟩:=hg.oi p hp hr
    exact ⟨c,hold c hc,e⟩
  generalize (if (⟨cs,g.head⟩:GGraph).head < 0 then stAt ⟨cs,g.head⟩ (p:Int).toNat else mergeState (stAt ⟨cs,g.head⟩ (⟨cs,g.head⟩:GGraph).head.toNat) (stAt ⟨cs,g.head⟩ (p:Int).toNat)) = S at *
  have hst:=j2.st
  obtain ⟨m1,m2,m3,_⟩:=in_merge hW.w hg.st hin
  have hh1:=j2.ok.h1
  refine ⟨cs,p,?_⟩
  rw [hst]
  have hk:∀ a,a ∈ out → a.dot.rep = r → knows (mergeState s S).know a.dot = true:=fun a ha hr => knows_in m2 (hg.oa a ha hr)
  have hcm:=j2.cm
  rcases hcm with hcm | ⟨ups,hcm⟩
  · refine ⟨reg,hf,j2.h0,hh1,hW.more,fun _ h => h,fun _ h => .inl h,⟨j2.ok,fun c hc => ?_,m1,fun _ => ?_,hk,fun p hp hr => ?_⟩⟩
    · rw [hcm] at hc; exact hreg c hc
    · rw [hst]; exact m3
    · rw [hcm]; exact hoi p hp hr
  · refine ⟨(⟨r,seqOf cs r + 1⟩,S) :: reg,hf,j2.h0,hh1,hW.com (hd:=g.head) (cs:=cs) hf.q hoi hin,fun p hp => List.mem_cons_of_mem _ hp,fun p hp => ?_,⟨j2.ok,fun c hc => ?_,m1,fun _ => ?_,hk,fun p hp hr => ?_⟩⟩
    · rcases List.mem_cons.1 hp with rfl | hp
      · exact .inr rfl
      · exact .inl hp
    · rw [hcm] at hc
      rcases List.mem_append.1 hc with hc | hc
      · exact List.mem_cons_of_mem _ (hreg c hc)
      · rw [List.mem_singleton.1 hc]; exact List.mem_cons_self
    · rw [hst]; exact m3
    · rw [hcm]
      rcases List.mem_cons.1 hp with rfl | hp
      · exact ⟨_,List.mem_append.2 (.inr (List.mem_singleton.2 rfl)),rfl⟩
      · obtain ⟨x,hx,e⟩:=hoi p hp hr
        exact ⟨x,List.mem_append.2 (.inl hx),e⟩
structure GS where
  g0:GGraph
  g1:GGraph
  s0:GState
  s1:GState
  c:GCur
def gsR (a:GS):Int × GCur:=curN a.c 2
def gsK (a:GS):Int × GCur:=curN (gsR a).2 4
def headL (g:GGraph):List Int:=if 0 ≤ g.head then [g.head] else []
def fetG (g h:GGraph) (r:Int):GGraph:=(joinM (fetched g h h.head).1 r (fetched g h h.head).2).1
def fetS (g h:GGraph) (s:GState) (r:Int):GState:=mergeState s (stAt (fetG g h r) (fetG g h r).head.toNat)
def gsN (a:GS):GS :=
  if (gsK a).1 = 0 then
    (if (gsR a).1 = 0 then (if 0 ≤ a.g1.head then ⟨fetG a.g0 a.g1 0,a.g1,fetS a.g0 a.g1 a.s0 0,a.s1,(gsK a).2⟩ else ⟨a.g0,a.g1,a.s0,a.s1,(gsK a).2⟩)
    else (if 0 ≤ a.g0.head then ⟨a.g0,fetG a.g1 a.g0 1,a.s0,fetS a.g1 a.g0 a.s1 1,(gsK a).2⟩ else ⟨a.g0,a.g1,a.s0,a.s1,(gsK a).2⟩))
  else
    (if (gsR a).1 = 0 then ⟨(commitTo a.g0 0 (headL a.g0) (stepD 0 a.s0 (gsK a).2).1).1,a.g1,(stepD 0 a.s0 (gsK a).2).1,a.s1,(stepD 0 a.s0 (gsK a).2).2⟩
    else ⟨a.g0,(commitTo a.g1 1 (headL a.g1) (stepD 1 a.s1 (gsK a).2).1).1,a.s0,(stepD 1 a.s1 (gsK a).2).1,(stepD 1 a.s1 (gsK a).2).2⟩)
def gsRun:Nat → Int → GS → GS
  | 0,_,a => a
  | f + 1,i,a => if i < 3 + (curN a.c 7).1 then gsRun f (i + 1) (gsN { a with c:=(curN a.c 7).2 }) else { a with c:=(curN a.c 7).2 }
def GW (a:GS) (n:Nat):Prop:=∃ out reg,Wr out reg n ∧ GR out reg 0 a.g0 a.s0 ∧ GR out reg 1 a.g1 a.s1
theorem gsN_world {a:GS} {n:Nat} (h:GW a n) (hn:n ≤ 39):GW (gsN a) (n + 1):=by
  obtain ⟨out,reg,hW,h0,h1⟩:=h
  have same:GW a (n + 1):=⟨out,reg,hW.more,h0,h1⟩
  unfold gsN
  split
  · split
    · split
      · rename_i hd
        obtain ⟨cs,p,reg',f,_,_,w1,w2,w3,w4⟩:=fetch_world hW hn (by decide) (by decide) h0 h1 hd
        refine ⟨out,reg',w1,?_,h1.other (r:=0) (by decide) (fun _ h => h) (fun _ h => .inl h) w2 w3⟩
        show GR out reg' 0 (fetG a.g0 a.g1 0) (fetS a.g0 a.g1 a.s0 0)
        unfold fetS fetG
        rw [f.f]
        exact w4
      · exact same
    · split
      · rename_i hd
        obtain ⟨cs,p,reg',f,_,_,w1,w2,w3,w4⟩:=fetch_world hW hn (by decide) (by decide) h1 h0 hd
        refine ⟨out,reg',w1,h0.other (r:=1) (by decide) (fun _ h => h) (fun _ h => .inl h) w2 w3,?_⟩
        show GR out reg' 1 (fetG a.g1 a.g0 1) (fetS a.g1 a.g0 a.s1 1)
        unfold fetS fetG
        rw [f.f]
        exact w4
      · exact same
  · split
    · obtain ⟨out',reg',w1,w2,w3,w4,w5,w6⟩:=commit_world hW hn h0 (gsK a).2 (headL a.g0)
      exact ⟨out',reg',w1,w6,h1.other (r:=0) (by decide) w2 w3 w4 w5⟩
    · obtain ⟨out',reg',w1,w2,w3,w4,w5,w6⟩:=commit_world hW hn h1 (gsK a).2 (headL a.g1)
      exact ⟨out',reg',w1,h0.other (r:=1) (by decide) w2 w3 w4 w5,w6⟩
theorem GW.cur {a:GS} {n:Nat} (h:GW a n) (c:GCur):GW { a with c:=c } n:=h
theorem gsRun_world:∀ (f:Nat) (i:Int) {a:GS} {n:Nat},GW a n → n + f ≤ 40 → ∃ m,m ≤ n + f ∧ GW (gsRun f i a) m
  | 0,_,a,n,h,_ => ⟨n,by omega,h⟩
  | f + 1,i,a,n,h,hn => by
    rw [gsRun]
    split
    · obtain ⟨m,h1,h2⟩:=gsRun_world f (i + 1) (gsN_world (h.cur (curN a.c 7).2) (by omega)) (by omega)
      exact ⟨m,by omega,h2⟩
    · exact ⟨n,by omega,h⟩
def graphNew:GGraph:=⟨[],-1⟩
def gs0 (c:GCur):GS:=⟨graphNew,graphNew,stateNew,stateNew,c⟩
theorem gs0_world (c:GCur):GW (gs0 c) 0:=by
  have hg:∀ r:Int,GR [] [] r graphNew stateNew:=fun r => ⟨⟨by simp [graphNew],by decide,by decide,fun k hk => by simp [graphNew] at hk⟩,by simp [graphNew],in_new _,fun h => by simp [graphNew] at h,by simp,by simp⟩
  exact ⟨[],[],⟨⟨by simp,by simp⟩,by simp,by simp,by simp,by simp,by simp⟩,hg 0,hg 1⟩
def graphsD (c:GCur):GS:=gsRun 9 0 (gs0 c)
theorem graphs_pair (c:GCur):∃ out,Pair out (graphsD c).g0 (graphsD c).g1 39:=by
  obtain ⟨m,h1,out,reg,hW,h0,hh⟩:=gsRun_world 9 0 (gs0_world c) (by omega)
  have hP:=gr_pair hW (by omega) h0 hh
  exact ⟨out,hP.w,hP.g1,hP.h1,hP.ag,hP.ah,hP.a,hP.l,by decide,by decide,fun c hc => by have:=hP.qg c hc; omega,fun c hc => by have:=hP.qh c hc; omega⟩
end Am
