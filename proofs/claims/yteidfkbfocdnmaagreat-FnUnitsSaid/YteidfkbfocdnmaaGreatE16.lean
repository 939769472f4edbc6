/- What is right as a state,of both. No condition. -/
import Derived.Test.YteidfkbfocdnmaaGreatT
import Derived.Test.YteidfkbfocdnmaaGreatD
import Derived.Test.YteidfkbfocdnmaaGreatE6
import Derived.Test.YteidfkbfocdnmaaGreatAm29
import Derived.Test.YteidfkbfocdnmaaGreatAm31
import Derived.Test.YteidfkbfocdnmaaGreatE2
set_option linter.unusedSimpArgs false
set_option linter.unusedVariables false
set_option linter.unnecessarySimpa false
set_option linter.unusedSectionVars false
namespace Am
open Go Go.Proofs
open Cel (cells)
set_option maxRecDepth 100000
theorem idx_at {p:GCell → Bool}:∀ {xs:List GCell} {j:Nat},idx p xs = j → p (nth xs j) = true
  | [],j,h => by simp [idx] at h
  | x :: r,j,h => by
    simp only [idx] at h
    split at h
    · rename_i hp
      obtain rfl:j = 0:=by omega
      rw [nth_cons_zero]; exact hp
    · split at h
      · omega
      · obtain ⟨k,rfl⟩:∃ k,j = k + 1:=⟨j - 1,by omega⟩
        rw [nth_cons_succ]
        exact idx_at (by omega)
def dotIs (d:GDot) (c:GCell):Bool:=decide (c.dot = d)
def cellAt (cs:List GCell) (d:GDot):Int:=idx (dotIs d) cs
theorem cellAt_cases (cs:List GCell) (d:GDot):cellAt cs d = -1 ∨ ∃ j:Nat,j < cs.length ∧ cellAt cs d = j:=by
  have:=idx_range (dotIs d) cs
  unfold cellAt
  by_cases h:idx (dotIs d) cs = -1
  · exact .inl h
  · exact .inr ⟨(idx (dotIs d) cs).toNat,by omega,by omega⟩
def refGood (cs:List GCell) (c:GCell):Bool:=decide (0 ≤ cellAt cs c.ref) && decide ((nth cs (cellAt cs c.ref).toNat).obj = c.obj) && decide ((nth cs (cellAt cs c.ref).toNat).time < c.time)
def refAt (cs:List GCell) (i:Nat):Bool:=((nth cs i).ref.rep == 0 && (nth cs i).ref.seq == 0) || refGood cs (nth cs i)
theorem before_trans {a b c:GDot} (h:before a b = true) (h':before b c = true):before a c = true:=by
  simp [before] at *; omega
theorem before_irr (a:GDot):before a a = false:=by simp [before]
theorem sorted_lt {l:List GCell} {n:Nat} (h:∀ i:Nat,i < n → (i = 0 ∨ before (nth l (i - 1)).dot (nth l i).dot = true)):∀ (j i:Nat),i < j → j < n → before (nth l i).dot (nth l j).dot = true
  | 0,i,hi,_ => by omega
  | j + 1,i,hi,hj => by
    have h1:=(h (j + 1) hj).resolve_left (by omega)
    simp only [Nat.add_sub_cancel] at h1
    by_cases e:i = j
    · subst e; exact h1
    · exact before_trans (sorted_lt h j i (by omega) (by omega)) h1
theorem celKs_sorted {l:List GCell} {k:List Int} (h:celKsOk l k = true):∀ i:Nat,i < l.length → (i = 0 ∨ before (nth l (i - 1)).dot (nth l i).dot = true):=by
  simp only [celKsOk,Bool.and_eq_true,decide_eq_true_eq,allB_iff,celKAt,Bool.or_eq_true] at h
  exact fun i hi => (h.2 i hi).2
@[simp] theorem mapT_ok:mapB Tryz.prog TryzT 269 = true:=by kernel_rfl
@[simp] def h45:Hts:={ dr:=fun id => if id = 4 then [{},{},{},{},{},{},{},{}] else [] }
theorem f45_ok (s:GState) (d:GDot) (ha:s.cs.length ≤ 1073741824):FnR Tryz.prog 45 [.agg [.im s.know.length (flat s.know),.im s.tallies.length (flat s.tallies),.im s.lives.length (flat s.lives),.im s.cs.length (flat s.cs)],.agg [.int .i64 d.rep,.int .i64 d.seq]] (.v (.int .i64 (cellAt s.cs d))):=by
  refine FnW.of_AW TryzT_ok 0 (fn:=Tryz.f45) (by kernel_rfl) rfl (by kernel_rfl) rfl rfl rfl ?_; refine AW_of h45 TryzT_ok (by kernel_rfl) ?_
  simp -dsimp
  refine AWh_loop (fun i:Nat => i ≤ s.cs.length ∧ ∀ j:Nat,j < i → dotIs d (nth s.cs j) = false) (fun i => mkE [(2,.box 128 0),(3,.box 192 0),(5,.c (.int .i64 i))] [(128,.box [.c (.im s.know.length (flat s.know)),.c (.im s.tallies.length (flat s.tallies)),.c (.im s.lives.length (flat s.lives)),.c (.im s.cs.length (flat s.cs))]),(192,.box [.c (.int .i64 d.rep),.c (.int .i64 d.seq)])]) (fun i => s.cs.length - i) 0 (Wk_to [2,3,5] [(128,128),(192,192)] rfl rfl (by simp)) (by simp) ?_
  rintro i ⟨hi,hall⟩
  refine AW_of h45 TryzT_ok (by kernel_rfl) ?_
  have wi:IntKind.i64.wrap ((i:Int) + 1) = i + 1:=wrap64 (by omega) (by omega)
  rcases Nat.lt_or_ge i s.cs.length with h1 | h1
  · simp -dsimp [h1,ne_of_lt h1]
    refine ⟨by omega,fun e1 e2 => ?_,fun e => ?_⟩
    · rw [cellAt,idx_here h1 hall (by simp [dotIs,GDot.ext_iff,e1,e2])]
    · refine Back_of (i + 1) [2,3,5] [(128,128),(192,192)] rfl rfl (by simp [wi]) ⟨by omega,fun j hj => ?_⟩ (by omega)
      by_cases e3:j = i
      · subst e3; simpa [dotIs,GDot.ext_iff] using e
      · exact hall j (by omega)
  · simp -dsimp [Nat.not_lt.2 h1]
    rw [cellAt,idx_none (fun j hj => hall j (by omega))]
def sLiv (s:GState) (i:Nat):Bool:=knows s.know (nth s.lives i).dot
def sCel (s:GState) (i:Nat):Bool:=knows s.know (nth s.cs i).dot && refAt s.cs i
def stateOkS (s:GState):Bool:=knowOk s.know && talliesOk s.tallies && livsOk s.lives && celsOk s.cs && allB (sLiv s) s.lives.length && allB (sCel s) s.cs.length
def stateOk (s:GState):Bool:=knowOk s.know && talliesOk s.tallies && livKsOk s.lives s.know && celKsOk s.cs s.know && allB (refAt s.cs) s.cs.length
theorem stateOkS_eq (s:GState):stateOkS s = stateOk s:=by
  rw [Bool.eq_iff_iff]
  have href:allB (celAt s.cs) s.cs.length = true → allB (refAt s.cs) s.cs.length = true → True:=fun _ _ => trivial
  have hdot:(∀ i:Nat,i < s.cs.length → knows s.know (nth s.cs i).dot = true) → (∀ i:Nat,i < s.cs.length → refAt s.cs i = true) → ∀ i:Nat,i < s.cs.length → ((nth s.cs i).ref.rep = 0 ∧ (nth s.cs i).ref.seq = 0) ∨ dotOk (nth s.cs i).ref = true:=by
    intro hk hr i hi
    have h1:=hr i hi
    simp only [refAt,Bool.or_eq_true,Bool.and_eq_true,beq_iff_eq] at h1
    rcases h1 with h1 | h1
    · exact .inl h1
    · refine .inr ?_
      simp only [refGood,Bool.and_eq_true,decide_eq_true_eq] at h1
      rcases cellAt_cases s.cs (nth s.cs i).ref with h2 | ⟨j,h2,h3⟩
      · omega
      · have h4:=hk j h2
        have hf:dotIs (nth s.cs i).ref (nth s.cs j) = true:=by
          cases hd:dotIs (nth s.cs i).ref (nth s.cs j)
          · have:=idx_at (p:=dotIs (nth s.cs i).ref) h3
            rw [hd] at this; cases this
          · rfl
        simp only [dotIs,decide_eq_true_eq] at hf
        rw [← hf]
        simp only [knows,Bool.and_eq_true] at h4
        exact h4.1.2
  simp only [stateOkS,stateOk,livsOk,livKsOk,celsOk,celKsOk,sLiv,sCel,livAt,livKAt,celAt,celKAt,Bool.and_eq_true,allB_iff,decide_eq_true_eq,Bool.or_eq_true,Bool.not_eq_true',knows,beq_iff_eq] at hdot ⊢
  grind
@[simp] def h70:Hts:={ merge:=fun _ => false,mergeF:=fun _ => false,dr:=fun id => if id = 6 then [{},{},{},{},{},{},{},{},{ cr:=true },{}] else if id = 16 then [{},{},{},{},{},{},{},{},{},{},{},{},{},{},{},{},{},{},{},{},{},{},{},{}] else [] }
set_option maxHeartbeats 4000000 in
theorem f70_ok (s:GState) (hd:s.Ok):FnR Tryz.prog 70 [.agg [.im s.know.length (flat s.know),.im s.tallies.length (flat s.tallies),.im s.lives.length (flat s.lives),.im s.cs.length (flat s.cs)]] (.v (.bool (stateOkS s))):=by
  simp only [GState.Ok] at hd
  obtain ⟨o0,o2,o3,o4,o5,o7,o8⟩:=hd
  refine FnW.of_AW TryzT_ok 0 (fn:=Tryz.f70) (by kernel_rfl) rfl (by kernel_rfl) rfl rfl rfl ?_; refine AW_of h70 TryzT_ok (by kernel_rfl) ?_
  simp -dsimp
  refine ACallK_of (f128_ok _ o0) ?_
  cases g1:knowOk s.know
  · simp -dsimp [g1]
    simp [stateOkS,g1]
  simp -dsimp [g1]
  refine ACallK_of (f203_ok _ o2 o3) ?_
  cases g2:talliesOk s.tallies
  · simp -dsimp [g2]
    simp [stateOkS,g2]
  simp -dsimp [g2]
  refine ACallK_of (f204_ok _ o4 o5) ?_
  cases g3:livsOk s.lives
  · simp -dsimp [g3]
    simp [stateOkS,g3]
  simp -dsimp [g3]
  refine ACallK_of (f205_ok _ o7 o8) ?_
  cases g4:celsOk s.cs
  · simp -dsimp [g4]
    simp [stateOkS,g4]
  simp -dsimp [g4]
  refine AWh_loop (fun i:Nat => i ≤ s.lives.length ∧ allB (sLiv s) i = true) (fun i => mkE [(1,.box 64 0),(3,.c (.int .i64 i))] [(64,.box [.c (.im s.know.length (flat s.know)),.c (.im s.tallies.length (flat s.tallies)),.c (.im s.lives.length (flat s.lives)),.c (.im s.cs.length (flat s.cs))])]) (fun i => s.lives.length - i) 0 (Wk_to [1,3] [(64,64)] rfl rfl (by simp)) (by simp [allB]) ?_
  rintro i ⟨hi,a1⟩
  refine AW_of h70 TryzT_ok (by kernel_rfl) ?_
  rcases Nat.lt_or_ge i s.lives.length with h1 | h1
  · simp -dsimp [h1,ne_of_lt h1]
    repeat (first | refine ⟨by omega,?_⟩ | refine ⟨⟨by omega,by omega⟩,?_⟩)
    refine ACallK_of (f17_ok _ _ o0) ?_
    cases k1:knows s.know (nth s.lives i).dot
    · simp -dsimp [h1]
      simp [stateOkS,allB_false h1 (show sLiv s i = false by simp [sLiv,k1])]
    · simp -dsimp [h1]
      exact Back_of (i + 1) [1,3] [(64,64)] rfl rfl (by simp; rw [wrap64 (by omega) (by omega)]) ⟨by omega,allB_succ a1 (by simp [sLiv,k1])⟩ (by omega)
  simp -dsimp [Nat.not_lt.2 h1]
  obtain rfl:i = s.lives.length:=by omega
  clear hi h1
  refine AWh_loop (fun i:Nat => i ≤ s.cs.length ∧ allB (sCel s) i = true) (fun i => mkE [(1,.box 64 0),(4,.c (.int .i64 i))] [(64,.box [.c (.im s.know.length (flat s.know)),.c (.im s.tallies.length (flat s.tallies)),.c (.im s.lives.length (flat s.lives)),.c (.im s.cs.length (flat s.cs))])]) (fun i => s.cs.length - i) 0 (Wk_to [1,4] [(64,64)] rfl rfl (by simp)) (by simp [allB]) ?_
  rintro i ⟨hi,a2⟩
  refine AW_of h70 TryzT_ok (by kernel_rfl) ?_
  rcases Nat.lt_or_ge i s.cs.length with h1 | h1
  · simp -dsimp [h1,ne_of_lt h1]
    repeat (first | refine ⟨by omega,?_⟩ | refine ⟨⟨by omega,by omega⟩,?_⟩)
    refine ACallK_of (f17_ok _ _ o0) ?_
    cases k1:knows s.know (nth s.cs i).dot
    · simp -dsimp [h1]
      simp [stateOkS,allB_false h1 (show sCel s i = false by simp [sCel,k1])]
    rcases bne_cases (nth s.cs i).ref.rep with ⟨r1,r2⟩ | ⟨r1,r2⟩ <;> rcases bne_cases (nth s.cs i).ref.seq with ⟨q1,q2⟩ | ⟨q1,q2⟩
    · simp -dsimp [h1,ne_of_lt h1,r1,r2,q1,q2]
      refine ACallK_of (f45_ok s (nth s.cs i).ref o7) ?_
      rcases cellAt_cases s.cs (nth s.cs i).ref with hg | ⟨j,hj,hg⟩
      · simp -dsimp [h1,ne_of_lt h1,hg]
        simp [stateOkS,allB_false h1 (show sCel s i = false by simp [sCel,refAt,refGood,r2,q2,hg])]
      · have hj0:¬ (j:Int) < 0:=by omega
        by_cases e1:(nth s.cs j).obj = (nth s.cs i).obj
        · rcases Int.lt_or_le (nth s.cs j).time (nth s.cs i).time with e2 | e2
          · have e3:¬ (nth s.cs i).time ≤ (nth s.cs j).time:=by omega
            simp -dsimp [h1,ne_of_lt h1,hg,hj,ne_of_lt hj,hj0,e1,e2,e3]
            repeat (first | refine ⟨by omega,?_⟩ | refine ⟨⟨by omega,by omega⟩,?_⟩)
            exact Back_of (i + 1) [1,4] [(64,64)] rfl rfl (by simp; rw [wrap64 (by omega) (by omega)]) ⟨by omega,allB_succ a2 (by simp [sCel,k1,refAt,refGood,r2,q2,hg,e1,e2])⟩ (by omega)
          · have e3:¬ (nth s.cs j).time < (nth s.cs i).time:=by omega
            simp -dsimp [h1,ne_of_lt h1,hg,hj,ne_of_lt hj,hj0,e1,e2,e3]
            repeat (first | refine ⟨by omega,?_⟩ | refine ⟨⟨by omega,by omega⟩,?_⟩)
            simp [stateOkS,allB_false h1 (show sCel s i = false by simp [sCel,refAt,refGood,r2,q2,hg,e1,e2,e3])]
        · simp -dsimp [h1,ne_of_lt h1,hg,hj,ne_of_lt hj,hj0,e1]
          repeat (first | refine ⟨by omega,?_⟩ | refine ⟨⟨by omega,by omega⟩,?_⟩)
          simp [stateOkS,allB_false h1 (show sCel s i = false by simp [sCel,refAt,refGood,r2,q2,hg,e1])]
    · simp -dsimp [h1,ne_of_lt h1,r1,r2,q1,q2]
      refine ACallK_of (f45_ok s (nth s.cs i).ref o7) ?_
      rcases cellAt_cases s.cs (nth s.cs i).ref with hg | ⟨j,hj,hg⟩
      · simp -dsimp [h1,ne_of_lt h1,hg]
        simp [stateOkS,allB_false h1 (show sCel s i = false by simp [sCel,refAt,refGood,r2,q2,hg])]
      · have hj0:¬ (j:Int) < 0:=by omega
        by_cases e1:(nth s.cs j).obj = (nth s.cs i).obj
        · rcases Int.lt_or_le (nth s.cs j).time (nth s.cs i).time with e2 | e2
          · have e3:¬ (nth s.cs i).time ≤ (nth s.cs j).time:=by omega
            simp -dsimp [h1,ne_of_lt h1,hg,hj,ne_of_lt hj,hj0,e1,e2,e3]
            repeat (first | refine ⟨by omega,?_⟩ | refine ⟨⟨by omega,by omega⟩,?_⟩)
            exact Back_of (i + 1) [1,4] [(64,64)] rfl rfl (by simp; rw [wrap64 (by omega) (by omega)]) ⟨by omega,allB_succ a2 (by simp [sCel,k1,refAt,refGood,r2,q2,hg,e1,e2])⟩ (by omega)
          · have e3:¬ (nth s.cs j).time < (nth s.cs i).time:=by omega
            simp -dsimp [h1,ne_of_lt h1,hg,hj,ne_of_lt hj,hj0,e1,e2,e3]
            repeat (first | refine ⟨by omega,?_⟩ | refine ⟨⟨by omega,by omega⟩,?_⟩)
            simp [stateOkS,allB_false h1 (show sCel s i = false by simp [sCel,refAt,refGood,r2,q2,hg,e1,e2,e3])]
        · simp -dsimp [h1,ne_of_lt h1,hg,hj,ne_of_lt hj,hj0,e1]
          repeat (first | refine ⟨by omega,?_⟩ | refine ⟨⟨by omega,by omega⟩,?_⟩)
          simp [stateOkS,allB_false h1 (show sCel s i = false by simp [sCel,refAt,refGood,r2,q2,hg,e1])]
    · simp -dsimp [h1,ne_of_lt h1,r1,r2,q1,q2]
      refine ACallK_of (f45_ok s (nth s.cs i).ref o7) ?_
      rcases cellAt_cases s.cs (nth s.cs i).ref with hg | ⟨j,hj,hg⟩
      · simp -dsimp [h1,ne_of_lt h1,hg]
        simp [stateOkS,allB_false h1 (show sCel s i = false by simp [sCel,refAt,refGood,r2,q2,hg])]
      · have hj0:¬ (j:Int) < 0:=by omega
        by_cases e1:(nth s.cs j).obj = (nth s.cs i).obj
        · rcases Int.lt_or_le (nth s.cs j).time (nth s.cs i).time with e2 | e2
          · have e3:¬ (nth s.cs i).time ≤ (nth s.cs j).time:=by omega
            simp -dsimp [h1,ne_of_lt h1,hg,hj,ne_of_lt hj,hj0,e1,e2,e3]
            repeat (first | refine ⟨by omega,?_⟩ | refine ⟨⟨by omega,by omega⟩,?_⟩)
            exact Back_of (i + 1) [1,4] [(64,64)] rfl rfl (by simp; rw [wrap64 (by omega) (by omega)]) ⟨by omega,allB_succ a2 (by simp [sCel,k1,refAt,refGood,r2,q2,hg,e1,e2])⟩ (by omega)
          · have e3:¬ (nth s.cs j).time < (nth s.cs i).time:=by omega
            simp -dsimp [h1,ne_of_lt h1,hg,hj,ne_of_lt hj,hj0,e1,e2,e3]
            repeat (first | refine ⟨by omega,?_⟩ | refine ⟨⟨by omega,by omega⟩,?_⟩)
            simp [stateOkS,allB_false h1 (show sCel s i = false by simp [sCel,refAt,refGood,r2,q2,hg,e1,e2,e3])]
        · simp -dsimp [h1,ne_of_lt h1,hg,hj,ne_of_lt hj,hj0,e1]
          repeat (first | refine ⟨by omega,?_⟩ | refine ⟨⟨by omega,by omega⟩,?_⟩)
          simp [stateOkS,allB_false h1 (show sCel s i = false by simp [sCel,refAt,refGood,r2,q2,hg,e1])]
    · simp -dsimp [h1,ne_of_lt h1,r1,r2,q1,q2]
      repeat (first | refine ⟨by omega,?_⟩ | refine ⟨⟨by omega,by omega⟩,?_⟩)
      exact Back_of (i + 1) [1,4] [(64,64)] rfl rfl (by simp; rw [wrap64 (by omega) (by omega)]) ⟨by omega,allB_succ a2 (by simp [sCel,k1,refAt,r2,q2])⟩ (by omega)
  · simp -dsimp [Nat.not_lt.2 h1]
    obtain rfl:i = s.cs.length:=by omega
    simp [stateOkS,g1,g2,g3,g4,a1,a2]
end Am
namespace Am
open Go Go.Proofs
open Cel (cells)
set_option maxRecDepth 100000
@[simp] def h138:Hts:={ dr:=fun id => if id = 6 then [{},{},{},{},{},{},{},{},{}] else [] }
theorem f138_ok (a b:List Int) (ha:a.length ≤ 1073741824):FnR Tryz.prog 138 [.v (.im a.length (flat a)),.v (.im b.length (flat b))] (.v (.bool (decide (a = b)))):=by
  refine FnW.of_AW TryzT_ok 0 (fn:=Tryz.f138) (by kernel_rfl) rfl (by kernel_rfl) rfl rfl rfl ?_; refine AW_of h138 TryzT_ok (by kernel_rfl) ?_
  simp -dsimp
  refine ⟨fun h e => h (by rw [e]),fun hl => ?_⟩
  replace hl:a.length = b.length:=by omega
  refine AWh_loop (fun i:Nat => i ≤ a.length ∧ ∀ j:Nat,j < i → nth a j = nth b j) (fun i => mkE [(0,.c (.im a.length (flat a))),(1,.c (.im b.length (flat b))),(12,.c (.int .i64 a.length)),(13,.c (.int .i64 i))] []) (fun i => a.length - i) 0 (Wk_to [0,1,12,13] [] rfl rfl (by simp)) (by simp) ?_
  rintro i ⟨hi,hall⟩
  refine AW_of h138 TryzT_ok (by kernel_rfl) ?_
  rcases Nat.lt_or_ge i a.length with h1 | h1
  · have h2:i < b.length:=by omega
    simp -dsimp [h1,h2,ne_of_lt h1,ne_of_lt h2]
    refine ⟨fun h => ?_,?_⟩
    · rintro rfl
      simp at h
    intros
    refine Back_of (i + 1) [0,1,12,13] [] rfl rfl (by simp; rw [wrap64 (by omega) (by omega)]) ⟨by omega,fun j hj => ?_⟩ (by omega)
    by_cases e:j = i
    · subst e
      first | assumption | (apply Int.ext <;> first | assumption | (apply GDot.ext <;> assumption))
    · exact hall j (by omega)
  · simp -dsimp [Nat.not_lt.2 h1]
    exact list_eq_of_nth hl (fun j hj => hall j (by omega))
@[simp] def h278:Hts:={ dr:=fun id => if id = 6 then [{},{},{},{},{},{},{},{},{}] else [] }
theorem f278_ok (a b:List GTally) (ha:a.length ≤ 1073741824):FnR Tryz.prog 278 [.v (.im a.length (flat a)),.v (.im b.length (flat b))] (.v (.bool (decide (a = b)))):=by
  refine FnW.of_AW TryzT_ok 0 (fn:=Tryz.f278) (by kernel_rfl) rfl (by kernel_rfl) rfl rfl rfl ?_; refine AW_of h278 TryzT_ok (by kernel_rfl) ?_
  simp -dsimp
  refine ⟨fun h e => h (by rw [e]),fun hl => ?_⟩
  replace hl:a.length = b.length:=by omega
  refine AWh_loop (fun i:Nat => i ≤ a.length ∧ ∀ j:Nat,j < i → nth a j = nth b j) (fun i => mkE [(0,.c (.im a.length (flat a))),(1,.c (.im b.length (flat b))),(12,.c (.int .i64 a.length)),(13,.c (.int .i64 i))] []) (fun i => a.length - i) 0 (Wk_to [0,1,12,13] [] rfl rfl (by simp)) (by simp) ?_
  rintro i ⟨hi,hall⟩
  refine AW_of h278 TryzT_ok (by kernel_rfl) ?_
  rcases Nat.lt_or_ge i a.length with h1 | h1
  · have h2:i < b.length:=by omega
    simp -dsimp [h1,h2,ne_of_lt h1,ne_of_lt h2]
    refine ⟨by omega,by omega,?_⟩
    refine ⟨fun h => ?_,?_⟩
    · rintro rfl
      simp at h
    intros
    refine Back_of (i + 1) [0,1,12,13] [] rfl rfl (by simp; rw [wrap64 (by omega) (by omega)]) ⟨by omega,fun j hj => ?_⟩ (by omega)
    by_cases e:j = i
    · subst e
      first | assumption | (apply GTally.ext <;> first | assumption | (apply GDot.ext <;> assumption))
    · exact hall j (by omega)
  · simp -dsimp [Nat.not_lt.2 h1]
    exact list_eq_of_nth hl (fun j hj => hall j (by omega))
@[simp] def h279:Hts:={ dr:=fun id => if id = 6 then [{},{},{},{},{},{},{},{},{}] else [] }
theorem f279_ok (a b:List GLive) (ha:a.length ≤ 1073741824):FnR Tryz.prog 279 [.v (.im a.length (flat a)),.v (.im b.length (flat b))] (.v (.bool (decide (a = b)))):=by
  refine FnW.of_AW TryzT_ok 0 (fn:=Tryz.f279) (by kernel_rfl) rfl (by kernel_rfl) rfl rfl rfl ?_; refine AW_of h279 TryzT_ok (by kernel_rfl) ?_
  simp -dsimp
  refine ⟨fun h e => h (by rw [e]),fun hl => ?_⟩
  replace hl:a.length = b.length:=by omega
  refine AWh_loop (fun i:Nat => i ≤ a.length ∧ ∀ j:Nat,j < i → nth a j = nth b j) (fun i => mkE [(0,.c (.im a.length (flat a))),(1,.c (.im b.length (flat b))),(12,.c (.int .i64 a.length)),(13,.c (.int .i64 i))] []) (fun i => a.length - i) 0 (Wk_to [0,1,12,13] [] rfl rfl (by simp)) (by simp) ?_
  rintro i ⟨hi,hall⟩
  refine AW_of h279 TryzT_ok (by kernel_rfl) ?_
  rcases Nat.lt_or_ge i a.length with h1 | h1
  · have h2:i < b.length:=by omega
    simp -dsimp [h1,h2,ne_of_lt h1,ne_of_lt h2]
    refine ⟨by omega,by omega,?_⟩
    refine ⟨fun h => ?_,?_⟩
    · rintro rfl
      simp at h
    intros
    refine Back_of (i + 1) [0,1,12,13] [] rfl rfl (by simp; rw [wrap64 (by omega) (by omega)]) ⟨by omega,fun j hj => ?_⟩ (by omega)
    by_cases e:j = i
    · subst e
      first | assumption | (apply GLive.ext <;> first | assumption | (apply GDot.ext <;> assumption))
    · exact hall j (by omega)
  · simp -dsimp [Nat.not_lt.2 h1]
    exact list_eq_of_nth hl (fun j hj => hall j (by omega))
@[simp] def h342:Hts:={ dr:=fun id => if id = 6 then [{},{},{},{},{},{},{},{},{}] else [] }
theorem f342_ok (a b:List GDot) (ha:a.length ≤ 1073741824):FnR Tryz.prog 342 [.v (.im a.length (flat a)),.v (.im b.length (flat b))] (.v (.bool (decide (a = b)))):=by
  refine FnW.of_AW TryzT_ok 0 (fn:=Tryz.f342) (by kernel_rfl) rfl (by kernel_rfl) rfl rfl rfl ?_; refine AW_of h342 TryzT_ok (by kernel_rfl) ?_
  simp -dsimp
  refine ⟨fun h e => h (by rw [e]),fun hl => ?_⟩
  replace hl:a.length = b.length:=by omega
  refine AWh_loop (fun i:Nat => i ≤ a.length ∧ ∀ j:Nat,j < i → nth a j = nth b j) (fun i => mkE [(0,.c (.im a.length (flat a))),(1,.c (.im b.length (flat b))),(12,.c (.int .i64 a.length)),(13,.c (.int .i64 i))] []) (fun i => a.length - i) 0 (Wk_to [0,1,12,13] [] rfl rfl (by simp)) (by simp) ?_
  rintro i ⟨hi,hall⟩
  refine AW_of h342 TryzT_ok (by kernel_rfl) ?_
  rcases Nat.lt_or_ge i a.length with h1 | h1
  · have h2:i < b.length:=by omega
    simp -dsimp [h1,h2,ne_of_lt h1,ne_of_lt h2]
    refine ⟨by omega,by omega,?_⟩
    refine ⟨fun h => ?_,?_⟩
    · rintro rfl
      simp at h
    intros
    refine Back_of (i + 1) [0,1,12,13] [] rfl rfl (by simp; rw [wrap64 (by omega) (by omega)]) ⟨by omega,fun j hj => ?_⟩ (by omega)
    by_cases e:j = i
    · subst e
      first | assumption | (apply GDot.ext <;> first | assumption | (apply GDot.ext <;> assumption))
    · exact hall j (by omega)
  · simp -dsimp [Nat.not_lt.2 h1]
    exact list_eq_of_nth hl (fun j hj => hall j (by omega))
@[simp] def h280:Hts:={ dr:=fun id => if id = 6 then [{},{},{},{},{},{},{},{},{}] else [] }
theorem f280_ok (a b:List GCell) (ha:a.length ≤ 1073741824):FnR Tryz.prog 280 [.v (.im a.length (flat a)),.v (.im b.length (flat b))] (.v (.bool (decide (a = b)))):=by
  refine FnW.of_AW TryzT_ok 0 (fn:=Tryz.f280) (by kernel_rfl) rfl (by kernel_rfl) rfl rfl rfl ?_; refine AW_of h280 TryzT_ok (by kernel_rfl) ?_
  simp -dsimp
  refine ⟨fun h e => h (by rw [e]),fun hl => ?_⟩
  replace hl:a.length = b.length:=by omega
  refine AWh_loop (fun i:Nat => i ≤ a.length ∧ ∀ j:Nat,j < i → nth a j = nth b j) (fun i => mkE [(0,.c (.im a.length (flat a))),(1,.c (.im b.length (flat b))),(12,.c (.int .i64 a.length)),(13,.c (.int .i64 i))] []) (fun i => a.length - i) 0 (Wk_to [0,1,12,13] [] rfl rfl (by simp)) (by simp) ?_
  rintro i ⟨hi,hall⟩
  refine AW_of h280 TryzT_ok (by kernel_rfl) ?_
  rcases Nat.lt_or_ge i a.length with h1 | h1
  · have h2:i < b.length:=by omega
    simp -dsimp [h1,h2,ne_of_lt h1,ne_of_lt h2]
    refine ⟨by omega,by omega,?_⟩
    refine ⟨fun h => ?_,?_⟩
    · rintro rfl
      simp at h
    intros
    refine Back_of (i + 1) [0,1,12,13] [] rfl rfl (by simp; rw [wrap64 (by omega) (by omega)]) ⟨by omega,fun j hj => ?_⟩ (by omega)
    by_cases e:j = i
    · subst e
      first | assumption | (apply GCell.ext <;> first | assumption | (apply GDot.ext <;> assumption))
    · exact hall j (by omega)
  · simp -dsimp [Nat.not_lt.2 h1]
    exact list_eq_of_nth hl (fun j hj => hall j (by omega))
@[simp] def h146:Hts:={ dr:=fun id => if id = 6 then [{},{},{},{},{},{},{},{},{}] else [] }
theorem f146_ok (a b:List Int) (ha:a.length ≤ 1073741824):FnR Tryz.prog 146 [.v (.im a.length (flat a)),.v (.im b.length (flat b))] (.v (.bool (decide (a = b)))):=by
  refine FnW.of_AW TryzT_ok 0 (fn:=Tryz.f146) (by kernel_rfl) rfl (by kernel_rfl) rfl rfl rfl ?_; refine AW_of h146 TryzT_ok (by kernel_rfl) ?_
  simp -dsimp
  refine ⟨fun h e => h (by rw [e]),fun hl => ?_⟩
  replace hl:a.length = b.length:=by omega
  refine AWh_loop (fun i:Nat => i ≤ a.length ∧ ∀ j:Nat,j < i → nth a j = nth b j) (fun i => mkE [(0,.c (.im a.length (flat a))),(1,.c (.im b.length (flat b))),(5,.c (.int .i64 i))] []) (fun i => a.length - i) 0 (Wk_to [0,1,5] [] rfl rfl (by simp)) (by simp) ?_
  rintro i ⟨hi,hall⟩
  refine AW_of h146 TryzT_ok (by kernel_rfl) ?_
  rcases Nat.lt_or_ge i a.length with h1 | h1
  · have h2:i < b.length:=by omega
    simp -dsimp [h1,h2,ne_of_lt h1,ne_of_lt h2]
    refine ⟨fun h => ?_,?_⟩
    · rintro rfl
      simp at h
    intros
    refine Back_of (i + 1) [0,1,5] [] rfl rfl (by simp; rw [wrap64 (by omega) (by omega)]) ⟨by omega,fun j hj => ?_⟩ (by omega)
    by_cases e:j = i
    · subst e
      first | assumption | (apply Int.ext <;> first | assumption | (apply GDot.ext <;> assumption))
    · exact hall j (by omega)
  · simp -dsimp [Nat.not_lt.2 h1]
    exact list_eq_of_nth hl (fun j hj => hall j (by omega))
@[simp] def h34:Hts:={ mergeF:=fun _ => true }
set_option maxHeartbeats 1000000 in
theorem f34_ok (a b:GAct) (h:a.Ok):FnR Tryz.prog 34 [.agg [.int .i64 a.dot.rep,.int .i64 a.dot.seq,.int .i64 a.time,.im a.knew.length (flat a.knew),.int .i64 a.kind,.str a.obj,.str a.key,.int .i64 a.val,.int .i64 a.ref.rep,.int .i64 a.ref.seq],.agg [.int .i64 b.dot.rep,.int .i64 b.dot.seq,.int .i64 b.time,.im b.knew.length (flat b.knew),.int .i64 b.kind,.str b.obj,.str b.key,.int .i64 b.val,.int .i64 b.ref.rep,.int .i64 b.ref.seq]] (.v (.bool (decide (a = b)))):=by
  simp only [GAct.Ok] at h
  obtain ⟨o0,o1,o2⟩:=h
  refine FnW.of_AW TryzT_ok 0 (fn:=Tryz.f34) (by kernel_rfl) rfl (by kernel_rfl) rfl rfl rfl ?_; refine AW_of h34 TryzT_ok (by kernel_rfl) ?_
  simp -dsimp
  refine ACallK_of (f146_ok _ _ o0) ?_
  simp -dsimp
  rw [Bool.eq_iff_iff]
  simp [GAct.ext_iff,GDot.ext_iff]
  grind
@[simp] def h241:Hts:={ mergeF:=fun _ => true }
set_option maxHeartbeats 1000000 in
theorem f241_ok (a b:GAct) (h:a.Ok):FnR Tryz.prog 241 [.agg [.int .i64 a.dot.rep,.int .i64 a.dot.seq,.int .i64 a.time,.im a.knew.length (flat a.knew),.int .i64 a.kind,.str a.obj,.str a.key,.int .i64 a.val,.int .i64 a.ref.rep,.int .i64 a.ref.seq],.agg [.int .i64 b.dot.rep,.int .i64 b.dot.seq,.int .i64 b.time,.im b.knew.length (flat b.knew),.int .i64 b.kind,.str b.obj,.str b.key,.int .i64 b.val,.int .i64 b.ref.rep,.int .i64 b.ref.seq]] (.v (.bool (decide (a = b)))):=by
  simp only [GAct.Ok] at h
  obtain ⟨o0,o1,o2⟩:=h
  refine FnW.of_AW TryzT_ok 0 (fn:=Tryz.f241) (by kernel_rfl) rfl (by kernel_rfl) rfl rfl rfl ?_; refine AW_of h241 TryzT_ok (by kernel_rfl) ?_
  simp -dsimp
  refine ACallK_of (f138_ok _ _ o0) ?_
  simp -dsimp
  rw [Bool.eq_iff_iff]
  simp [GAct.ext_iff,GDot.ext_iff]
  grind
@[simp] def h242:Hts:={ mergeF:=fun _ => true }
set_option maxHeartbeats 1000000 in
theorem f242_ok (a b:GDelta) (h:a.Ok):FnR Tryz.prog 242 [.agg [.im a.base.length (flat a.base),.im a.know.length (flat a.know),.im a.tallies.length (flat a.tallies),.im a.lives.length (flat a.lives),.im a.dead.length (flat a.dead),.im a.cs.length (flat a.cs)],.agg [.im b.base.length (flat b.base),.im b.know.length (flat b.know),.im b.tallies.length (flat b.tallies),.im b.lives.length (flat b.lives),.im b.dead.length (flat b.dead),.im b.cs.length (flat b.cs)]] (.v (.bool (decide (a = b)))):=by
  simp only [GDelta.Ok] at h
  obtain ⟨o0,o1,o2,o3,o4,o5,o6,o7,o8⟩:=h
  refine FnW.of_AW TryzT_ok 0 (fn:=Tryz.f242) (by kernel_rfl) rfl (by kernel_rfl) rfl rfl rfl ?_; refine AW_of h242 TryzT_ok (by kernel_rfl) ?_
  simp -dsimp
  refine ACallK_of (f138_ok _ _ o0) ?_
  simp -dsimp
  refine ACallK_of (f138_ok _ _ o1) ?_
  simp -dsimp
  refine ACallK_of (f278_ok _ _ o2) ?_
  simp -dsimp
  refine ACallK_of (f279_ok _ _ o4) ?_
  simp -dsimp
  refine ACallK_of (f342_ok _ _ o6) ?_
  simp -dsimp
  refine ACallK_of (f280_ok _ _ o7) ?_
  simp -dsimp
  rw [Bool.eq_iff_iff]
  simp [GDelta.ext_iff]
  try grind
end Am
namespace Am
open Go Go.Proofs
open Cel (cells)
set_option maxRecDepth 100000
theorem bne2 (x y:Int):((x != y) = true ∧ (x == y) = false) ∨ ((x != y) = false ∧ (x == y) = true):=by
  by_cases h:x = y <;> simp [h]
def refZ (d:GDot):Bool:=d.rep == 0 && d.seq == 0
def actRef (a:GAct):Bool:=if (a.kind == 7) = true then knows a.knew a.ref else if (a.kind == 6) = true then refZ a.ref || knows a.knew a.ref else refZ a.ref
def actOk (a:GAct):Bool:=dotOk a.dot && knowOk a.knew && (nth a.knew a.dot.rep.toNat == a.dot.seq - 1) && spIn a.time 1 10000 && plain a.kind a.val a.obj a.key && actRef a
@[simp] def h163:Hts:={ merge:=fun _ => false,mergeF:=fun _ => false,dr:=fun id => if id = 1 then [{},{},{ cr:=true },{},{},{},{},{ cr:=true },{},{},{},{},{},{},{},{},{},{},{},{},{},{},{},{},{},{},{},{ cr:=true },{},{},{},{},{},{},{},{},{},{},{},{ cr:=true },{},{}] else [] }
set_option maxHeartbeats 2000000 in
theorem f163_ok (a:GAct) (h:a.Ok):FnR Tryz.prog 163 [.agg [.int .i64 a.dot.rep,.int .i64 a.dot.seq,.int .i64 a.time,.im a.knew.length (flat a.knew),.int .i64 a.kind,.str a.obj,.str a.key,.int .i64 a.val,.int .i64 a.ref.rep,.int .i64 a.ref.seq]] (.v (.bool (actOk a))):=by
  simp only [GAct.Ok] at h
  obtain ⟨o0,o1,o2⟩:=h
  refine FnW.of_AW TryzT_ok 0 (fn:=Tryz.f163) (by kernel_rfl) rfl (by kernel_rfl) rfl rfl rfl ?_; refine AW_of h163 TryzT_ok (by kernel_rfl) ?_
  simp -dsimp
  refine ACallK_of (f129_ok _) ?_
  cases g1:dotOk a.dot
  · simp -dsimp
    simp [actOk,g1]
  simp -dsimp
  refine ACallK_of (f128_ok _ o0) ?_
  cases g2:knowOk a.knew
  · simp -dsimp
    simp [actOk,g2]
  obtain ⟨r1,r2,r3⟩:=dot_range g2 g1
  have hs:1 ≤ a.dot.seq ∧ a.dot.seq ≤ 1000:=by simp [dotOk,spIn] at g1; omega
  have w:IntKind.i64.wrap (a.dot.seq - 1) = a.dot.seq - 1:=wrap64 (by omega) (by omega)
  rcases bne2 (nth a.knew a.dot.rep.toNat) (a.dot.seq - 1) with ⟨e1,e2⟩ | ⟨e1,e2⟩
  · simp -dsimp [r1,ne_of_lt r1,w,e1]
    repeat (first | refine ⟨by omega,?_⟩ | refine ⟨⟨by omega,by omega⟩,?_⟩)
    simp [actOk,e2]
  simp -dsimp [r1,ne_of_lt r1,w,e1]
  repeat (first | refine ⟨by omega,?_⟩ | refine ⟨⟨by omega,by omega⟩,?_⟩)
  refine ACallK_of (f162_ok _ _ _) ?_
  cases g4:spIn a.time 1 10000
  · simp -dsimp
    simp [actOk,g4]
  simp -dsimp
  refine ACallK_of (f165_ok _ _ _ _ (by omega) (by omega)) ?_
  cases g5:plain a.kind a.val a.obj a.key
  · simp -dsimp
    simp [actOk,g5]
  rcases bne2 a.kind 7 with ⟨c1,c2⟩ | ⟨c1,c2⟩
  · rcases bne2 a.kind 6 with ⟨d1,d2⟩ | ⟨d1,d2⟩
    · simp -dsimp [c1,c2,d1,d2]
      simp [actOk,actRef,g1,g2,e2,g4,g5,c2,d2,refZ]
    · rcases bne2 a.ref.rep 0 with ⟨p1,p2⟩ | ⟨p1,p2⟩ <;> rcases bne2 a.ref.seq 0 with ⟨q1,q2⟩ | ⟨q1,q2⟩
      all_goals (
        simp -dsimp [c1,c2,d1,d2,p1,p2,q1,q2]
        first
        | (simp [actOk,actRef,g1,g2,e2,g4,g5,c2,d2,refZ,p2,q2]; done)
        | (refine ACallK_of (f17_ok _ _ o0) ?_
           simp -dsimp
           simp [actOk,actRef,g1,g2,e2,g4,g5,c2,d2,refZ,p2,q2]))
  · simp -dsimp [c1,c2]
    refine ACallK_of (f17_ok _ _ o0) ?_
    simp -dsimp
    simp [actOk,actRef,g1,g2,e2,g4,g5,c2]
@[simp] def h158:Hts:={ merge:=fun _ => false,mergeF:=fun _ => false,dr:=fun id => if id = 1 then [{},{},{ cr:=true },{},{},{},{},{ cr:=true },{},{},{},{},{},{},{},{},{},{},{},{},{},{},{},{},{},{},{},{ cr:=true },{},{}] else [] }
set_option maxHeartbeats 2000000 in
theorem f158_ok (a:GAct) (h:a.Ok):FnR Tryz.prog 158 [.agg [.int .i64 a.dot.rep,.int .i64 a.dot.seq,.int .i64 a.time,.im a.knew.length (flat a.knew),.int .i64 a.kind,.str a.obj,.str a.key,.int .i64 a.val,.int .i64 a.ref.rep,.int .i64 a.ref.seq]] (.v (.bool (actOk a))):=by
  simp only [GAct.Ok] at h
  obtain ⟨o0,o1,o2⟩:=h
  refine FnW.of_AW TryzT_ok 0 (fn:=Tryz.f158) (by kernel_rfl) rfl (by kernel_rfl) rfl rfl rfl ?_; refine AW_of h158 TryzT_ok (by kernel_rfl) ?_
  simp -dsimp
  refine ACallK_of (f263_ok _) ?_
  cases g1:dotOk a.dot
  · simp -dsimp
    simp [actOk,g1]
  simp -dsimp
  refine ACallK_of (f223_ok _ o0) ?_
  cases g2:knowOk a.knew
  · simp -dsimp
    simp [actOk,g2]
  obtain ⟨r1,r2,r3⟩:=dot_range g2 g1
  have hs:1 ≤ a.dot.seq ∧ a.dot.seq ≤ 1000:=by simp [dotOk,spIn] at g1; omega
  have w:IntKind.i64.wrap (a.dot.seq - 1) = a.dot.seq - 1:=wrap64 (by omega) (by omega)
  rcases bne2 (nth a.knew a.dot.rep.toNat) (a.dot.seq - 1) with ⟨e1,e2⟩ | ⟨e1,e2⟩
  · simp -dsimp [r1,ne_of_lt r1,w,e1]
    repeat (first | refine ⟨by omega,?_⟩ | refine ⟨⟨by omega,by omega⟩,?_⟩)
    simp [actOk,e2]
  simp -dsimp [r1,ne_of_lt r1,w,e1]
  repeat (first | refine ⟨by omega,?_⟩ | refine ⟨⟨by omega,by omega⟩,?_⟩)
  refine ACallK_of (f156_ok _ _ _) ?_
  cases g4:spIn a.time 1 10000
  · simp -dsimp
    simp [actOk,g4]
  rcases bne2 a.kind 7 with ⟨c1,c2⟩ | ⟨c1,c2⟩
  rotate_left
  · simp -dsimp [c1,c2]
    refine ACallK_of (f125_ok _ _ o0) ?_
    cases k:knows a.knew a.ref
    · simp -dsimp [c1,c2]
      simp [actOk,actRef,g1,g2,e2,g4,c2,k]
    simp -dsimp [c1,c2]
    refine ACallK_of (f164_ok _ _ _ _ (by omega) (by omega)) ?_
    simp -dsimp
    simp [actOk,actRef,g1,g2,e2,g4,c2,k]
  rcases bne2 a.kind 6 with ⟨d1,d2⟩ | ⟨d1,d2⟩
  · rcases bne2 a.ref.rep 0 with ⟨p1,p2⟩ | ⟨p1,p2⟩ <;> rcases bne2 a.ref.seq 0 with ⟨q1,q2⟩ | ⟨q1,q2⟩
    · simp -dsimp [c1,c2,d1,d2,p1,p2,q1,q2]
      simp [actOk,actRef,g1,g2,e2,g4,c2,d2,refZ,p2,q2]
    · simp -dsimp [c1,c2,d1,d2,p1,p2,q1,q2]
      simp [actOk,actRef,g1,g2,e2,g4,c2,d2,refZ,p2,q2]
    · simp -dsimp [c1,c2,d1,d2,p1,p2,q1,q2]
      simp [actOk,actRef,g1,g2,e2,g4,c2,d2,refZ,p2,q2]
    · simp -dsimp [c1,c2,d1,d2,p1,p2,q1,q2]
      refine ACallK_of (f164_ok _ _ _ _ (by omega) (by omega)) ?_
      simp -dsimp
      simp [actOk,actRef,g1,g2,e2,g4,c2,d2,refZ,p2,q2]
  · rcases bne2 a.ref.rep 0 with ⟨p1,p2⟩ | ⟨p1,p2⟩ <;> rcases bne2 a.ref.seq 0 with ⟨q1,q2⟩ | ⟨q1,q2⟩
    · simp -dsimp [c1,c2,d1,d2,p1,p2,q1,q2]
      refine ACallK_of (f125_ok _ _ o0) ?_
      cases k:knows a.knew a.ref
      · simp -dsimp [c1,c2,d1,d2,p1,p2,q1,q2]
        simp [actOk,actRef,g1,g2,e2,g4,c2,d2,refZ,p2,q2,k]
      simp -dsimp [c1,c2,d1,d2,p1,p2,q1,q2]
      refine ACallK_of (f164_ok _ _ _ _ (by omega) (by omega)) ?_
      simp -dsimp
      simp [actOk,actRef,g1,g2,e2,g4,c2,d2,refZ,p2,q2,k]
    · simp -dsimp [c1,c2,d1,d2,p1,p2,q1,q2]
      refine ACallK_of (f125_ok _ _ o0) ?_
      cases k:knows a.knew a.ref
      · simp -dsimp [c1,c2,d1,d2,p1,p2,q1,q2]
        simp [actOk,actRef,g1,g2,e2,g4,c2,d2,refZ,p2,q2,k]
      simp -dsimp [c1,c2,d1,d2,p1,p2,q1,q2]
      refine ACallK_of (f164_ok _ _ _ _ (by omega) (by omega)) ?_
      simp -dsimp
      simp [actOk,actRef,g1,g2,e2,g4,c2,d2,refZ,p2,q2,k]
    · simp -dsimp [c1,c2,d1,d2,p1,p2,q1,q2]
      refine ACallK_of (f125_ok _ _ o0) ?_
      cases k:knows a.knew a.ref
      · simp -dsimp [c1,c2,d1,d2,p1,p2,q1,q2]
        simp [actOk,actRef,g1,g2,e2,g4,c2,d2,refZ,p2,q2,k]
      simp -dsimp [c1,c2,d1,d2,p1,p2,q1,q2]
      refine ACallK_of (f164_ok _ _ _ _ (by omega) (by omega)) ?_
      simp -dsimp
      simp [actOk,actRef,g1,g2,e2,g4,c2,d2,refZ,p2,q2,k]
    · simp -dsimp [c1,c2,d1,d2,p1,p2,q1,q2]
      refine ACallK_of (f164_ok _ _ _ _ (by omega) (by omega)) ?_
      simp -dsimp
      simp [actOk,actRef,g1,g2,e2,g4,c2,d2,refZ,p2,q2]
def zeroAct:GAct:=⟨⟨0,0⟩,0,[],0,⟨#[]⟩,⟨#[]⟩,0,⟨0,0⟩⟩
end Am
namespace Am
open Go Go.Proofs
open Cel (cells)
set_option maxRecDepth 100000
@[simp] def h235:Hts:={  }
theorem f235_ok (a:GAct) (h:a.Ok):FnR Tryz.prog 235 [.agg [.int .i64 a.dot.rep,.int .i64 a.dot.seq,.int .i64 a.time,.im a.knew.length (flat a.knew),.int .i64 a.kind,.str a.obj,.str a.key,.int .i64 a.val,.int .i64 a.ref.rep,.int .i64 a.ref.seq]] (.agg [.int .i64 a.dot.rep,.int .i64 a.dot.seq,.int .i64 a.time,.ow 3 1 a.knew.length (flat a.knew),.int .i64 a.kind,.str a.obj,.str a.key,.int .i64 a.val,.int .i64 a.ref.rep,.int .i64 a.ref.seq]):=by
  simp only [GAct.Ok] at h
  obtain ⟨o0,o1,o2⟩:=h
  refine FnW.of_AW TryzT_ok 0 (fn:=Tryz.f235) (by kernel_rfl) rfl (by kernel_rfl) rfl rfl rfl ?_; refine AW_of h235 TryzT_ok (by kernel_rfl) ?_
  simp -dsimp
  simp [capMax]
  omega
end Am
namespace Am
open Go Go.Proofs
open Cel (cells)
set_option maxRecDepth 100000
@[simp] def h303:Hts:={ dr:=fun id => if id = 1 then [{ cr:=true,mb:=[7,11,15,19,23] },{ mb:=[3,7,11,15,19,23] },{ mb:=[3,7,11,15,19,23] },{ wr:=[192],cr:=true,mb:=[7,11,15,19,23] },{ mn:=[192],cr:=true,mb:=[3,6,11,15,19,23] },{ mn:=[192],mb:=[3,6,7,11,15,19,23] },{ mn:=[192],mb:=[3,6,7,11,15,19,23] },{ wr:=[448],cr:=true,mb:=[11,15,19,23] },{ mn:=[192,448],cr:=true,mb:=[3,6,7,10,15,19,23] },{ mn:=[192,448],mb:=[3,6,7,10,11,15,19,23] },{ mn:=[192,448],mb:=[3,6,7,10,11,15,19,23] },{ wr:=[704],cr:=true,mb:=[15,19,23] },{ mn:=[192,448,704],cr:=true,mb:=[3,6,7,10,11,14,19,23] },{ mn:=[192,448,704],mb:=[3,6,7,10,11,14,15,19,23] },{ mn:=[192,448,704],mb:=[3,6,7,10,11,14,15,19,23] },{ wr:=[960],cr:=true,mb:=[19,23] },{ mn:=[192,448,704,960],cr:=true,mb:=[3,6,7,10,11,14,15,18,23] },{ mn:=[192,448,704,960],mb:=[3,6,7,10,11,14,15,18,19,23] },{ mn:=[192,448,704,960],mb:=[3,6,7,10,11,14,15,18,19,23] },{ wr:=[1216],cr:=true,mb:=[23] },{ mn:=[192,448,704,960,1216],cr:=true,mb:=[3,6,7,10,11,14,15,18,19,22] },{ mn:=[192,448,704,960,1216],mb:=[3,6,7,10,11,14,15,18,19,22,23] },{ mn:=[192,448,704,960,1216],mb:=[3,6,7,10,11,14,15,18,19,22,23] },{ wr:=[1472],cr:=true },{},{ wr:=[128] }] else [] }
set_option maxHeartbeats 1000000 in
theorem f303_ok (d:GDelta) (h:d.Ok):FnR Tryz.prog 303 [.agg [.im d.base.length (flat d.base),.im d.know.length (flat d.know),.im d.tallies.length (flat d.tallies),.im d.lives.length (flat d.lives),.im d.dead.length (flat d.dead),.im d.cs.length (flat d.cs)]] (.agg [.ow 3 1 d.base.length (flat d.base),.ow 3 1 d.know.length (flat d.know),.ow 179 3 d.tallies.length (flat d.tallies),.ow 159 6 d.lives.length (flat d.lives),.ow 29 2 d.dead.length (flat d.dead),.ow 72 8 d.cs.length (flat d.cs)]):=by
  simp only [GDelta.Ok] at h
  obtain ⟨o0,o1,o2,o3,o4,o5,o6,o7,o8⟩:=h
  refine FnW.of_AW TryzT_ok 0 (fn:=Tryz.f303) (by kernel_rfl) rfl (by kernel_rfl) rfl rfl rfl ?_; refine AW_of h303 TryzT_ok (by kernel_rfl) ?_
  simp -dsimp
  simp [capMax]
  omega
end Am
