/- States put together: the program's. No condition. -/
import Derived.Test.YteidfkbfocdnmaaGreatT
import Derived.Test.YteidfkbfocdnmaaGreatD
import Derived.Test.YteidfkbfocdnmaaGreatE50
import Derived.Test.YteidfkbfocdnmaaGreatE6
import Derived.Test.YteidfkbfocdnmaaGreatY2
import Derived.Test.YteidfkbfocdnmaaGreatAm31
import Derived.Test.YteidfkbfocdnmaaGreatE16
set_option linter.unusedSimpArgs false
set_option linter.unusedVariables false
set_option linter.unnecessarySimpa false
set_option linter.unusedSectionVars false
namespace Am
open Go Go.Proofs Go.Sort
open Cel (cells)
set_option maxRecDepth 100000
theorem stateOk_tallies {s:GState} (h:stateOk s = true):s.tallies.Pairwise fun a b => tallyLt a b = true:=by
  simp only [stateOk,talliesOk,Bool.and_eq_true] at h
  have h2:=allB_iff.1 h.1.1.1.2.2
  have step:∀ (j i:Nat),i < j → j < s.tallies.length → tallyLt (nth s.tallies i) (nth s.tallies j) = true:=by
    intro j
    induction j with
    | zero => intro i hi; omega
    | succ j ih =>
      intro i hi hj
      have h3:=h2 (j + 1) hj
      simp only [talAt,Bool.and_eq_true,Bool.or_eq_true,decide_eq_true_eq,Nat.add_sub_cancel] at h3
      have h4:tallyLt (nth s.tallies j) (nth s.tallies (j + 1)) = true:=by
        rcases h3.2 with h5 | h5
        · omega
        · exact h5
      by_cases e:i = j
      · rw [e]; exact h4
      · exact tallyLt_Lt.trans _ _ _ (ih i (by omega) (by omega)) h4
  exact pw_of_nth fun i j hij hj => step j i hij hj
theorem stateOk_lives {s:GState} (h:stateOk s = true):(s.lives.Pairwise fun a b => liveLt a b = true) ∧ ∀ x,x ∈ s.lives → knows s.know x.dot = true:=by
  simp only [stateOk,livKsOk,Bool.and_eq_true] at h
  have h2:=allB_iff.1 h.1.1.2.2
  have step:∀ (j i:Nat),i < j → j < s.lives.length → liveLt (nth s.lives i) (nth s.lives j) = true:=by
    intro j
    induction j with
    | zero => intro i hi; omega
    | succ j ih =>
      intro i hi hj
      have h3:=h2 (j + 1) hj
      simp only [livKAt,Bool.and_eq_true,Bool.or_eq_true,decide_eq_true_eq,Nat.add_sub_cancel] at h3
      have h4:liveLt (nth s.lives j) (nth s.lives (j + 1)) = true:=by
        rcases h3.2 with h5 | h5
        · omega
        · exact h5
      by_cases e:i = j
      · rw [e]; exact h4
      · exact liveLt_Lt.trans _ _ _ (ih i (by omega) (by omega)) h4
  refine ⟨pw_of_nth fun i j hij hj => step j i hij hj,fun x hx => ?_⟩
  obtain ⟨i,hi,rfl⟩:=mem_nth hx
  have h3:=h2 i hi
  simp only [livKAt,Bool.and_eq_true] at h3
  exact h3.1.1
end Am
namespace Am
open Go Go.Proofs Go.Sort
open Cel (cells)
set_option maxRecDepth 100000
end Am
namespace Am
open Go Go.Proofs
open Cel (cells)
set_option maxRecDepth 100000
theorem list_ne_nth {α:Type} [Cel α] {x y:List α} {i:Nat} (h:nth x i ≠ nth y i):x ≠ y:=fun e => h (by rw [e])
theorem state_eq {a b:GState}:decide (a = b) = (decide (a.know = b.know) && decide (a.tallies = b.tallies) && decide (a.lives = b.lives) && decide (a.cs = b.cs)):=by
  rw [Bool.eq_iff_iff]
  simp only [Bool.and_eq_true,decide_eq_true_eq]
  constructor
  · rintro rfl; exact ⟨⟨⟨rfl,rfl⟩,rfl⟩,rfl⟩
  · rintro ⟨⟨⟨h1,h2⟩,h3⟩,h4⟩; cases a; cases b; simp_all
@[simp] def h23:Hts:={ merge:=fun _ => false,mergeF:=fun _ => false,dr:=fun id => if id = 6 then [{},{},{},{},{},{},{},{},{},{},{}] else if id = 11 then [{},{},{},{},{},{},{},{},{},{},{}] else if id = 16 then [{},{},{},{},{},{},{},{},{},{},{}] else [] }
set_option maxHeartbeats 4000000 in
theorem f23_ok (a b:GState) (ha:a.Ok):FnR Tryz.prog 23 [.agg [.im a.know.length (flat a.know),.im a.tallies.length (flat a.tallies),.im a.lives.length (flat a.lives),.im a.cs.length (flat a.cs)],.agg [.im b.know.length (flat b.know),.im b.tallies.length (flat b.tallies),.im b.lives.length (flat b.lives),.im b.cs.length (flat b.cs)]] (.v (.bool (decide (a = b)))):=by
  simp only [GState.Ok] at ha
  obtain ⟨a0,a1,a2,a3,a4,a5,a6⟩:=ha
  rw [state_eq]
  refine FnW.of_AW TryzT_ok 0 (fn:=Tryz.f23) (by kernel_rfl) rfl (by kernel_rfl) rfl rfl rfl ?_; refine AW_of h23 TryzT_ok (by kernel_rfl) ?_
  simp -dsimp
  refine ACallK_of (f146_ok _ _ a0) ?_
  by_cases h0:a.know = b.know
  case neg => simp -dsimp [h0]
  by_cases l1:(a.tallies.length:Int) = b.tallies.length
  case neg =>
    have hne:a.tallies ≠ b.tallies:=fun e => l1 (by rw [e])
    have b1:((a.tallies.length:Int) != (b.tallies.length:Int)) = true:=by simp [l1]
    simp -dsimp [h0,b1,hne]
  have b1:((a.tallies.length:Int) != (b.tallies.length:Int)) = false:=by simp [l1]
  replace l1:a.tallies.length = b.tallies.length:=by omega
  by_cases l2:(a.lives.length:Int) = b.lives.length
  case neg =>
    have hne:a.lives ≠ b.lives:=fun e => l2 (by rw [e])
    have b2:((a.lives.length:Int) != (b.lives.length:Int)) = true:=by simp [l2]
    simp -dsimp [h0,b1,b2,hne]
  have b2:((a.lives.length:Int) != (b.lives.length:Int)) = false:=by simp [l2]
  replace l2:a.lives.length = b.lives.length:=by omega
  by_cases l3:(a.cs.length:Int) = b.cs.length
  case neg =>
    have hne:a.cs ≠ b.cs:=fun e => l3 (by rw [e])
    have b3:((a.cs.length:Int) != (b.cs.length:Int)) = true:=by simp [l3]
    simp -dsimp [h0,b1,b2,b3,hne]
  have b3:((a.cs.length:Int) != (b.cs.length:Int)) = false:=by simp [l3]
  replace l3:a.cs.length = b.cs.length:=by omega
  simp -dsimp [h0,b1,b2,b3]
  refine AWh_loop (fun i:Nat => i ≤ a.tallies.length ∧ ∀ j:Nat,j < i → nth a.tallies j = nth b.tallies j) (fun i => mkE [(2,.box 128 0),(3,.box 192 0),(5,.c (.int .i64 i))] [(128,.box [.c (.im a.know.length (flat a.know)),.c (.im a.tallies.length (flat a.tallies)),.c (.im a.lives.length (flat a.lives)),.c (.im a.cs.length (flat a.cs))]),(192,.box [.c (.im b.know.length (flat b.know)),.c (.im b.tallies.length (flat b.tallies)),.c (.im b.lives.length (flat b.lives)),.c (.im b.cs.length (flat b.cs))])]) (fun i => a.tallies.length - i) 0 (Wk_to [2,3,5] [(128,128),(192,192)] rfl rfl (by simp [h0])) (by simp) ?_
  rintro i ⟨hi,hall⟩
  refine AW_of h23 TryzT_ok (by kernel_rfl) ?_
  rcases Nat.lt_or_ge i a.tallies.length with g1 | g1
  · have g2:i < b.tallies.length:=by omega
    simp -dsimp [g1,g2,ne_of_lt g1,ne_of_lt g2]
    refine ⟨by omega,by omega,?_⟩
    refine ⟨fun h => ?_,?_⟩
    · have hne:a.tallies ≠ b.tallies:=list_ne_nth (i:=i) (fun e => by rw [e] at h; simp at h)
      simp [hne]
    intros
    refine Back_of (i + 1) [2,3,5] [(128,128),(192,192)] rfl rfl (by simp; rw [wrap64 (by omega) (by omega)]) ⟨by omega,fun j hj => ?_⟩ (by omega)
    by_cases e:j = i
    · subst e
      apply GTally.ext <;> first | assumption | (apply GDot.ext <;> assumption)
    · exact hall j (by omega)
  obtain rfl:i = a.tallies.length:=by omega
  have q1:a.tallies = b.tallies:=list_eq_of_nth l1 (fun j hj => hall j (by omega))
  clear hi hall g1
  simp -dsimp
  refine AWh_loop (fun i:Nat => i ≤ a.lives.length ∧ ∀ j:Nat,j < i → nth a.lives j = nth b.lives j) (fun i => mkE [(2,.box 128 0),(3,.box 192 0),(6,.c (.int .i64 i))] [(128,.box [.c (.im a.know.length (flat a.know)),.c (.im a.tallies.length (flat a.tallies)),.c (.im a.lives.length (flat a.lives)),.c (.im a.cs.length (flat a.cs))]),(192,.box [.c (.im b.know.length (flat b.know)),.c (.im b.tallies.length (flat b.tallies)),.c (.im b.lives.length (flat b.lives)),.c (.im b.cs.length (flat b.cs))])]) (fun i => a.lives.length - i) 0 (Wk_to [2,3,6] [(128,128),(192,192)] rfl rfl (by simp [h0])) (by simp) ?_
  rintro i ⟨hi,hall⟩
  refine AW_of h23 TryzT_ok (by kernel_rfl) ?_
  rcases Nat.lt_or_ge i a.lives.length with g1 | g1
  · have g2:i < b.lives.length:=by omega
    simp -dsimp [g1,g2,ne_of_lt g1,ne_of_lt g2]
    refine ⟨by omega,by omega,?_⟩
    refine ⟨fun h => ?_,?_⟩
    · have hne:a.lives ≠ b.lives:=list_ne_nth (i:=i) (fun e => by rw [e] at h; simp at h)
      simp [hne]
    intros
    refine Back_of (i + 1) [2,3,6] [(128,128),(192,192)] rfl rfl (by simp; rw [wrap64 (by omega) (by omega)]) ⟨by omega,fun j hj => ?_⟩ (by omega)
    by_cases e:j = i
    · subst e
      apply GLive.ext <;> first | assumption | (apply GDot.ext <;> assumption)
    · exact hall j (by omega)
  obtain rfl:i = a.lives.length:=by omega
  have q2:a.lives = b.lives:=list_eq_of_nth l2 (fun j hj => hall j (by omega))
  clear hi hall g1
  simp -dsimp
  refine AWh_loop (fun i:Nat => i ≤ a.cs.length ∧ ∀ j:Nat,j < i → nth a.cs j = nth b.cs j) (fun i => mkE [(2,.box 128 0),(3,.box 192 0),(7,.c (.int .i64 i))] [(128,.box [.c (.im a.know.length (flat a.know)),.c (.im a.tallies.length (flat a.tallies)),.c (.im a.lives.length (flat a.lives)),.c (.im a.cs.length (flat a.cs))]),(192,.box [.c (.im b.know.length (flat b.know)),.c (.im b.tallies.length (flat b.tallies)),.c (.im b.lives.length (flat b.lives)),.c (.im b.cs.length (flat b.cs))])]) (fun i => a.cs.length - i) 0 (Wk_to [2,3,7] [(128,128),(192,192)] rfl rfl (by simp [h0])) (by simp) ?_
  rintro i ⟨hi,hall⟩
  refine AW_of h23 TryzT_ok (by kernel_rfl) ?_
  rcases Nat.lt_or_ge i a.cs.length with g1 | g1
  · have g2:i < b.cs.length:=by omega
    simp -dsimp [g1,g2,ne_of_lt g1,ne_of_lt g2]
    refine ⟨by omega,by omega,?_⟩
    refine ⟨fun h => ?_,?_⟩
    · have hne:a.cs ≠ b.cs:=list_ne_nth (i:=i) (fun e => by rw [e] at h; simp at h)
      simp [hne]
    intros
    refine Back_of (i + 1) [2,3,7] [(128,128),(192,192)] rfl rfl (by simp; rw [wrap64 (by omega) (by omega)]) ⟨by omega,fun j hj => ?_⟩ (by omega)
    by_cases e:j = i
    · subst e
      apply GCell.ext <;> first | assumption | (apply GDot.ext <;> assumption)
    · exact hall j (by omega)
  obtain rfl:i = a.cs.length:=by omega
  have q3:a.cs = b.cs:=list_eq_of_nth l3 (fun j hj => hall j (by omega))
  clear hi hall g1
  simp -dsimp
  simp [h0,q1,q2,q3]
end Am
namespace Am
open Go Go.Proofs
open Cel (cells)
set_option maxRecDepth 100000
def behind (a b:GState):Bool:=stateOk a && (stateOk b && decide (mergeState a b = b))
theorem mergeState_ok {a b:GState} (ha:a.Ok) (hb:b.Ok):(mergeState a b).Ok:=by
  unfold mergeState
  split
  · rename_i h
    simp only [Bool.and_eq_true] at h
    split
    · exact mergeRaw_ok ha hb h.1 h.2
    · exact ha
  · exact ha
@[simp] def h26:Hts:={ merge:=fun _ => false,mergeF:=fun _ => false,dr:=fun id => if id = 1 then [{},{ cr:=true },{},{},{ cr:=true },{},{},{},{},{ cr:=true },{ mb:=[14] },{ cr:=true },{},{}] else [] }
set_option maxHeartbeats 4000000 in
theorem f26_ok (a b:GState) (ha:a.Ok) (hb:b.Ok):FnR Tryz.prog 26 [.agg [.im a.know.length (flat a.know),.im a.tallies.length (flat a.tallies),.im a.lives.length (flat a.lives),.im a.cs.length (flat a.cs)],.agg [.im b.know.length (flat b.know),.im b.tallies.length (flat b.tallies),.im b.lives.length (flat b.lives),.im b.cs.length (flat b.cs)]] (.v (.bool (behind a b))):=by
  refine FnW.of_AW TryzT_ok 0 (fn:=Tryz.f26) (by kernel_rfl) rfl (by kernel_rfl) rfl rfl rfl ?_; refine AW_of h26 TryzT_ok (by kernel_rfl) ?_
  simp -dsimp
  refine ACallK_of (f70_ok _ ha) ?_
  rw [stateOkS_eq]
  cases ka:stateOk a
  · simp -dsimp
    simp [behind,ka]
  simp -dsimp
  refine ACallK_of (f70_ok _ hb) ?_
  rw [stateOkS_eq]
  cases kb:stateOk b
  · simp -dsimp
    simp [behind,kb]
  simp -dsimp
  refine ACallK_of (f24_ok _ _ ha hb) ?_
  simp -dsimp
  refine ACallK_of (f23_ok (mergeState a b) b (mergeState_ok ha hb)) ?_
  simp -dsimp
  simp [behind,ka,kb]
end Am
namespace Am
open Go Go.Proofs
open Cel (cells)
set_option maxRecDepth 100000
def tooMany (s:GState):Bool:=decide (120 < s.tallies.length) || (decide (120 < s.lives.length) || decide (120 < s.cs.length))
end Am
