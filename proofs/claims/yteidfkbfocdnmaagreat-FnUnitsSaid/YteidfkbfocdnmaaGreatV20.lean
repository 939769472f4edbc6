/- A log that is right: of both. No condition. -/
import Derived.Test.YteidfkbfocdnmaaGreatT
import Derived.Test.YteidfkbfocdnmaaGreatD
import Derived.Test.YteidfkbfocdnmaaGreatU21
import Derived.Test.YteidfkbfocdnmaaGreatE56
import Derived.Test.YteidfkbfocdnmaaGreatU24
import Derived.Test.YteidfkbfocdnmaaGreatAm31
import Derived.Test.YteidfkbfocdnmaaGreatE2
import Derived.Test.YteidfkbfocdnmaaGreatE9
import Derived.Test.YteidfkbfocdnmaaGreatAm38
import Derived.Test.YteidfkbfocdnmaaGreatE16
import Derived.Test.YteidfkbfocdnmaaGreatV1
import Derived.Test.YteidfkbfocdnmaaGreatAm29
set_option linter.unusedSimpArgs false
set_option linter.unusedVariables false
set_option linter.unnecessarySimpa false
set_option linter.unusedSectionVars false
namespace Am
open Go Go.Proofs
open Cel (cells)
set_option maxRecDepth 100000
@[simp] def h240:Hts:={ merge:=fun _ => false }
theorem f240_ok (u:GUnit) (h:u.Ok):FnR Tryz.prog 240 [.agg [.bool u.batch,.int .i64 u.act.dot.rep,.int .i64 u.act.dot.seq,.int .i64 u.act.time,.im u.act.knew.length (flat u.act.knew),.int .i64 u.act.kind,.str u.act.obj,.str u.act.key,.int .i64 u.act.val,.int .i64 u.act.ref.rep,.int .i64 u.act.ref.seq,.im u.delta.base.length (flat u.delta.base),.im u.delta.know.length (flat u.delta.know),.im u.delta.tallies.length (flat u.delta.tallies),.im u.delta.lives.length (flat u.delta.lives),.im u.delta.dead.length (flat u.delta.dead),.im u.delta.cs.length (flat u.delta.cs)]] (.v (.int .i64 (unitTime u))):=by
  simp only [GUnit.Ok,GDelta.Ok] at h
  refine FnW.of_AW TryzT_ok 0 (fn:=Tryz.f240) (by kernel_rfl) rfl (by kernel_rfl) rfl rfl rfl ?_; refine AW_of h240 TryzT_ok (by kernel_rfl) ?_
  cases hb:u.batch
  · simp -dsimp [hb]
    simp [unitTime,hb]
  · have hc:=f135_ok ⟨[],[],[],u.delta.cs⟩ (by simp only; omega)
    simp only [List.length_nil,flat_nil] at hc
    simp -dsimp [hb]
    refine ACallK_of (hc) ?_
    simp -dsimp
    simp [unitTime,hb,timeOf]
theorem logOk_head {l:GLog} (h:logHead l = false):logOk l = false:=by simp [logOk,h]
theorem logOk_wait {l:GLog} {i:Nat} (hi:i < l.waits.length) (h:unitOk (nth l.waits i) = false):logOk l = false:=by
  have:waitsOk l.waits = false:=allB_false hi h
  simp [logOk,this]
theorem logOk_unit {l:GLog} {i:Nat} (hi:i < l.units.length) (h:goodU l.time l.units i = false):logOk l = false:=by
  have:allB (goodU l.time l.units) l.units.length = false:=allB_false hi h
  simp [logOk,this]
theorem runU_Ok {l:List GUnit} (h:∀ u,u ∈ l → u.Ok):∀ i:Nat,i ≤ l.length → (runU l i).Ok
  | 0,_ => by simp [runU,stateNew,GState.Ok]
  | i + 1,hi => doUnit_ok (runU_Ok h i (by omega)) (h _ (nth_mem (by omega)))
@[simp] def h103:Hts:={ merge:=fun _ => false,mergeF:=fun _ => false,own:=fun d => !(d == 52 || d == 85),dr:=fun id => if id = 1 then [{},{},{ cr:=true },{},{},{},{},{ cr:=true },{},{},{},{},{},{},{},{},{},{},{},{},{},{},{},{},{},{ cr:=true },{ mb:=[33] },{ mb:=[33] },{},{}] else if id = 12 then [{},{},{},{},{},{ cr:=true },{},{},{},{},{},{},{},{ cr:=true },{ mb:=[73] },{ mb:=[73] },{},{}] else if id = 14 then [{ mb:=[6] },{ mb:=[6] },{ mb:=[6] },{ mb:=[6] },{ mb:=[6] },{ mb:=[6] },{ cr:=true,mb:=[6] },{ mb:=[6] },{ mb:=[6] },{ mn:=[384],mb:=[6] },{ cr:=true,mb:=[85] },{ wr:=[384] },{}] else [] }
set_option maxHeartbeats 8000000 in
theorem f103_ok (l:GLog) (h:l.Ok):FnR Tryz.prog 103 [.agg [.int .i64 l.rep,.int .i64 l.time,.im l.state.know.length (flat l.state.know),.im l.state.tallies.length (flat l.state.tallies),.im l.state.lives.length (flat l.state.lives),.im l.state.cs.length (flat l.state.cs),.im l.units.length (flat l.units),.im l.waits.length (flat l.waits)]] (.v (.bool (logOk l))):=by
  have hl:=h
  simp only [GLog.Ok] at hl
  obtain ⟨h0,h1,h2,h3,h4⟩:=hl
  have h0':=h0
  simp only [GState.Ok] at h0'
  refine FnW.of_AW TryzT_ok 0 (fn:=Tryz.f103) (by kernel_rfl) rfl (by kernel_rfl) rfl rfl rfl ?_; refine AW_of h103 TryzT_ok (by kernel_rfl) ?_
  simp -dsimp
  refine ACallK_of (f162_ok _ _ _) ?_
  cases c1:spIn l.rep 0 2
  · simp -dsimp
    exact logOk_head (by simp [logHead,c1])
  simp -dsimp
  refine ACallK_of (f162_ok _ _ _) ?_
  cases c2:spIn l.time 0 10000
  · simp -dsimp
    exact logOk_head (by simp [logHead,c2])
  by_cases c3:l.units.length ≤ 60
  case neg =>
    have c3':(60:Int) < l.units.length:=by omega
    simp -dsimp [c3']
    exact logOk_head (by simp [logHead,c3])
  have c3':¬ (60:Int) < l.units.length:=by omega
  by_cases c4:l.waits.length ≤ 6
  case neg =>
    have c4':(6:Int) < l.waits.length:=by omega
    simp -dsimp [c3',c4']
    exact logOk_head (by simp [logHead,c4])
  have c4':¬ (6:Int) < l.waits.length:=by omega
  simp -dsimp [c3',c4']
  refine ACallK_of (f135_ok l.state (by omega)) ?_
  by_cases c5:timeOf l.state ≤ l.time
  case neg =>
    have c5':l.time < timeOf l.state:=by omega
    simp -dsimp [c5']
    exact logOk_head (by simp [logHead,c5])
  have c5':¬ l.time < timeOf l.state:=by omega
  have hhead:logHead l = true:=by simp [logHead,c1,c2,c3,c4,c5]
  simp -dsimp [c5']
  refine AWh_loop (fun i:Nat => i ≤ l.waits.length ∧ allB (fun i => unitOk (nth l.waits i)) i = true) (fun i => mkE [(1,.box 64 0),(3,.c (.int .i64 i))] [(64,.box [.c (.int .i64 l.rep),.c (.int .i64 l.time),.c (.im l.state.know.length (flat l.state.know)),.c (.im l.state.tallies.length (flat l.state.tallies)),.c (.im l.state.lives.length (flat l.state.lives)),.c (.im l.state.cs.length (flat l.state.cs)),.c (.im l.units.length (flat l.units)),.c (.im l.waits.length (flat l.waits))])]) (fun i => l.waits.length - i) 0 (Wk_to [1,3] [(64,64)] rfl rfl (by simp)) (by simp [allB]) ?_
  rintro i ⟨hi,hall⟩
  refine AW_of h103 TryzT_ok (by kernel_rfl) ?_
  have wi:IntKind.i64.wrap ((i:Int) + 1) = i + 1:=wrap64 (by omega) (by omega)
  rcases Nat.lt_or_ge i l.waits.length with p1 | p1
  · simp -dsimp [p1,ne_of_lt p1]
    repeat (first|refine ⟨by omega,?_⟩|refine ⟨by simp [capMax];omega,?_⟩|refine ⟨⟨by omega,by omega⟩,?_⟩)
    refine ACallK_of (f211_ok _ (h4 _ (nth_mem p1))) ?_
    cases q:unitOk (nth l.waits i)
    · simp -dsimp
      exact logOk_wait p1 q
    · simp -dsimp [wi]
      exact Back_of (i + 1) [1,3] [(64,64)] rfl rfl (by simp) ⟨by omega,allB_succ hall q⟩ (by omega)
  obtain rfl:i = l.waits.length:=by omega
  simp -dsimp
  refine ACallK_of (f118_ok) ?_
  simp -dsimp
  refine AWh_loop (fun i:Nat => i ≤ l.units.length ∧ allB (goodU l.time l.units) i = true) (fun i => mkE [(1,.box 64 0),(4,.box 256 0),(5,.c (.int .i64 i))] [(64,.box [.c (.int .i64 l.rep),.c (.int .i64 l.time),.c (.im l.state.know.length (flat l.state.know)),.c (.im l.state.tallies.length (flat l.state.tallies)),.c (.im l.state.lives.length (flat l.state.lives)),.c (.im l.state.cs.length (flat l.state.cs)),.c (.im l.units.length (flat l.units)),.c (.im l.waits.length (flat l.waits))]),(256,.box [.c (.im ((runU l.units i)).know.length (flat ((runU l.units i)).know)),.c (.im ((runU l.units i)).tallies.length (flat ((runU l.units i)).tallies)),.c (.im ((runU l.units i)).lives.length (flat ((runU l.units i)).lives)),.c (.im ((runU l.units i)).cs.length (flat ((runU l.units i)).cs))])]) (fun i => l.units.length - i) 0 (Wk_to [1,4,5] [(64,64),(256,256)] rfl rfl (by simp [runU,stateNew])) (by simp [allB]) ?_
  rintro i ⟨hi,hall2⟩
  refine AW_of h103 TryzT_ok (by kernel_rfl) ?_
  have wi:IntKind.i64.wrap ((i:Int) + 1) = i + 1:=wrap64 (by omega) (by omega)
  have hrun:=runU_Ok h2 i hi
  rcases Nat.lt_or_ge i l.units.length with p1 | p1
  · have hu:=h2 _ (nth_mem p1)
    simp -dsimp [p1,ne_of_lt p1]
    repeat (first|refine ⟨by omega,?_⟩|refine ⟨by simp [capMax];omega,?_⟩|refine ⟨⟨by omega,by omega⟩,?_⟩)
    refine ACallK_of (f211_ok _ hu) ?_
    cases q:unitOk (nth l.units i)
    · simp -dsimp
      exact logOk_unit p1 (by simp [goodU,q])
    simp -dsimp [p1,ne_of_lt p1]
    repeat (first|refine ⟨by omega,?_⟩|refine ⟨by simp [capMax];omega,?_⟩|refine ⟨⟨by omega,by omega⟩,?_⟩)
    refine ACallK_of (f240_ok _ hu) ?_
    by_cases q2:unitTime (nth l.units i) ≤ l.time
    case neg =>
      have q2':l.time < unitTime (nth l.units i):=by omega
      simp -dsimp [q2']
      exact logOk_unit p1 (by simp [goodU,q2])
    have q2':¬ l.time < unitTime (nth l.units i):=by omega
    simp -dsimp [q2',p1,ne_of_lt p1]
    repeat (first|refine ⟨by omega,?_⟩|refine ⟨by simp [capMax];omega,?_⟩|refine ⟨⟨by omega,by omega⟩,?_⟩)
    refine ACallK_of (f100_ok (runU l.units i) _ hrun hu) ?_
    by_cases q3:(doUnit (runU l.units i) (nth l.units i)).2 = 0
    case neg =>
      simp -dsimp [q3]
      exact logOk_unit p1 (by simp [goodU,q3])
    simp -dsimp [q3,wi]
    exact Back_of (i + 1) [1,4,5] [(64,64),(256,256)] rfl rfl (by simp [runU]) ⟨by omega,allB_succ hall2 (by simp [goodU,q,q2,q3])⟩ (by omega)
  obtain rfl:i = l.units.length:=by omega
  simp -dsimp
  refine ACallK_of (f23_ok _ _ hrun) ?_
  simp -dsimp
  have hw:waitsOk l.waits = true:=hall
  simp [logOk,hhead,hw,hall2]
end Am
namespace Am
open Go Go.Proofs
open Cel (cells)
set_option maxRecDepth 100000
@[simp] def h329:Hts:={ merge:=fun _ => false }
set_option maxHeartbeats 2000000 in
theorem f329_ok (l:List GUnit) (hl:l.length ≤ 1073741824) (h:∀ u,u ∈ l → u.Ok):FnR Tryz.prog 329 [.v (.im l.length (flat l))] (.v (.ow 99 17 l.length (flatO l))):=by
  refine FnW.of_AW TryzT_ok 0 (fn:=Tryz.f329) (by kernel_rfl) rfl (by kernel_rfl) rfl rfl rfl ?_; refine AW_of h329 TryzT_ok (by kernel_rfl) ?_
  simp -dsimp
  refine AWh_loop (fun i:Nat => i ≤ l.length) (fun i => mkE [(0,.c (.im l.length (flat l))),(3,.arr 320),(4,.c (.int .i64 i))] [(320,.arr 0 99 17 i (flatO (l.take i)))]) (fun i => l.length - i) 0 (Wk_to [0,3,4] [(320,320)] rfl rfl (by simp)) (by simp) ?_
  rintro i hi
  refine AW_of h329 TryzT_ok (by kernel_rfl) ?_
  have wi:IntKind.i64.wrap ((i:Int) + 1) = i + 1:=wrap64 (by omega) (by omega)
  rcases Nat.lt_or_ge i l.length with h1 | h1
  · have ha:l.take (i + 1) = l.take i ++ [nth l i]:=take_snoc h1
    simp -dsimp [h1,ne_of_lt h1]
    repeat (first|refine ⟨by omega,?_⟩|refine ⟨by simp [capMax];omega,?_⟩|refine ⟨⟨by omega,by omega⟩,?_⟩)
    refine ACallK_of (f225_ok _ (h _ (nth_mem h1))) ?_
    simp -dsimp [wi]
    refine ⟨by simp [capMax]; omega,?_⟩
    exact Back_of (i + 1) [0,3,4] [(320,1216)] rfl rfl (by simp [ha]) (by omega) (by omega)
  · obtain rfl:i = l.length:=by omega
    simp -dsimp
@[simp] def h227:Hts:={ merge:=fun _ => false,dr:=fun id => if id = 1 then [{ mb:=[9,12,15] },{ mb:=[9,12,15] },{ mb:=[9,12,15] },{ mb:=[9,12,15] },{},{},{ cr:=true },{ mb:=[9] },{ mb:=[9] },{ cr:=true },{ mb:=[9,12] },{ mb:=[9,12] },{ cr:=true },{},{ wr:=[128] }] else [] }
set_option maxHeartbeats 2000000 in
theorem f227_ok (l:GLog) (h:l.Ok):FnR Tryz.prog 227 [.agg [.int .i64 l.rep,.int .i64 l.time,.im l.state.know.length (flat l.state.know),.im l.state.tallies.length (flat l.state.tallies),.im l.state.lives.length (flat l.state.lives),.im l.state.cs.length (flat l.state.cs),.im l.units.length (flat l.units),.im l.waits.length (flat l.waits)]] (.agg [.int .i64 l.rep,.int .i64 l.time,.ow 3 1 l.state.know.length (flat l.state.know),.ow 179 3 l.state.tallies.length (flat l.state.tallies),.ow 159 6 l.state.lives.length (flat l.state.lives),.ow 72 8 l.state.cs.length (flat l.state.cs),.ow 99 17 l.units.length (flatO l.units),.ow 99 17 l.waits.length (flatO l.waits)]):=by
  simp only [GLog.Ok] at h
  obtain ⟨h0,h1,h2,h3,h4⟩:=h
  refine FnW.of_AW TryzT_ok 0 (fn:=Tryz.f227) (by kernel_rfl) rfl (by kernel_rfl) rfl rfl rfl ?_; refine AW_of h227 TryzT_ok (by kernel_rfl) ?_
  simp -dsimp
  refine ACallK_of (f147_ok _ h0) ?_
  simp -dsimp
  refine ACallK_of (f329_ok _ h1 h2) ?_
  simp -dsimp
  refine ACallK_of (f329_ok _ h3 h4) ?_
  simp -dsimp
theorem copyLogS (l:GLog) (h:l.Ok):FnR Tryz.prog 227 [.agg [.int .i64 l.rep,.int .i64 l.time,.im l.state.know.length (flat l.state.know),.im l.state.tallies.length (flat l.state.tallies),.im l.state.lives.length (flat l.state.lives),.im l.state.cs.length (flat l.state.cs),.im l.units.length (flat l.units),.im l.waits.length (flat l.waits)]] (.agg [.int .i64 l.rep,.int .i64 l.time,.im l.state.know.length (flat l.state.know),.im l.state.tallies.length (flat l.state.tallies),.im l.state.lives.length (flat l.state.lives),.im l.state.cs.length (flat l.state.cs),.ow 99 17 l.units.length (flat l.units),.ow 99 17 l.waits.length (flat l.waits)]):=by
  have:=FnW.wk [[0,0,1,1,1,1,2,2]] (f227_ok l h)
  simp [wkR,wkC,wkPs,wkP,frz] at this
  exact this
end Am
namespace Am
open Go Go.Proofs
open Cel (cells)
set_option maxRecDepth 100000
@[simp] def h228:Hts:={ merge:=fun _ => false,mergeF:=fun _ => false,own:=fun d => !(d == 16),dr:=fun id => if id = 2 then [{ mn:=[896,640007],mb:=[16,17,18] },{ mb:=[16,17] },{ mb:=[16,17] },{ mb:=[16,17] },{ mb:=[16,17] },{},{ cr:=true },{ cr:=true },{ wr:=[896,640007],cr:=true },{},{ wr:=[640000] },{ wr:=[640000] }] else if id = 3 then [{},{ cr:=true },{ mb:=[22] },{ mb:=[22] },{ mb:=[22] },{ mb:=[22] },{}] else [] }
set_option maxHeartbeats 4000000 in
theorem f228_ok (u0 u7:Value) (s0:GState) (t:Int) (us:List GUnit) (u:GUnit) (s:GState) (hl:us.length ≤ 1000000) (hu:u.Ok) (hs:s.Ok):FnW Tryz.prog 228 [.ptr [.tk u0,.int .i64 t,.im s0.know.length (flat s0.know),.im s0.tallies.length (flat s0.tallies),.im s0.lives.length (flat s0.lives),.im s0.cs.length (flat s0.cs),.ow 99 17 us.length (flat us),.tk u7],.agg [.bool u.batch,.int .i64 u.act.dot.rep,.int .i64 u.act.dot.seq,.int .i64 u.act.time,.im u.act.knew.length (flat u.act.knew),.int .i64 u.act.kind,.str u.act.obj,.str u.act.key,.int .i64 u.act.val,.int .i64 u.act.ref.rep,.int .i64 u.act.ref.seq,.im u.delta.base.length (flat u.delta.base),.im u.delta.know.length (flat u.delta.know),.im u.delta.tallies.length (flat u.delta.tallies),.im u.delta.lives.length (flat u.delta.lives),.im u.delta.dead.length (flat u.delta.dead),.im u.delta.cs.length (flat u.delta.cs)],.agg [.im s.know.length (flat s.know),.im s.tallies.length (flat s.tallies),.im s.lives.length (flat s.lives),.im s.cs.length (flat s.cs)]] (.tup []) [.ptr [.tk u0,.int .i64 (max t (unitTime u)),.im s.know.length (flat s.know),.im s.tallies.length (flat s.tallies),.im s.lives.length (flat s.lives),.im s.cs.length (flat s.cs),.ow 99 17 (us.length + 1) (flat (us ++ [u])),.tk u7],.any,.any]:=by
  refine FnW.of_AW TryzT_ok 1 (fn:=Tryz.f228) (by kernel_rfl) rfl (by kernel_rfl) rfl rfl rfl ?_; refine AW_of h228 TryzT_ok (by kernel_rfl) ?_
  simp -dsimp
  refine ACallK_of (f225_ok _ hu) ?_
  simp -dsimp
  refine ⟨by simp [capMax]; omega,?_⟩
  refine ACallK_of (f240_ok _ hu) ?_
  by_cases h:t < unitTime u
  · have e:max t (unitTime u) = unitTime u:=by omega
    simp -dsimp [h]
    refine ACallK_of (f240_ok _ hu) ?_
    simp -dsimp
    simp [e]
  · have e:max t (unitTime u) = t:=by omega
    simp -dsimp [h]
    simp [e]
theorem doneM_Ok {l:GLog} (h:l.Ok) {u:GUnit} (hu:u.Ok) (hl:l.units.length < 1000000):(doneM l u).Ok:=by
  simp only [GLog.Ok] at h ⊢
  obtain ⟨h0,h1,h2,h3,h4⟩:=h
  refine ⟨doUnit_ok h0 hu,by simp only [doneM,List.length_append,List.length_singleton]; omega,fun y hy => ?_,h3,h4⟩
  rcases List.mem_append.1 hy with hy | hy
  · exact h2 y hy
  · rw [List.mem_singleton.1 hy]; exact hu
structure WkOk (l m:GLog) (ws:List GUnit) (i:Nat):Prop where
  ok:m.Ok
  w:m.waits = l.waits
  l:m.units.length ≤ 60
  wl:ws.length ≤ i
  wo:∀ u,u ∈ ws → u.Ok
theorem wk_Ok {l:GLog} (h:l.Ok) (hl:l.units.length ≤ 60):∀ i:Nat,i ≤ l.waits.length → WkOk l (wkK l.waits l i).1 (wkK l.waits l i).2.1 i
  | 0,_ => ⟨h,rfl,hl,by simp [wkK],by simp [wkK]⟩
  | i + 1,hi => by
    obtain ⟨a1,a2,a3,a4,a5⟩:=wk_Ok h hl i (by omega)
    have hu:(nth l.waits i).Ok:=by
      simp only [GLog.Ok] at h
      exact h.2.2.2.2 _ (nth_mem (by omega))
    rw [wkK]
    split
    · rename_i hc
      simp only [canM,decide_eq_true_eq] at hc
      exact ⟨doneM_Ok a1 hu (by omega),a2,by simp only [doneM,List.length_append,List.length_singleton]; omega,by simp only; omega,a5⟩
    split
    · exact ⟨a1,a2,a3,by omega,a5⟩
    · refine ⟨a1,a2,a3,by simp only [List.length_append,List.length_singleton]; omega,fun u hu' => ?_⟩
      rcases List.mem_append.1 hu' with hu' | hu'
      · exact a5 u hu'
      · rw [List.mem_singleton.1 hu']; exact hu
theorem pass_Ok {l:GLog} (h:l.Ok) (hl:l.units.length ≤ 60):(passM l).Ok ∧ (passM l).units.length ≤ 60:=by
  obtain ⟨a1,a2,a3,a4,a5⟩:=wk_Ok h hl l.waits.length (Nat.le_refl _)
  simp only [GLog.Ok] at h a1 ⊢
  exact ⟨⟨a1.1,a1.2.1,a1.2.2.1,by show (wkK l.waits l l.waits.length).2.1.length ≤ _; omega,a5⟩,a3⟩
theorem pass_rep (l:GLog):(passM l).rep = l.rep:=by
  have:∀ i:Nat,(wkK l.waits l i).1.rep = l.rep:=by
    intro i
    induction i with
    | zero => rfl
    | succ i ih => rw [wkK]; split; · exact ih
                   split <;> exact ih
  exact this _
structure WS where
  f:Nat
  l:GLog
  b:Bool
structure WInv (l0:GLog) (q:WS):Prop where
  ok:q.l.Ok
  l:q.l.units.length ≤ 60
  t:q.b = true → wakeM q.f q.l = wake l0 ∧ q.l.waits.length < q.f
  e:q.b = false → q.l = wake l0
def wsM (q:WS):Nat:=if q.b then q.f + 1 else 0
theorem wake_step {l0 l:GLog} {f:Nat} (h:WInv l0 ⟨f,l,true⟩):∃ g,f = g + 1 ∧ WInv l0 ⟨g,passM l,someM l⟩:=by
  obtain ⟨h1,h2⟩:=h.t rfl
  simp only at h1 h2
  obtain ⟨g,rfl⟩:∃ g,f = g + 1:=⟨f - 1,by omega⟩
  obtain ⟨p1,p2⟩:=pass_Ok h.ok h.l
  obtain ⟨q1,q2⟩:=pass_len l
  rw [wakeM] at h1
  refine ⟨g,rfl,p1,p2,fun hs => ?_,fun hs => ?_⟩
  · have hs:someM l = true:=hs
    rw [if_pos hs] at h1
    have:=q2 hs
    exact ⟨h1,by simp only; omega⟩
  · have hs:someM l = false:=hs
    rw [hs] at h1
    simpa using h1
theorem wake_start {l:GLog} (h:l.Ok) (hl:l.units.length ≤ 60):WInv l ⟨l.waits.length + 1,l,true⟩:=⟨h,hl,fun _ => ⟨rfl,by simp⟩,fun h => by cases h⟩
@[simp] def h229:Hts:={ merge:=fun _ => false,mergeF:=fun _ => false,own:=fun d => !(d == 30),lend:=fun f => if f = 228 then [.box [0,7]] else [],dr:=fun id => if id = 7 then [{ mb:=[5] },{ mb:=[5] },{ mb:=[5] },{ mb:=[5] },{ mb:=[5] },{ mb:=[5] },{ mb:=[5] },{ mb:=[5] },{ mb:=[5] },{ mb:=[5] },{ mb:=[5] },{ cr:=true,mb:=[5] },{ mb:=[5] },{ mb:=[5] },{ mn:=[320],mb:=[5] },{ cr:=true,mb:=[30] },{ wr:=[320] },{}] else if id = 9 then [{},{},{},{},{},{},{},{},{},{ wr:=[640000,640007],cr:=true }] else [] }
set_option maxHeartbeats 8000000 in
theorem f229_ok (u0:Value) (l:GLog) (h:l.Ok) (hl:l.units.length ≤ 60):FnW Tryz.prog 229 [.ptr [.tk u0,.int .i64 l.time,.im l.state.know.length (flat l.state.know),.im l.state.tallies.length (flat l.state.tallies),.im l.state.lives.length (flat l.state.lives),.im l.state.cs.length (flat l.state.cs),.ow 99 17 l.units.length (flat l.units),.ow 99 17 l.waits.length (flat l.waits)]] (.tup []) [.ptr [.tk u0,.int .i64 (wake l).time,.im ((wake l).state).know.length (flat ((wake l).state).know),.im ((wake l).state).tallies.length (flat ((wake l).state).tallies),.im ((wake l).state).lives.length (flat ((wake l).state).lives),.im ((wake l).state).cs.length (flat ((wake l).state).cs),.ow 99 17 (wake l).units.length (flat (wake l).units),.ow 99 17 (wake l).waits.length (flat (wake l).waits)]]:=by
  have h0:=wake_start h hl
  refine FnW.of_AW TryzT_ok 1 (fn:=Tryz.f229) (by kernel_rfl) rfl (by kernel_rfl) rfl rfl rfl ?_; refine AW_of h229 TryzT_ok (by kernel_rfl) ?_
  simp -dsimp
  refine AWh_loop (fun q:WS => WInv l q) (fun q => mkE [(0,.box 640000 0),(2,.c (.bool q.b))] [(640000,.box [.c (.tk u0),.c (.int .i64 q.l.time),.c (.im q.l.state.know.length (flat q.l.state.know)),.c (.im q.l.state.tallies.length (flat q.l.state.tallies)),.c (.im q.l.state.lives.length (flat q.l.state.lives)),.c (.im q.l.state.cs.length (flat q.l.state.cs)),.arr 640007,.arr 640008]),(640007,.arr 0 99 17 q.l.units.length (flat q.l.units)),(640008,.arr 0 99 17 q.l.waits.length (flat q.l.waits))]) wsM ⟨l.waits.length + 1,l,true⟩ (Wk_to [0,2] [(640000,640000),(640007,640007),(640008,640008)] rfl rfl (by simp)) h0 ?_
  rintro ⟨f,m,b⟩ hq
  cases b
  · have e:m = wake l:=hq.e rfl
    refine AW_of h229 TryzT_ok (by kernel_rfl) ?_
    simp -dsimp
    rw [e]
    simp -dsimp
    done
  obtain ⟨g,rfl,hN⟩:=wake_step hq
  obtain ⟨hm,hml,_,_⟩:=hq
  simp only at hm hml
  have hm2:=hm
  simp only [GLog.Ok] at hm2
  obtain ⟨_,_,_,m3,m4⟩:=hm2
  refine AW_of h229 TryzT_ok (by kernel_rfl) ?_
  simp -dsimp
  refine AWh_loop (fun i:Nat => i ≤ m.waits.length) (fun i => mkE [(0,.box 640000 0),(2,.c (.bool (wkK m.waits m i).2.2)),(3,.arr 512),(4,.c (.int .i64 i))] [(640000,.box [.c (.tk u0),.c (.int .i64 (wkK m.waits m i).1.time),.c (.im (wkK m.waits m i).1.state.know.length (flat (wkK m.waits m i).1.state.know)),.c (.im (wkK m.waits m i).1.state.tallies.length (flat (wkK m.waits m i).1.state.tallies)),.c (.im (wkK m.waits m i).1.state.lives.length (flat (wkK m.waits m i).1.state.lives)),.c (.im (wkK m.waits m i).1.state.cs.length (flat (wkK m.waits m i).1.state.cs)),.arr 640007,.arr 640008]),(640007,.arr 0 99 17 (wkK m.waits m i).1.units.length (flat (wkK m.waits m i).1.units)),(640008,.arr 0 99 17 m.waits.length (flat m.waits)),(512,.arr 0 99 17 (wkK m.waits m i).2.1.length (flat (wkK m.waits m i).2.1))]) (fun i => m.waits.length - i) 0 (Wk_to [0,2,3,4] [(640000,640000),(640007,640007),(640008,640008),(512,512)] rfl rfl (by simp [wkK])) (by simp) ?_
  rintro i hi
  have hK:=wk_Ok hm hml i hi
  have eK:wkK m.waits m (i + 1) = if canM (wkK m.waits m i).1 (nth m.waits i) = true then (doneM (wkK m.waits m i).1 (nth m.waits i),(wkK m.waits m i).2.1,true)
    else if (doUnit (wkK m.waits m i).1.state (nth m.waits i)).2 = 1 then wkK m.waits m i else ((wkK m.waits m i).1,(wkK m.waits m i).2.1 ++ [nth m.waits i],(wkK m.waits m i).2.2):=rfl
  have wi:IntKind.i64.wrap ((i:Int) + 1) = i + 1:=wrap64 (by omega) (by omega)
  rcases Nat.lt_or_ge i m.waits.length with p1 | p1
  · have hu:=m4 _ (nth_mem p1)
    generalize wkK m.waits m i = c at *
    obtain ⟨c,left,sm⟩:=c
    simp only at hK eK
    obtain ⟨k1,k2,k3,k4,k5⟩:=hK
    have hcs:c.state.Ok:=by simp only [GLog.Ok] at k1; exact k1.1
    refine AW_of h229 TryzT_ok (by kernel_rfl) ?_
    simp -dsimp [p1,ne_of_lt p1]
    repeat (first|refine ⟨by omega,?_⟩|refine ⟨by simp [capMax];omega,?_⟩|refine ⟨⟨by omega,by omega⟩,?_⟩)
    refine ACallK_of (f100_ok c.state (nth m.waits i) hcs hu) ?_
    by_cases q1:(doUnit c.state (nth m.waits i)).2 = 0
    · by_cases q2:c.units.length < 60
      · have q2':(c.units.length:Int) < 60:=by omega
        have hc:canM c (nth m.waits i) = true:=by simp [canM,q1,q2]
        rw [if_pos hc] at eK
        simp -dsimp [q1,q2',p1,ne_of_lt p1]
        repeat (first|refine ⟨by omega,?_⟩|refine ⟨by simp [capMax];omega,?_⟩|refine ⟨⟨by omega,by omega⟩,?_⟩)
        refine ACallW_go ?_
        refine ACallC_go (fun us => f228_ok _ _ c.state c.time c.units (nth m.waits i) (doUnit c.state (nth m.waits i)).1 (by omega) hu (doUnit_ok hcs hu)) ?_
        simp -dsimp [wi]
        exact Back_of (i + 1) [0,2,3,4] [(640000,640000),(640007,3374),(640008,640008),(512,512)] rfl rfl (by simp [eK,doneM]) (by omega) (by omega)
      · have q2':¬ (c.units.length:Int) < 60:=by omega
        have hc:¬ canM c (nth m.waits i) = true:=by simp [canM,q2]
        have e1:¬ (doUnit c.state (nth m.waits i)).2 = 1:=by omega
        rw [if_neg hc,if_neg e1] at eK
        simp -dsimp [q1,q2',p1,ne_of_lt p1,wi]
        repeat (first|refine ⟨by omega,?_⟩|refine ⟨by simp [capMax];omega,?_⟩|refine ⟨⟨by omega,by omega⟩,?_⟩)
        exact Back_of (i + 1) [0,2,3,4] [(640000,640000),(640007,640007),(640008,640008),(512,4096)] rfl rfl (by simp [eK]) (by omega) (by omega)
    · have hc:¬ canM c (nth m.waits i) = true:=by simp [canM,q1]
      rw [if_neg hc] at eK
      have q1b:((doUnit c.state (nth m.waits i)).2 == 0) = false:=by simp [q1]
      by_cases q3:(doUnit c.state (nth m.waits i)).2 = 1
      · rw [if_pos q3] at eK
        simp -dsimp [q1b,q3,p1,ne_of_lt p1,wi]
        repeat (first|refine ⟨by omega,?_⟩|refine ⟨by simp [capMax];omega,?_⟩|refine ⟨⟨by omega,by omega⟩,?_⟩)
        exact Back_of (i + 1) [0,2,3,4] [(640000,640000),(640007,640007),(640008,640008),(512,512)] rfl rfl (by simp [eK]) (by omega) (by omega)
      · have q3b:((doUnit c.state (nth m.waits i)).2 != 1) = true:=by simp [q3]
        rw [if_neg q3] at eK
        simp -dsimp [q1b,q3b,p1,ne_of_lt p1,wi]
        repeat (first|refine ⟨by omega,?_⟩|refine ⟨by simp [capMax];omega,?_⟩|refine ⟨⟨by omega,by omega⟩,?_⟩)
        exact Back_of (i + 1) [0,2,3,4] [(640000,640000),(640007,640007),(640008,640008),(512,4096)] rfl rfl (by simp [eK]) (by omega) (by omega)
  · obtain rfl:i = m.waits.length:=by omega
    refine AW_of h229 TryzT_ok (by kernel_rfl) ?_
    simp -dsimp
    exact Back_of ⟨g,passM m,someM m⟩ [0,2] [(640000,640000),(640007,640007),(640008,512)] rfl rfl (by simp [passM,someM]) hN (by simp [wsM]; split <;> omega)
end Am
namespace Am
open Go Go.Proofs
open Cel (cells)
set_option maxRecDepth 100000
theorem delta_eq {a b:GDelta}:decide (a = b) = (decide (a.base = b.base) && decide (a.dead = b.dead) && decide ((⟨a.know,a.tallies,a.lives,a.cs⟩:GState) = ⟨b.know,b.tallies,b.lives,b.cs⟩)):=by
  rw [Bool.eq_iff_iff]
  simp only [Bool.and_eq_true,decide_eq_true_eq,GDelta.ext_iff,GState.mk.injEq]
  constructor
  · rintro ⟨h0,h1,h2,h3,h4,h5⟩; exact ⟨⟨h0,h4⟩,h1,h2,h3,h5⟩
  · rintro ⟨⟨h0,h4⟩,h1,h2,h3,h5⟩; exact ⟨h0,h1,h2,h3,h4,h5⟩
@[simp] def h220:Hts:={ merge:=fun _ => false,mergeF:=fun _ => false,dr:=fun id => if id = 6 then [{},{},{},{},{},{},{},{},{},{},{}] else [] }
set_option maxHeartbeats 4000000 in
theorem f220_ok (a b:GDelta) (ha:a.Ok):FnR Tryz.prog 220 [.agg [.im a.base.length (flat a.base),.im a.know.length (flat a.know),.im a.tallies.length (flat a.tallies),.im a.lives.length (flat a.lives),.im a.dead.length (flat a.dead),.im a.cs.length (flat a.cs)],.agg [.im b.base.length (flat b.base),.im b.know.length (flat b.know),.im b.tallies.length (flat b.tallies),.im b.lives.length (flat b.lives),.im b.dead.length (flat b.dead),.im b.cs.length (flat b.cs)]] (.v (.bool (decide (a = b)))):=by
  simp only [GDelta.Ok] at ha
  obtain ⟨o0,o1,o2,o3,o4,o5,o6,o7,o8⟩:=ha
  refine FnW.of_AW TryzT_ok 0 (fn:=Tryz.f220) (by kernel_rfl) rfl (by kernel_rfl) rfl rfl rfl ?_; refine AW_of h220 TryzT_ok (by kernel_rfl) ?_
  simp -dsimp
  refine ACallK_of (f146_ok a.base b.base o0) ?_
  by_cases e0:a.base = b.base
  case neg =>
    simp -dsimp [eq_false e0]
    exact fun h => e0 (by rw [h])
  by_cases e1:a.dead.length = b.dead.length
  case neg =>
    have e1':¬ (a.dead.length:Int) = b.dead.length:=by omega
    simp -dsimp [eq_true e0,e1']
    have:¬ a.dead = b.dead:=fun h => e1 (by rw [h])
    exact fun h => this (by rw [h])
  have e1':(a.dead.length:Int) = b.dead.length:=by omega
  simp -dsimp [eq_true e0,eq_true e1']
  refine AWh_loop (fun i:Nat => i ≤ a.dead.length ∧ ∀ j:Nat,j < i → nth a.dead j = nth b.dead j) (fun i => mkE [(2,.box 128 0),(3,.box 192 0),(5,.c (.int .i64 i))] [(128,.box [.c (.im a.base.length (flat a.base)),.c (.im a.know.length (flat a.know)),.c (.im a.tallies.length (flat a.tallies)),.c (.im a.lives.length (flat a.lives)),.c (.im a.dead.length (flat a.dead)),.c (.im a.cs.length (flat a.cs))]),(192,.box [.c (.im b.base.length (flat b.base)),.c (.im b.know.length (flat b.know)),.c (.im b.tallies.length (flat b.tallies)),.c (.im b.lives.length (flat b.lives)),.c (.im b.dead.length (flat b.dead)),.c (.im b.cs.length (flat b.cs))])]) (fun i => a.dead.length - i) 0 (Wk_to [2,3,5] [(128,128),(192,192)] rfl rfl (by simp)) (by simp) ?_
  rintro i ⟨hi,hall⟩
  refine AW_of h220 TryzT_ok (by kernel_rfl) ?_
  have wi:IntKind.i64.wrap ((i:Int) + 1) = i + 1:=wrap64 (by omega) (by omega)
  rcases Nat.lt_or_ge i a.dead.length with h1 | h1
  · have h2:i < b.dead.length:=by omega
    simp -dsimp [h1,h2,ne_of_lt h1,ne_of_lt h2,wi]
    repeat (first|refine ⟨by omega,?_⟩|refine ⟨by simp [capMax];omega,?_⟩|refine ⟨⟨by omega,by omega⟩,?_⟩)
    refine ⟨fun hne h => ?_,fun q1 q2 => ?_⟩
    · rw [h] at hne
      simp at hne
    · exact Back_of (i + 1) [2,3,5] [(128,128),(192,192)] rfl rfl (by simp) ⟨by omega,fun j hj => by
        by_cases e:j = i
        · subst e; exact GDot.ext q1 q2
        · exact hall j (by omega)⟩ (by omega)
  · obtain rfl:i = a.dead.length:=by omega
    have hd:a.dead = b.dead:=list_eq_of_nth e1 hall
    simp -dsimp [h1]
    refine ACallK_of (f23_ok ⟨a.know,a.tallies,a.lives,a.cs⟩ ⟨b.know,b.tallies,b.lives,b.cs⟩ (by simp only [GState.Ok]; exact ⟨o1,o2,o3,o4,o5,o7,o8⟩)) ?_
    simp -dsimp
    first
      | (rw [delta_eq]; simp [e0,hd])
      | simp [GDelta.ext_iff,e0,hd]
@[simp] def h81:Hts:={ merge:=fun _ => false,mergeF:=fun _ => false }
set_option maxHeartbeats 2000000 in
theorem f81_ok (a b:GUnit) (ha:a.Ok):FnR Tryz.prog 81 [.agg [.bool a.batch,.int .i64 a.act.dot.rep,.int .i64 a.act.dot.seq,.int .i64 a.act.time,.im a.act.knew.length (flat a.act.knew),.int .i64 a.act.kind,.str a.act.obj,.str a.act.key,.int .i64 a.act.val,.int .i64 a.act.ref.rep,.int .i64 a.act.ref.seq,.im a.delta.base.length (flat a.delta.base),.im a.delta.know.length (flat a.delta.know),.im a.delta.tallies.length (flat a.delta.tallies),.im a.delta.lives.length (flat a.delta.lives),.im a.delta.dead.length (flat a.delta.dead),.im a.delta.cs.length (flat a.delta.cs)],.agg [.bool b.batch,.int .i64 b.act.dot.rep,.int .i64 b.act.dot.seq,.int .i64 b.act.time,.im b.act.knew.length (flat b.act.knew),.int .i64 b.act.kind,.str b.act.obj,.str b.act.key,.int .i64 b.act.val,.int .i64 b.act.ref.rep,.int .i64 b.act.ref.seq,.im b.delta.base.length (flat b.delta.base),.im b.delta.know.length (flat b.delta.know),.im b.delta.tallies.length (flat b.delta.tallies),.im b.delta.lives.length (flat b.delta.lives),.im b.delta.dead.length (flat b.delta.dead),.im b.delta.cs.length (flat b.delta.cs)]] (.v (.bool (decide (a = b)))):=by
  simp only [GUnit.Ok] at ha
  refine FnW.of_AW TryzT_ok 0 (fn:=Tryz.f81) (by kernel_rfl) rfl (by kernel_rfl) rfl rfl rfl ?_; refine AW_of h81 TryzT_ok (by kernel_rfl) ?_
  by_cases e0:a.batch = b.batch
  case neg =>
    have e0':(a.batch == b.batch) = false:=by simp [e0]
    simp -dsimp [e0']
    exact fun h => e0 (by rw [h])
  have e0':(a.batch == b.batch) = true:=by simp [e0]
  simp -dsimp [e0']
  refine ACallK_of (f34_ok _ _ ha.1) ?_
  by_cases e1:a.act = b.act
  case neg =>
    simp -dsimp [eq_false e1,e0']
    exact fun h => e1 (by rw [h])
  simp -dsimp [eq_true e1,e0']
  refine ACallK_of (f220_ok _ _ ha.2) ?_
  simp -dsimp
  simp [GUnit.ext_iff,e0,e1]
end Am
namespace Am
open Go Go.Proofs
open Cel (cells)
set_option maxRecDepth 100000
def thereK (l:GLog) (u:GUnit):Nat → Bool
  | 0 => decide ((6:Int) ≤ l.waits.length)
  | i + 1 => thereK l u i || decide (nth l.waits i = u)
theorem thereK_iff (l:GLog) (u:GUnit):∀ i:Nat,i ≤ l.waits.length → (thereK l u i = true ↔ 6 ≤ l.waits.length ∨ ∃ j:Nat,j < i ∧ nth l.waits j = u)
  | 0,_ => by simp [thereK]; omega
  | i + 1,hi => by
    have ih:=thereK_iff l u i (by omega)
    simp only [thereK,Bool.or_eq_true,decide_eq_true_eq,ih]
    constructor
    · rintro ((h | ⟨j,hj,e⟩) | e)
      · exact .inl h
      · exact .inr ⟨j,by omega,e⟩
      · exact .inr ⟨i,by omega,e⟩
    · rintro (h | ⟨j,hj,e⟩)
      · exact .inl (.inl h)
      · by_cases e2:j = i
        · subst e2; exact .inr e
        · exact .inl (.inr ⟨j,by omega,e⟩)
theorem thereK_note (l:GLog) (u:GUnit):thereK l u l.waits.length = true ↔ (6 ≤ l.waits.length ∨ u ∈ l.waits):=by
  rw [thereK_iff l u _ (Nat.le_refl _)]
  constructor
  · rintro (h | ⟨j,hj,rfl⟩)
    · exact .inl h
    · exact .inr (nth_mem hj)
  · rintro (h | h)
    · exact .inl h
    · obtain ⟨j,hj,e⟩:=mem_nth h
      exact .inr ⟨j,hj,e⟩
theorem wakeM_rep:∀ (f:Nat) (l:GLog),(wakeM f l).rep = l.rep
  | 0,_ => rfl
  | f + 1,l => by
    rw [wakeM]
    split
    · rw [wakeM_rep f,pass_rep]
    · exact pass_rep l
theorem wake_rep (l:GLog) (u:GUnit):(wake (doneM l u)).rep = l.rep:=wakeM_rep _ _
@[simp] def h88:Hts:={ merge:=fun _ => false,mergeF:=fun _ => false,own:=fun d => !(d == 26 || d == 57),lend:=fun f => if f = 228 then [.box [0,7]] else if f = 229 then [.box [0]] else [],dr:=fun id => if id = 10 then [{},{},{},{},{},{},{},{},{ cr:=true },{},{}] else if id = 12 then [{ mb:=[57,58] },{ mb:=[57,58] },{},{ cr:=true },{ cr:=true },{ wr:=[3520,775],cr:=true },{ wr:=[384] },{ wr:=[384] }] else [] }
set_option maxHeartbeats 16000000 in
theorem heardS (l:GLog) (u:GUnit) (h:l.Ok) (hu:u.Ok):FnR Tryz.prog 88 [.agg [.int .i64 l.rep,.int .i64 l.time,.im l.state.know.length (flat l.state.know),.im l.state.tallies.length (flat l.state.tallies),.im l.state.lives.length (flat l.state.lives),.im l.state.cs.length (flat l.state.cs),.im l.units.length (flat l.units),.im l.waits.length (flat l.waits)],.agg [.bool u.batch,.int .i64 u.act.dot.rep,.int .i64 u.act.dot.seq,.int .i64 u.act.time,.im u.act.knew.length (flat u.act.knew),.int .i64 u.act.kind,.str u.act.obj,.str u.act.key,.int .i64 u.act.val,.int .i64 u.act.ref.rep,.int .i64 u.act.ref.seq,.im u.delta.base.length (flat u.delta.base),.im u.delta.know.length (flat u.delta.know),.im u.delta.tallies.length (flat u.delta.tallies),.im u.delta.lives.length (flat u.delta.lives),.im u.delta.dead.length (flat u.delta.dead),.im u.delta.cs.length (flat u.delta.cs)]] (.tup [.agg [.int .i64 (heardM l u).1.rep,.int .i64 (heardM l u).1.time,.im ((heardM l u).1.state).know.length (flat ((heardM l u).1.state).know),.im ((heardM l u).1.state).tallies.length (flat ((heardM l u).1.state).tallies),.im ((heardM l u).1.state).lives.length (flat ((heardM l u).1.state).lives),.im ((heardM l u).1.state).cs.length (flat ((heardM l u).1.state).cs),.ow 99 17 (heardM l u).1.units.length (flat (heardM l u).1.units),.ow 99 17 (heardM l u).1.waits.length (flat (heardM l u).1.waits)],.v (.int .i64 ((heardM l u).2))]):=by
  have hl:=h
  simp only [GLog.Ok] at hl
  obtain ⟨h0,h1,h2,h3,h4⟩:=hl
  refine FnW.of_AW TryzT_ok 0 (fn:=Tryz.f88) (by kernel_rfl) rfl (by kernel_rfl) rfl rfl rfl ?_; refine AW_of h88 TryzT_ok (by kernel_rfl) ?_
  simp -dsimp
  refine ACallK_of (copyLogS l h) ?_
  simp -dsimp
  refine ACallK_of (f211_ok _ hu) ?_
  cases c1:unitOk u
  · simp -dsimp
    simp [heardM,c1]
  simp -dsimp
  refine ACallK_of (f103_ok _ h) ?_
  cases c2:logOk l
  · simp -dsimp
    simp [heardM,c2]
  have hL:=logOk_iff.1 c2
  have l6:=hL.w
  have l60:=hL.u
  simp -dsimp
  refine ACallK_of (f100_ok _ _ h0 hu) ?_
  by_cases q2:(doUnit l.state u).2 = 2
  · have e:heardM l u = (noteM l u,2):=by simp [heardM,c1,c2,q2]
    simp -dsimp [q2]
    refine AWh_loop (fun i:Nat => i ≤ l.waits.length) (fun i => mkE [(2,.box 128 0),(3,.box 192 0),(4,.box 256 0),(6,.box 384 0),(7,.box 448 0),(8,.c (.int .i64 2)),(9,.c (.bool (thereK l u i))),(10,.c (.int .i64 i))] [(128,.box [.c (.int .i64 l.rep),.c (.int .i64 l.time),.c (.im l.state.know.length (flat l.state.know)),.c (.im l.state.tallies.length (flat l.state.tallies)),.c (.im l.state.lives.length (flat l.state.lives)),.c (.im l.state.cs.length (flat l.state.cs)),.c (.im l.units.length (flat l.units)),.c (.im l.waits.length (flat l.waits))]),(192,.box [.c (.bool u.batch),.c (.int .i64 u.act.dot.rep),.c (.int .i64 u.act.dot.seq),.c (.int .i64 u.act.time),.c (.im u.act.knew.length (flat u.act.knew)),.c (.int .i64 u.act.kind),.c (.str u.act.obj),.c (.str u.act.key),.c (.int .i64 u.act.val),.c (.int .i64 u.act.ref.rep),.c (.int .i64 u.act.ref.seq),.c (.im u.delta.base.length (flat u.delta.base)),.c (.im u.delta.know.length (flat u.delta.know)),.c (.im u.delta.tallies.length (flat u.delta.tallies)),.c (.im u.delta.lives.length (flat u.delta.lives)),.c (.im u.delta.dead.length (flat u.delta.dead)),.c (.im u.delta.cs.length (flat u.delta.cs))]),(256,.box [.c (.int .i64 0),.c (.int .i64 0),.nil,.nil,.nil,.nil,.nil,.nil]),(384,.box [.c (.int .i64 l.rep),.c (.int .i64 l.time),.c (.im l.state.know.length (flat l.state.know)),.c (.im l.state.tallies.length (flat l.state.tallies)),.c (.im l.state.lives.length (flat l.state.lives)),.c (.im l.state.cs.length (flat l.state.cs)),.arr 774,.arr 775]),(774,.arr 0 99 17 l.units.length (flat l.units)),(775,.arr 0 99 17 l.waits.length (flat l.waits)),(448,.box [.c (.im ((doUnit l.state u).1).know.length (flat ((doUnit l.state u).1).know)),.c (.im ((doUnit l.state u).1).tallies.length (flat ((doUnit l.state u).1).tallies)),.c (.im ((doUnit l.state u).1).lives.length (flat ((doUnit l.state u).1).lives)),.c (.im ((doUnit l.state u).1).cs.length (flat ((doUnit l.state u).1).cs))])]) (fun i => l.waits.length - i) 0 (Wk_to [2,3,4,6,7,8,9,10] [(128,128),(192,192),(256,256),(384,384),(774,774),(775,775),(448,448)] rfl rfl (by simp [thereK])) (by simp) ?_
    rintro i hi
    refine AW_of h88 TryzT_ok (by kernel_rfl) ?_
    have wi:IntKind.i64.wrap ((i:Int) + 1) = i + 1:=wrap64 (by omega) (by omega)
    rcases Nat.lt_or_ge i l.waits.length with p1 | p1
    · cases g:thereK l u i
      · simp -dsimp [p1,ne_of_lt p1]
        repeat (first|refine ⟨by omega,?_⟩|refine ⟨by simp [capMax];omega,?_⟩|refine ⟨⟨by omega,by omega⟩,?_⟩)
        refine ACallK_of (f81_ok _ _ (h4 _ (nth_mem p1))) ?_
        simp -dsimp [wi]
        exact Back_of (i + 1) [2,3,4,6,7,8,9,10] [(128,128),(192,192),(256,256),(384,384),(774,774),(775,775),(448,448)] rfl rfl (by simp [thereK,g]) (by omega) (by omega)
      · simp -dsimp [p1,ne_of_lt p1,wi]
        exact Back_of (i + 1) [2,3,4,6,7,8,9,10] [(128,128),(192,192),(256,256),(384,384),(774,774),(775,775),(448,448)] rfl rfl (by simp [thereK,g]) (by omega) (by omega)
    obtain rfl:i = l.waits.length:=by omega
    have hn:=thereK_note l u
    cases g:thereK l u l.waits.length
    · rw [g] at hn
      have e2:noteM l u = { l with waits:=l.waits ++ [u] }:=by
        unfold noteM
        rw [if_neg (fun hc => by have:=hn.2 hc; cases this)]
      simp -dsimp
      refine ACallK_of (f225_ok _ hu) ?_
      simp -dsimp
      refine ⟨by simp [capMax]; omega,?_⟩
      simp [e,e2]
    · rw [g] at hn
      have e2:noteM l u = l:=by
        unfold noteM
        rw [if_pos (hn.1 rfl)]
      simp -dsimp
      simp [e,e2]
  by_cases q0:(doUnit l.state u).2 = 0
  case neg =>
    have b2:((doUnit l.state u).2 == 2) = false:=by simp [q2]
    have b0:((doUnit l.state u).2 != 0) = true:=by simp [q0]
    have e:heardM l u = (l,(doUnit l.state u).2):=by simp [heardM,c1,c2,q2,q0]
    simp -dsimp [b2,b0]
    simp [e]
  by_cases q6:l.units.length < 60
  case neg =>
    have q6':(60:Int) ≤ l.units.length:=by omega
    have q6n:60 ≤ l.units.length:=by omega
    have e:heardM l u = (l,4):=by simp [heardM,c1,c2,q0,q6n]
    simp -dsimp [q0,q6']
    simp [e]
  have q6':¬ (60:Int) ≤ l.units.length:=by omega
  have e:heardM l u = (wake (doneM l u),0):=by
    have:¬ 60 ≤ l.units.length:=by omega
    simp [heardM,c1,c2,q0,this]
  have hd:=doneM_Ok h hu (by omega)
  have hdl:(doneM l u).units.length ≤ 60:=by simp only [doneM,List.length_append,List.length_singleton]; omega
  rw [e]
  simp -dsimp [q0,q6']
  refine ACallW_go ?_
  refine ACallC_go (fun us => f228_ok _ _ l.state l.time l.units u (doUnit l.state u).1 (by omega) hu (doUnit_ok h0 hu)) ?_
  simp -dsimp
  have hw:∀ u0:Value,FnW Tryz.prog 229 [.ptr [.tk u0,.int .i64 (max l.time (unitTime u)),.im ((doUnit l.state u).1).know.length (flat ((doUnit l.state u).1).know),.im ((doUnit l.state u).1).tallies.length (flat ((doUnit l.state u).1).tallies),.im ((doUnit l.state u).1).lives.length (flat ((doUnit l.state u).1).lives),.im ((doUnit l.state u).1).cs.length (flat ((doUnit l.state u).1).cs),.ow 99 17 (l.units.length + 1) (flat (l.units ++ [u])),.ow 99 17 l.waits.length (flat l.waits)]] (.tup []) [.ptr [.tk u0,.int .i64 (wake (doneM l u)).time,.im ((wake (doneM l u)).state).know.length (flat ((wake (doneM l u)).state).know),.im ((wake (doneM l u)).state).tallies.length (flat ((wake (doneM l u)).state).tallies),.im ((wake (doneM l u)).state).lives.length (flat ((wake (doneM l u)).state).lives),.im ((wake (doneM l u)).state).cs.length (flat ((wake (doneM l u)).state).cs),.ow 99 17 (wake (doneM l u)).units.length (flat (wake (doneM l u)).units),.ow 99 17 (wake (doneM l u)).waits.length (flat (wake (doneM l u)).waits)]]:=fun u0 => by
    have hh:=f229_ok u0 (doneM l u) hd hdl
    rw [show (doneM l u).units.length = l.units.length + 1 from by simp [doneM]] at hh
    exact hh
  refine ACallW_go ?_
  refine ACallC_go (fun us => hw _) ?_
  simp -dsimp
  simp [wake_rep]
theorem f88_ok (l:GLog) (u:GUnit) (h:l.Ok) (hu:u.Ok):FnR Tryz.prog 88 [.agg [.int .i64 l.rep,.int .i64 l.time,.im l.state.know.length (flat l.state.know),.im l.state.tallies.length (flat l.state.tallies),.im l.state.lives.length (flat l.state.lives),.im l.state.cs.length (flat l.state.cs),.im l.units.length (flat l.units),.im l.waits.length (flat l.waits)],.agg [.bool u.batch,.int .i64 u.act.dot.rep,.int .i64 u.act.dot.seq,.int .i64 u.act.time,.im u.act.knew.length (flat u.act.knew),.int .i64 u.act.kind,.str u.act.obj,.str u.act.key,.int .i64 u.act.val,.int .i64 u.act.ref.rep,.int .i64 u.act.ref.seq,.im u.delta.base.length (flat u.delta.base),.im u.delta.know.length (flat u.delta.know),.im u.delta.tallies.length (flat u.delta.tallies),.im u.delta.lives.length (flat u.delta.lives),.im u.delta.dead.length (flat u.delta.dead),.im u.delta.cs.length (flat u.delta.cs)]] (.tup [.agg [.int .i64 ((heardM l u).1).rep,.int .i64 ((heardM l u).1).time,.im ((heardM l u).1).state.know.length (flat ((heardM l u).1).state.know),.im ((heardM l u).1).state.tallies.length (flat ((heardM l u).1).state.tallies),.im ((heardM l u).1).state.lives.length (flat ((heardM l u).1).state.lives),.im ((heardM l u).1).state.cs.length (flat ((heardM l u).1).state.cs),.im ((heardM l u).1).units.length (flat ((heardM l u).1).units),.im ((heardM l u).1).waits.length (flat ((heardM l u).1).waits)],.v (.int .i64 ((heardM l u).2))]):=by
  have:=FnW.wk [[0,0,0,0,0,0,1,1],[0]] (heardS l u h hu)
  simp [wkR,wkCs,wkC,wkPs,wkP,frz,flat_frzO] at this
  exact this
@[simp] def h96:Hts:={ merge:=fun _ => false,mergeF:=fun _ => false,own:=fun d => !(d == 28 || d == 40 || d == 62),dr:=fun id => if id = 12 then [{ mb:=[62,64] },{ mb:=[62,64] },{},{ cr:=true },{},{ cr:=true },{ wr:=[3840,838],cr:=true },{ wr:=[448] },{ wr:=[448] }] else if id = 13 then [{},{ mn:=[256] },{ mn:=[256] },{ wr:=[256] },{ wr:=[320] },{}] else [] }
set_option maxHeartbeats 16000000 in
theorem editedS (l:GLog) (e:GEdit) (h:l.Ok) (o1:e.obj.size ≤ 1073741824) (o2:e.key.size ≤ 1073741824) (o3:e.place ≤ 9223372036854775807):FnR Tryz.prog 96 [.agg [.int .i64 l.rep,.int .i64 l.time,.im l.state.know.length (flat l.state.know),.im l.state.tallies.length (flat l.state.tallies),.im l.state.lives.length (flat l.state.lives),.im l.state.cs.length (flat l.state.cs),.im l.units.length (flat l.units),.im l.waits.length (flat l.waits)],.agg [.int .i64 e.kind,.str e.obj,.str e.key,.int .i64 e.val,.int .i64 e.place]] (.tup [.agg [.int .i64 (editedM l e).1.rep,.int .i64 (editedM l e).1.time,.im ((editedM l e).1.state).know.length (flat ((editedM l e).1.state).know),.im ((editedM l e).1.state).tallies.length (flat ((editedM l e).1.state).tallies),.im ((editedM l e).1.state).lives.length (flat ((editedM l e).1.state).lives),.im ((editedM l e).1.state).cs.length (flat ((editedM l e).1.state).cs),.ow 99 17 (editedM l e).1.units.length (flat (editedM l e).1.units),.ow 99 17 (editedM l e).1.waits.length (flat (editedM l e).1.waits)],.agg [.bool ((editedM l e).2.1).batch,.int .i64 ((editedM l e).2.1).act.dot.rep,.int .i64 ((editedM l e).2.1).act.dot.seq,.int .i64 ((editedM l e).2.1).act.time,.im ((editedM l e).2.1).act.knew.length (flat ((editedM l e).2.1).act.knew),.int .i64 ((editedM l e).2.1).act.kind,.str ((editedM l e).2.1).act.obj,.str ((editedM l e).2.1).act.key,.int .i64 ((editedM l e).2.1).act.val,.int .i64 ((editedM l e).2.1).act.ref.rep,.int .i64 ((editedM l e).2.1).act.ref.seq,.im ((editedM l e).2.1).delta.base.length (flat ((editedM l e).2.1).delta.base),.im ((editedM l e).2.1).delta.know.length (flat ((editedM l e).2.1).delta.know),.im ((editedM l e).2.1).delta.tallies.length (flat ((editedM l e).2.1).delta.tallies),.im ((editedM l e).2.1).delta.lives.length (flat ((editedM l e).2.1).delta.lives),.im ((editedM l e).2.1).delta.dead.length (flat ((editedM l e).2.1).delta.dead),.im ((editedM l e).2.1).delta.cs.length (flat ((editedM l e).2.1).delta.cs)],.v (.int .i64 ((editedM l e).2.2))]):=by
  have hl:=h
  simp only [GLog.Ok] at hl
  obtain ⟨h0,h1,h2,h3,h4⟩:=hl
  refine FnW.of_AW TryzT_ok 0 (fn:=Tryz.f96) (by kernel_rfl) rfl (by kernel_rfl) rfl rfl rfl ?_; refine AW_of h96 TryzT_ok (by kernel_rfl) ?_
  simp -dsimp
  refine ACallK_of (copyLogS l h) ?_
  simp -dsimp
  refine ACallK_of (f103_ok _ h) ?_
  cases c2:logOk l
  · simp -dsimp
    simp [editedM,c2,actU,zeroAct,zeroDelta]
  have hL:=logOk_iff.1 c2
  have l60:=hL.u
  have t0:=hL.t0
  have t1:=hL.t1
  have r0:=hL.r0
  have r1:=hL.r1
  have wt:IntKind.i64.wrap (l.time + 1) = l.time + 1:=wrap64 (by omega) (by omega)
  simp -dsimp [wt]
  refine ACallK_of (f32_ok l.state l.rep (l.time + 1) e h0 (by omega) (by omega) (by omega)) ?_
  have hAo:(actOf l.state l.rep (l.time + 1) e).1.Ok:=actOf_ok h0 o1 o2
  by_cases q:(actOf l.state l.rep (l.time + 1) e).2 = 0
  case neg =>
    have b:((actOf l.state l.rep (l.time + 1) e).2 != 0) = true:=by simp [q]
    have ee:editedM l e = (l,actU zeroAct,(actOf l.state l.rep (l.time + 1) e).2):=by simp [editedM,c2,q]
    simp -dsimp [b]
    simp [ee,actU,zeroAct,zeroDelta]
  simp -dsimp [q]
  refine ACallK_of (f37_ok _ _ h0 hAo) ?_
  by_cases d:(doAct l.state (actOf l.state l.rep (l.time + 1) e).1).2 = 0
  case neg =>
    have b:((doAct l.state (actOf l.state l.rep (l.time + 1) e).1).2 != 0) = true:=by simp [d]
    have ee:editedM l e = (l,actU zeroAct,4):=by simp [editedM,c2,q,d]
    simp -dsimp [b]
    simp [ee,actU,zeroAct,zeroDelta]
  by_cases q6:l.units.length < 60
  case neg =>
    have q6':(60:Int) ≤ l.units.length:=by omega
    have q6n:60 ≤ l.units.length:=by omega
    have ee:editedM l e = (l,actU zeroAct,4):=by simp [editedM,c2,q,q6n]
    simp -dsimp [d,q6']
    simp [ee,actU,zeroAct,zeroDelta]
  have q6':¬ (60:Int) ≤ l.units.length:=by omega
  have q6n:¬ 60 ≤ l.units.length:=by omega
  simp -dsimp [d,q6',wt]
  refine ACallK_of (f235_ok _ hAo) ?_
  simp -dsimp
  refine ⟨by simp [capMax]; omega,?_⟩
  simp [editedM,c2,q,d,q6n,actU,zeroDelta]
  rw [flat_append]
  rfl
theorem f96_ok (l:GLog) (e:GEdit) (h:l.Ok) (o1:e.obj.size ≤ 1073741824) (o2:e.key.size ≤ 1073741824) (o3:e.place ≤ 9223372036854775807):FnR Tryz.prog 96 [.agg [.int .i64 l.rep,.int .i64 l.time,.im l.state.know.length (flat l.state.know),.im l.state.tallies.length (flat l.state.tallies),.im l.state.lives.length (flat l.state.lives),.im l.state.cs.length (flat l.state.cs),.im l.units.length (flat l.units),.im l.waits.length (flat l.waits)],.agg [.int .i64 e.kind,.str e.obj,.str e.key,.int .i64 e.val,.int .i64 e.place]] (.tup [.agg [.int .i64 ((editedM l e).1).rep,.int .i64 ((editedM l e).1).time,.im ((editedM l e).1).state.know.length (flat ((editedM l e).1).state.know),.im ((editedM l e).1).state.tallies.length (flat ((editedM l e).1).state.tallies),.im ((editedM l e).1).state.lives.length (flat ((editedM l e).1).state.lives),.im ((editedM l e).1).state.cs.length (flat ((editedM l e).1).state.cs),.im ((editedM l e).1).units.length (flat ((editedM l e).1).units),.im ((editedM l e).1).waits.length (flat ((editedM l e).1).waits)],.agg [.bool ((editedM l e).2.1).batch,.int .i64 ((editedM l e).2.1).act.dot.rep,.int .i64 ((editedM l e).2.1).act.dot.seq,.int .i64 ((editedM l e).2.1).act.time,.im ((editedM l e).2.1).act.knew.length (flat ((editedM l e).2.1).act.knew),.int .i64 ((editedM l e).2.1).act.kind,.str ((editedM l e).2.1).act.obj,.str ((editedM l e).2.1).act.key,.int .i64 ((editedM l e).2.1).act.val,.int .i64 ((editedM l e).2.1).act.ref.rep,.int .i64 ((editedM l e).2.1).act.ref.seq,.im ((editedM l e).2.1).delta.base.length (flat ((editedM l e).2.1).delta.base),.im ((editedM l e).2.1).delta.know.length (flat ((editedM l e).2.1).delta.know),.im ((editedM l e).2.1).delta.tallies.length (flat ((editedM l e).2.1).delta.tallies),.im ((editedM l e).2.1).delta.lives.length (flat ((editedM l e).2.1).delta.lives),.im ((editedM l e).2.1).delta.dead.length (flat ((editedM l e).2.1).delta.dead),.im ((editedM l e).2.1).delta.cs.length (flat ((editedM l e).2.1).delta.cs)],.v (.int .i64 ((editedM l e).2.2))]):=by
  have:=FnW.wk [[0,0,0,0,0,0,1,1],[],[0]] (editedS l e h o1 o2 o3)
  simp [wkR,wkCs,wkC,wkPs,wkP,frz,flat_frzO] at this
  exact this
end Am
namespace Am
open Go Go.Proofs
open Cel (cells)
set_option maxRecDepth 100000
@[simp] def h328:Hts:={ merge:=fun _ => false }
theorem f328_ok (r:Int):FnR Tryz.prog 328 [.v (.int .i64 r)] (.agg [.int .i64 (logNew r).rep,.int .i64 (logNew r).time,.ow 3 1 (logNew r).state.know.length (flat (logNew r).state.know),.ow 179 3 (logNew r).state.tallies.length (flat (logNew r).state.tallies),.ow 159 6 (logNew r).state.lives.length (flat (logNew r).state.lives),.ow 72 8 (logNew r).state.cs.length (flat (logNew r).state.cs),.ow 99 17 (logNew r).units.length (flatO (logNew r).units),.ow 99 17 (logNew r).waits.length (flatO (logNew r).waits)]):=by
  rw [logNew]
  refine FnW.of_AW TryzT_ok 0 (fn:=Tryz.f328) (by kernel_rfl) rfl (by kernel_rfl) rfl rfl rfl ?_; refine AW_of h328 TryzT_ok (by kernel_rfl) ?_
  simp -dsimp
  refine ACallK_of (f118_ok) ?_
  simp -dsimp [stateNew]
def newsK:Nat → List GLog
  | 0 => []
  | i + 1 => newsK i ++ [logNew i]
def listL (p:G3):List GLog:=[p.1,p.2.1,p.2.2]
theorem listL_get (p:G3) {r:Nat} (h:r < 3):nth (listL p) r = getL r p:=by
  have:r = 0 ∨ r = 1 ∨ r = 2:=by omega
  rcases this with rfl | rfl | rfl <;> rfl
theorem listL_put (p:G3) {r:Nat} (h:r < 3) (x:GLog):(listL p).set r x = listL (putL r p x):=by
  have:r = 0 ∨ r = 1 ∨ r = 2:=by omega
  rcases this with rfl | rfl | rfl <;> rfl
@[simp] def h226:Hts:={ merge:=fun _ => false,mergeF:=fun _ => false,own:=fun d => !(d == 17 || d == 54 || d == 67),lend:=fun f => if f = 117 || f = 130 || f = 155 then [.box []] else [],dr:=fun id => if id = 13 then [{ mn:=[640000],mb:=[51,54] },{ mn:=[640000],mb:=[51,54] },{ mn:=[640000],mb:=[51] },{ mn:=[640000],mb:=[51] },{ mn:=[640000],mb:=[51] },{ mn:=[640000],mb:=[51] },{ mn:=[640000],mb:=[51] },{ mn:=[640000],mb:=[51] },{},{},{},{},{ wr:=[640000],cr:=true },{},{},{ cr:=true },{},{},{ mn:=[320] },{ wr:=[320] },{ wr:=[320] }] else if id = 14 then [{ mn:=[640000],mb:=[66,67] },{ mn:=[640000],mb:=[66,67] },{ mn:=[640000],mb:=[66] },{ mn:=[640000],mb:=[66] },{ mn:=[640000],mb:=[66] },{ mn:=[640000],mb:=[66] },{},{ wr:=[640000],cr:=true },{ cr:=true },{},{},{ mn:=[320] },{ mn:=[320] },{ wr:=[320] },{ wr:=[320] }] else [] }
set_option maxHeartbeats 16000000 in
theorem f226_ok (c:GCur) (hc:c.Ok) (n:Nat) (hn:n ≤ 60):FnW Tryz.prog 226 [.ptr [.im c.b.length (flat c.b),.int .i64 c.i,.int .i64 c.h],.v (.int .i64 n)] (.v (.ow 106 8 3 (flat (listL (logsK c n).lg)))) [.ptr [.im ((logsK c n).c).b.length (flat ((logsK c n).c).b),.int .i64 ((logsK c n).c).i,.int .i64 ((logsK c n).c).h],.any]:=by
  refine FnW.of_AW TryzT_ok 1 (fn:=Tryz.f226) (by kernel_rfl) rfl (by kernel_rfl) rfl rfl rfl ?_; refine AW_of h226 TryzT_ok (by kernel_rfl) ?_
  simp -dsimp
  refine AWh_loop (fun i:Nat => i ≤ 3) (fun i => mkE [(0,.box 640000 0),(1,.c (.int .i64 n)),(5,.arr 640),(6,.c (.int .i64 i))] [(640000,.box [.c (.im c.b.length (flat c.b)),.c (.int .i64 c.i),.c (.int .i64 c.h)]),(640,.arr 0 106 8 i (flat (newsK i)))]) (fun i => 3 - i) 0 (Wk_to [0,1,5,6] [(640000,640000),(640,640)] rfl rfl (by simp [newsK])) (by simp) ?_
  rintro i hi
  refine AW_of h226 TryzT_ok (by kernel_rfl) ?_
  have wi:IntKind.i64.wrap ((i:Int) + 1) = i + 1:=wrap64 (by omega) (by omega)
  rcases Nat.lt_or_ge i 3 with p1 | p1
  · have p1':(i:Int) < 3:=by omega
    simp -dsimp [p1']
    refine ACallK_of (f328_ok i) ?_
    simp -dsimp [wi]
    refine ⟨by simp [capMax]; omega,?_⟩
    exact Back_of (i + 1) [0,1,5,6] [(640000,640000),(640,1216)] rfl rfl (by simp [newsK,flat_append]) (by omega) (by omega)
  obtain rfl:i = 3:=by omega
  simp -dsimp
  refine AWh_loop (fun i:Nat => i ≤ n) (fun i:Nat => mkE [(0,.box 640000 0),(1,.c (.int .i64 n)),(5,.arr 320),(7,.c (.int .i64 i))] [(640000,.box [.c (.im ((logsK c i).c).b.length (flat ((logsK c i).c).b)),.c (.int .i64 ((logsK c i).c).i),.c (.int .i64 ((logsK c i).c).h)]),(320,.arr 0 106 8 3 (flat (listL (logsK c i).lg)))]) (fun i => n - i) 0 (Wk_to [0,1,5,7] [(640000,640000),(320,640)] rfl rfl (by simp [logsK,newsK,listL])) (by simp) ?_
  rintro i hi
  have eN:logsK c (i + 1) = lsN (logsK c i):=rfl
  have hL:=logsK_pl c i
  have hcc:=logsK_ok hc i
  have wi:IntKind.i64.wrap ((i:Int) + 1) = i + 1:=wrap64 (by omega) (by omega)
  refine AW_of h226 TryzT_ok (by kernel_rfl) ?_
  rcases Nat.lt_or_ge i n with p1 | p1
  rotate_left
  · obtain rfl:i = n:=by omega
    simp -dsimp
  generalize logsK c i = a at *
  obtain ⟨lg,d⟩:=a
  simp only at hL hcc
  have p1':(i:Int) < n:=by omega
  have d2:=curN_ok hcc 3
  have d3:=curN_ok d2 3
  obtain ⟨r,hr,hr3⟩:∃ r:Nat,(curN d 3).1 = r ∧ r < 3:=⟨(curN d 3).1.toNat,by have:=curN_bd d (n:=3) (by decide); omega,by have:=curN_bd d (n:=3) (by decide); omega⟩
  have hR:=hL.get (r:Int)
  have gR:=listL_get lg hr3
  have hrl:r < (listL lg).length:=hr3
  have hr3':(r:Int) < 3:=by omega
  simp -dsimp [p1']
  refine ACallW_go ?_
  refine ACallC_go (fun us => f117_ok d hcc 3) ?_
  rw [hr]
  simp -dsimp
  refine ACallW_go ?_
  refine ACallC_go (fun us => f130_ok (curN d 3).2 d2 3) ?_
  cases q:((curN (curN d 3).2 3).1 == 0)
  · have hE:=editD_good (curN (curN d 3).2 3).2
    obtain ⟨e1,e2,e3,e4,e5⟩:=hE
    have eM:lsN ⟨lg,d⟩ = ⟨putL r lg (editedM (nth (listL lg) r) (editD (curN (curN d 3).2 3).2).1).1,(editD (curN (curN d 3).2 3).2).2⟩:=by
      simp [lsN,lsO,lsR,lsE,q,hr,gR]
    simp -dsimp [hr3',hrl]
    repeat (first|refine ⟨by omega,?_⟩|refine ⟨by simp [capMax];omega,?_⟩|refine ⟨⟨by omega,by omega⟩,?_⟩)
    refine ACallW_go ?_
    refine ACallC_go (fun us => f155_ok (curN (curN d 3).2 3).2 d3) ?_
    simp -dsimp [hr3',hrl]
    have hlO:(nth (listL lg) r).Ok:=by rw [gR]; exact hR.ok
    refine ACallK_of (f96_ok (nth (listL lg) r) (editD (curN (curN d 3).2 3).2).1 hlO (by omega) (by omega) (by omega)) ?_
    simp -dsimp [hr3',hrl,wi]
    exact Back_of (i + 1) [0,1,5,7] [(640000,640000),(320,320)] rfl rfl (by simp [eN,eM,← listL_put lg hr3]) (by omega) (by omega)
  · have d4:=curN_ok d3 3
    obtain ⟨f,hf,hf3⟩:∃ f:Nat,(curN (curN (curN d 3).2 3).2 3).1 = f ∧ f < 3:=⟨(curN (curN (curN d 3).2 3).2 3).1.toNat,by have:=curN_bd (curN (curN d 3).2 3).2 (n:=3) (by decide); omega,by have:=curN_bd (curN (curN d 3).2 3).2 (n:=3) (by decide); omega⟩
    have gF:=listL_get lg hf3
    have hF:=hL.get (f:Int)
    have hfl:f < (listL lg).length:=hf3
    have hf3':(f:Int) < 3:=by omega
    simp -dsimp
    refine ACallW_go ?_
    refine ACallC_go (fun us => f117_ok (curN (curN d 3).2 3).2 d3 3) ?_
    rw [hf]
    by_cases hu0:0 < (nth (listL lg) f).units.length
    case neg =>
      have eM:lsN ⟨lg,d⟩ = ⟨lg,(curN (curN (curN d 3).2 3).2 3).2⟩:=by
        have:¬ 0 < (getL f lg).units.length:=by rw [← gF]; exact hu0
        simp [lsN,lsO,lsR,lsF,lsFrom,q,hf,this]
      have hu0':¬ (0:Int) < (nth (listL lg) f).units.length:=by omega
      have hemp:((nth (listL lg) f).units = []) = True:=eq_true (List.eq_nil_of_length_eq_zero (by omega))
      simp -dsimp [hf3',hfl,hemp,hu0',wi]
      repeat (first|refine ⟨by omega,?_⟩|refine ⟨by simp [capMax];omega,?_⟩|refine ⟨⟨by omega,by omega⟩,?_⟩)
      exact Back_of (i + 1) [0,1,5,7] [(640000,640000),(320,320)] rfl rfl (by simp [eN,eM]) (by omega) (by omega)
    have hu0':(0:Int) < (nth (listL lg) f).units.length:=by omega
    obtain ⟨k,hk,hkl⟩:∃ k:Nat,(curN (curN (curN (curN d 3).2 3).2 3).2 ((nth (listL lg) f).units.length:Int)).1 = k ∧ k < (nth (listL lg) f).units.length:=⟨(curN (curN (curN (curN d 3).2 3).2 3).2 ((nth (listL lg) f).units.length:Int)).1.toNat,by have:=curN_bd (curN (curN (curN d 3).2 3).2 3).2 (n:=((nth (listL lg) f).units.length:Int)) (by omega); omega,by have:=curN_bd (curN (curN (curN d 3).2 3).2 3).2 (n:=((nth (listL lg) f).units.length:Int)) (by omega); omega⟩
    have eM:lsN ⟨lg,d⟩ = ⟨putL r lg (heardM (nth (listL lg) r) (nth (nth (listL lg) f).units k)).1,(curN (curN (curN (curN d 3).2 3).2 3).2 ((nth (listL lg) f).units.length:Int)).2⟩:=by
      rw [gF] at hk hu0 ⊢
      simp [lsN,lsO,lsR,lsF,lsFrom,lsU,q,hf,hr,gR,hk,hu0]
    have hlO:(nth (listL lg) r).Ok:=by rw [gR]; exact hR.ok
    have hFO:LPl (nth (listL lg) f):=by rw [gF]; exact hF
    have hm:=nth_mem hkl
    have huO:=hFO.uo hm
    have hkl':(k:Int) < (nth (listL lg) f).units.length:=by omega
    have hne:((nth (listL lg) f).units = []) = False:=eq_false (fun h => by rw [h] at hu0; simp at hu0)
    simp -dsimp [hf3',hfl,hne,hu0']
    intro _
    repeat (first|refine ⟨by omega,?_⟩|refine ⟨by simp [capMax];omega,?_⟩|refine ⟨⟨by omega,by omega⟩,?_⟩)
    refine ACallW_go ?_
    refine ACallC_go (fun us => f117_ok (curN (curN (curN d 3).2 3).2 3).2 d4 ((nth (listL lg) f).units.length:Int)) ?_
    rw [hk]
    simp -dsimp [hr3',hrl,hkl,hkl',ne_of_lt hkl]
    repeat (first|refine ⟨by omega,?_⟩|refine ⟨by simp [capMax];omega,?_⟩|refine ⟨⟨by omega,by omega⟩,?_⟩)
    refine ACallK_of (f88_ok (nth (listL lg) r) (nth (nth (listL lg) f).units k) hlO huO) ?_
    simp -dsimp [hr3',hrl,wi]
    repeat (first|refine ⟨by omega,?_⟩|refine ⟨by simp [capMax];omega,?_⟩|refine ⟨⟨by omega,by omega⟩,?_⟩)
    exact Back_of (i + 1) [0,1,5,7] [(640000,640000),(320,320)] rfl rfl (by simp [eN,eM,← listL_put lg hr3]) (by omega) (by omega)
end Am
namespace Am
open Go Go.Proofs
open Cel (cells)
set_option maxRecDepth 100000
@[simp] def h84:Hts:={ merge:=fun _ => false,mergeF:=fun _ => false,dr:=fun id => if id = 6 then [{},{},{},{},{},{},{},{},{ cr:=true },{}] else [] }
set_option maxHeartbeats 2000000 in
theorem f84_ok (l:List GUnit) (hl:l.length ≤ 1073741824) (h:∀ u,u ∈ l → u.Ok):FnR Tryz.prog 84 [.v (.im l.length (flat l)),.v (.im l.length (flat l))] (.v (.bool true)):=by
  refine FnW.of_AW TryzT_ok 0 (fn:=Tryz.f84) (by kernel_rfl) rfl (by kernel_rfl) rfl rfl rfl ?_; refine AW_of h84 TryzT_ok (by kernel_rfl) ?_
  simp -dsimp
  refine AWh_loop (fun i:Nat => i ≤ l.length) (fun i => mkE [(0,.c (.im l.length (flat l))),(1,.c (.im l.length (flat l))),(5,.c (.int .i64 i))] []) (fun i => l.length - i) 0 (Wk_to [0,1,5] [] rfl rfl (by simp)) (by simp) ?_
  rintro i hi
  refine AW_of h84 TryzT_ok (by kernel_rfl) ?_
  have wi:IntKind.i64.wrap ((i:Int) + 1) = i + 1:=wrap64 (by omega) (by omega)
  rcases Nat.lt_or_ge i l.length with h1 | h1
  · simp -dsimp [h1,ne_of_lt h1]
    repeat (first|refine ⟨by omega,?_⟩|refine ⟨by simp [capMax];omega,?_⟩|refine ⟨⟨by omega,by omega⟩,?_⟩)
    refine ACallK_of (f81_ok _ _ (h _ (nth_mem h1))) ?_
    simp -dsimp [wi]
    exact Back_of (i + 1) [0,1,5] [] rfl rfl (by simp) (by omega) (by omega)
  · obtain rfl:i = l.length:=by omega
    simp -dsimp
end Am
