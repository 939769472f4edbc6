/- Where a commit is. No condition. -/
import Derived.Test.YtjbbhccphedkfaaGreatT
import Derived.Test.YtjbbhccphedkfaaGreatD
import Derived.Test.YtjbbhccphedkfaaGreatE2
import Derived.Test.YtjbbhccphedkfaaGreatAm29
import Derived.Test.YtjbbhccphedkfaaGreatAm31
import Derived.Test.YtjbbhccphedkfaaGreatE56
import Derived.Test.YtjbbhccphedkfaaGreatAm35
set_option linter.unusedSimpArgs false
set_option linter.unusedVariables false
set_option linter.unnecessarySimpa false
set_option linter.unusedSectionVars false
namespace Am
open Go Go.Proofs
theorem dot_beq (a b:GDot):(a.rep == b.rep && a.seq == b.seq) = decide (a = b):=by
  rw [Bool.eq_iff_iff]; simp [GDot.ext_iff]
def atId (g:GGraph) (d:GDot):Int:=idx (fun c:GCommit => decide (c.id = d)) g.commits
@[simp] def h152:Hts:={ dr:=fun id => if id = 4 then [{},{},{},{},{},{},{},{}] else [] }
theorem f152_ok (g:GGraph) (d:GDot) (hg:g.commits.length ≤ 1073741824):FnR Tryz.prog 152 [.agg [.im g.commits.length (flat g.commits),.int .i64 g.head],.agg [.int .i64 d.rep,.int .i64 d.seq]] (.v (.int .i64 (atId g d))):=by
  refine FnW.of_AW TryzT_ok 0 (fn:=Tryz.f152) (by kernel_rfl) rfl (by kernel_rfl) rfl rfl rfl ?_; refine AW_of h152 TryzT_ok (by kernel_rfl) ?_
  simp -dsimp
  refine AWh_loop (fun i:Nat => i ≤ g.commits.length ∧ ∀ j:Nat,j < i → decide ((nth g.commits j).id = d) = false) (fun i => mkE [(2,.box 128 0),(3,.box 192 0),(5,.c (.int .i64 i))] [(128,.box [.c (.im g.commits.length (flat g.commits)),.c (.int .i64 g.head)]),(192,.box [.c (.int .i64 d.rep),.c (.int .i64 d.seq)])]) (fun i => g.commits.length - i) 0 (Wk_to [2,3,5] [(128,128),(192,192)] rfl rfl (by simp)) (by simp) ?_
  rintro i ⟨hi,hall⟩
  refine AW_of h152 TryzT_ok (by kernel_rfl) ?_
  have wi:IntKind.i64.wrap ((i:Int) + 1) = i + 1:=wrap64 (by omega) (by omega)
  rcases Nat.lt_or_ge i g.commits.length with h1 | h1
  · simp -dsimp [h1,ne_of_lt h1,dot_beq]
    refine ⟨by omega,fun e1 => ?_,fun e => ?_⟩
    · rw [atId,idx_here h1 hall (by simp [e1])]
    · refine Back_of (i + 1) [2,3,5] [(128,128),(192,192)] rfl rfl (by simp [wi]) ⟨by omega,fun j hj => ?_⟩ (by omega)
      by_cases e3:j = i
      · subst e3; simpa using e
      · exact hall j (by omega)
  · simp -dsimp [Nat.not_lt.2 h1]
    rw [atId,idx_none (fun j hj => hall j (by omega))]
@[simp] def h141:Hts:={  }
theorem f141_ok (c:GCommit) (d:GDot):FnR Tryz.prog 141 [.agg [.int .i64 c.id.rep,.int .i64 c.id.seq,.im c.ups.length (flat c.ups),.im c.state.know.length (flat c.state.know),.im c.state.tallies.length (flat c.state.tallies),.im c.state.lives.length (flat c.state.lives),.im c.state.cs.length (flat c.state.cs)],.pc [.int .i64 d.rep,.int .i64 d.seq]] (.v (.bool (decide (c.id = d)))):=by
  refine FnW.of_AW TryzT_ok 0 (fn:=Tryz.f141) (by kernel_rfl) rfl (by kernel_rfl) rfl rfl rfl ?_; refine AW_of h141 TryzT_ok (by kernel_rfl) ?_
  simp -dsimp
  exact dot_beq _ _
@[simp] def h140:Hts:={  }
theorem f140_ok (xs:List GCommit) (d:GDot) (hx:xs.length ≤ 1073741824):FnR Tryz.prog 140 [.v (.im xs.length (flat xs)),.fn 141 [.pc [.int .i64 d.rep,.int .i64 d.seq]]] (.v (.int .i64 (idx (fun c:GCommit => decide (c.id = d)) xs))):=by
  refine FnW.of_AW TryzT_ok 0 (fn:=Tryz.f140) (by kernel_rfl) rfl (by kernel_rfl) rfl rfl rfl ?_; refine AW_of h140 TryzT_ok (by kernel_rfl) ?_
  simp -dsimp
  refine AWh_loop (fun i:Nat => i ≤ xs.length ∧ ∀ j:Nat,j < i → decide ((nth xs j).id = d) = false) (fun i => mkE [(0,.c (.im xs.length (flat xs))),(1,.fn 141 [.pc [.int .i64 d.rep,.int .i64 d.seq] 0]),(7,.c (.int .i64 xs.length)),(8,.c (.int .i64 i))] []) (fun i => xs.length - i) 0 (Wk_to [0,1,7,8] [] rfl rfl (by simp)) (by simp) ?_
  rintro i ⟨hi,hall⟩
  refine AW_of h140 TryzT_ok (by kernel_rfl) ?_
  have wi:IntKind.i64.wrap ((i:Int) + 1) = i + 1:=wrap64 (by omega) (by omega)
  rcases Nat.lt_or_ge i xs.length with h1 | h1
  · simp -dsimp [h1,ne_of_lt h1]
    refine ACallK_of (f141_ok _ _) ?_
    simp -dsimp
    refine ⟨fun e => ?_,fun e => ?_⟩
    · rw [idx_here h1 hall (by simpa using e)]
    · refine Back_of (i + 1) [0,1,7,8] [] rfl rfl (by simp [wi]) ⟨by omega,fun j hj => ?_⟩ (by omega)
      by_cases e3:j = i
      · subst e3; simpa using e
      · exact hall j (by omega)
  · simp -dsimp [Nat.not_lt.2 h1]
    rw [idx_none (fun j hj => hall j (by omega))]
@[simp] def h78:Hts:={  }
theorem f78_ok (g:GGraph) (d:GDot) (hg:g.commits.length ≤ 1073741824):FnR Tryz.prog 78 [.agg [.im g.commits.length (flat g.commits),.int .i64 g.head],.agg [.int .i64 d.rep,.int .i64 d.seq]] (.v (.int .i64 (atId g d))):=by
  refine FnW.of_AW TryzT_ok 0 (fn:=Tryz.f78) (by kernel_rfl) rfl (by kernel_rfl) rfl rfl rfl ?_; refine AW_of h78 TryzT_ok (by kernel_rfl) ?_
  simp -dsimp
  refine ACallK_of (f140_ok _ _ hg) ?_
  simp -dsimp
  rfl
end Am
namespace Am
open Go Go.Proofs
open Cel (cells)
set_option maxRecDepth 100000
def upAt (g:GGraph) (k:Int) (c:GCommit) (j:Nat):Bool:=spIn (nth c.ups j) 0 (k - 1) && (decide (j = 0) || decide (nth c.ups (j - 1) < nth c.ups j)) && behind (nth g.commits (nth c.ups j).toNat).state c.state
def comOk (g:GGraph) (k:Nat):Bool:=dotOk (nth g.commits k).id && (atId g (nth g.commits k).id == k) && stateOk (nth g.commits k).state && decide ((nth g.commits k).ups.length ≤ 2) && allB (upAt g k (nth g.commits k)) (nth g.commits k).ups.length
def graphOk (g:GGraph):Bool:=decide (g.commits.length ≤ 80) && spIn g.head (-1) (g.commits.length - 1) && allB (comOk g) g.commits.length
theorem graphOk_false {g:GGraph} {i:Nat} (h:i < g.commits.length) (hp:comOk g i = false):graphOk g = false:=by
  simp [graphOk,allB_false h hp]
theorem comOk_ups {g:GGraph} {i j:Nat} (h:j < (nth g.commits i).ups.length) (hp:upAt g i (nth g.commits i) j = false):comOk g i = false:=by
  simp [comOk,allB_false h hp]
@[simp] def h84:Hts:={ merge:=fun _ => false,mergeF:=fun _ => false,dr:=fun id => if id = 7 then [{},{},{},{ cr:=true },{},{},{},{},{},{},{},{},{},{},{},{},{},{},{},{},{},{},{},{},{},{},{},{},{ cr:=true },{},{}] else [] }
set_option maxHeartbeats 4000000 in
theorem f84_ok (g:GGraph) (hg:g.Ok) (i:Nat) (h1:i < g.commits.length):FnR Tryz.prog 84 [.agg [.im g.commits.length (flat g.commits),.int .i64 g.head],.v (.int .i64 i)] (.v (.bool (comOk g i))):=by
  have hgo:=hg
  simp only [GGraph.Ok] at hg
  have hc:=hg.2 _ (nth_mem h1)
  simp only [GCommit.Ok] at hc
  obtain ⟨hu,hst⟩:=hc
  refine FnW.of_AW TryzT_ok 0 (fn:=Tryz.f84) (by kernel_rfl) rfl (by kernel_rfl) rfl rfl rfl ?_; refine AW_of h84 TryzT_ok (by kernel_rfl) ?_
  simp -dsimp [h1,ne_of_lt h1]
  repeat (first|refine ⟨by omega,?_⟩|refine ⟨by simp [capMax];omega,?_⟩|refine ⟨⟨by omega,by omega⟩,?_⟩)
  refine ACallK_of (f115_ok _) ?_
  cases g1:dotOk (nth g.commits i).id
  · simp -dsimp [h1,ne_of_lt h1]
    repeat (first|refine ⟨by omega,?_⟩|refine ⟨by simp [capMax];omega,?_⟩|refine ⟨⟨by omega,by omega⟩,?_⟩)
    simp [comOk,g1]
  simp -dsimp [h1,ne_of_lt h1]
  repeat (first|refine ⟨by omega,?_⟩|refine ⟨by simp [capMax];omega,?_⟩|refine ⟨⟨by omega,by omega⟩,?_⟩)
  refine ACallK_of (f78_ok _ _ hg.1) ?_
  by_cases g2:atId g (nth g.commits i).id = i
  case neg =>
    have b2:(atId g (nth g.commits i).id != (i:Int)) = true:=by simp [g2]
    simp -dsimp [h1,ne_of_lt h1,b2]
    repeat (first|refine ⟨by omega,?_⟩|refine ⟨by simp [capMax];omega,?_⟩|refine ⟨⟨by omega,by omega⟩,?_⟩)
    simp [comOk,g2]
  have b2:(atId g (nth g.commits i).id != (i:Int)) = false:=by simp [g2]
  simp -dsimp [h1,ne_of_lt h1,b2]
  repeat (first|refine ⟨by omega,?_⟩|refine ⟨by simp [capMax];omega,?_⟩|refine ⟨⟨by omega,by omega⟩,?_⟩)
  refine ACallK_of (f34_ok _ hst) ?_
  rw [stateOkM_eq]
  cases g3:stateOk (nth g.commits i).state
  · simp -dsimp [h1,ne_of_lt h1]
    repeat (first|refine ⟨by omega,?_⟩|refine ⟨by simp [capMax];omega,?_⟩|refine ⟨⟨by omega,by omega⟩,?_⟩)
    simp [comOk,g3]
  by_cases g4:(nth g.commits i).ups.length ≤ 2
  case neg =>
    have g4':(2:Int) < (nth g.commits i).ups.length:=by omega
    simp -dsimp [h1,ne_of_lt h1,g4']
    repeat (first|refine ⟨by omega,?_⟩|refine ⟨by simp [capMax];omega,?_⟩|refine ⟨⟨by omega,by omega⟩,?_⟩)
    simp [comOk,g4]
  have g4':¬ (2:Int) < (nth g.commits i).ups.length:=by omega
  have wk:IntKind.i64.wrap ((i:Int) - 1) = i - 1:=wrap64 (by omega) (by omega)
  have hcs:∀ y,y ∈ g.commits → y.ups.length ≤ 1073741824 ∧ y.state.Ok:=fun y hy => by have:=hg.2 y hy; simpa only [GCommit.Ok] using this
  simp -dsimp [h1,ne_of_lt h1,g4']
  repeat (first|refine ⟨by omega,?_⟩|refine ⟨by simp [capMax];omega,?_⟩|refine ⟨⟨by omega,by omega⟩,?_⟩)
  refine AWh_loop (fun j:Nat => j ≤ (nth g.commits i).ups.length ∧ allB (upAt g i (nth g.commits i)) j = true) (fun j => mkE [(1,.c (.int .i64 i)),(2,.box 128 0),(5,.box 320 0),(38,.c (.im (nth g.commits i).ups.length (flat (nth g.commits i).ups))),(39,.c (.int .i64 (nth g.commits i).ups.length)),(40,.c (.int .i64 j))] [(128,.box [.c (.im g.commits.length (flat g.commits)),.c (.int .i64 g.head)]),(320,.box [.c (.int .i64 ((nth g.commits i)).id.rep),.c (.int .i64 ((nth g.commits i)).id.seq),.c (.im ((nth g.commits i)).ups.length (flat ((nth g.commits i)).ups)),.c (.im ((nth g.commits i)).state.know.length (flat ((nth g.commits i)).state.know)),.c (.im ((nth g.commits i)).state.tallies.length (flat ((nth g.commits i)).state.tallies)),.c (.im ((nth g.commits i)).state.lives.length (flat ((nth g.commits i)).state.lives)),.c (.im ((nth g.commits i)).state.cs.length (flat ((nth g.commits i)).state.cs))])]) (fun j => (nth g.commits i).ups.length - j) 0 (Wk_to [1,2,5,38,39,40] [(128,128),(320,320)] rfl rfl (by simp)) (by simp [allB]) ?_
  rintro j ⟨hj,hall⟩
  refine AW_of h84 TryzT_ok (by kernel_rfl) ?_
  rcases Nat.lt_or_ge j (nth g.commits i).ups.length with p1 | p1
  · skip
    cases q1:spIn (nth (nth g.commits i).ups j) 0 ((i:Int) - 1)
    · have hbad:=comOk_ups p1 (show upAt g i (nth g.commits i) j = false by simp [upAt,q1])
      rcases Nat.eq_zero_or_pos j with hz | hz
      · have hz':¬ 0 < j:=by omega
        simp -dsimp [h1,ne_of_lt h1,p1,ne_of_lt p1,hz',wk,q1]
        repeat (first|refine ⟨by omega,?_⟩|refine ⟨by simp [capMax];omega,?_⟩|refine ⟨⟨by omega,by omega⟩,?_⟩)
        refine ACallK_of (f137_ok _ _ _) ?_
        rw [q1]
        simp -dsimp [h1,ne_of_lt h1,p1,ne_of_lt p1,hz']
        repeat (first|refine ⟨by omega,?_⟩|refine ⟨by simp [capMax];omega,?_⟩|refine ⟨⟨by omega,by omega⟩,?_⟩)
        exact hbad
      · simp -dsimp [h1,ne_of_lt h1,p1,ne_of_lt p1,hz,wk,q1]
        repeat (first|refine ⟨by omega,?_⟩|refine ⟨by simp [capMax];omega,?_⟩|refine ⟨⟨by omega,by omega⟩,?_⟩)
        refine ACallK_of (f137_ok _ _ _) ?_
        rw [q1]
        simp -dsimp [h1,ne_of_lt h1,p1,ne_of_lt p1,hz]
        repeat (first|refine ⟨by omega,?_⟩|refine ⟨by simp [capMax];omega,?_⟩|refine ⟨⟨by omega,by omega⟩,?_⟩)
        exact hbad
    have q1':=q1
    simp only [spIn,Bool.and_eq_true,decide_eq_true_eq] at q1'
    have hup:(nth (nth g.commits i).ups j).toNat < g.commits.length:=by omega
    have hup0:¬ (nth (nth g.commits i).ups j) < 0:=by omega
    have hso:=(hcs _ (nth_mem hup)).2
    rcases Nat.eq_zero_or_pos j with hz | hz
    · have hz':¬ 0 < j:=by omega
      simp -dsimp [h1,ne_of_lt h1,p1,ne_of_lt p1,hz',wk,hup,ne_of_lt hup]
      repeat (first|refine ⟨by omega,?_⟩|refine ⟨by simp [capMax];omega,?_⟩|refine ⟨⟨by omega,by omega⟩,?_⟩)
      refine ACallK_of (f137_ok _ _ _) ?_
      rw [q1]
      simp -dsimp [h1,ne_of_lt h1,p1,ne_of_lt p1,hz',hup,ne_of_lt hup]
      repeat (first|refine ⟨by omega,?_⟩|refine ⟨by simp [capMax];omega,?_⟩|refine ⟨⟨by omega,by omega⟩,?_⟩)
      refine ACallK_of (f151_ok _ _ hso hst) ?_
      cases q2:behind (nth g.commits (nth (nth g.commits i).ups j).toNat).state (nth g.commits i).state
      · have hbad:=comOk_ups p1 (show upAt g i (nth g.commits i) j = false by simp [upAt,q2])
        simp -dsimp [h1,ne_of_lt h1,p1,ne_of_lt p1,hz',hup,ne_of_lt hup]
        exact hbad
      · simp -dsimp [h1,ne_of_lt h1,p1,ne_of_lt p1,hz',hup,ne_of_lt hup]
        exact Back_of (j + 1) [1,2,5,38,39,40] [(128,128),(320,320)] rfl rfl (by simp; rw [wrap64 (by omega) (by omega)]) ⟨by omega,allB_succ hall (by subst hz; simp [upAt,q1,q2])⟩ (by omega)
    · have w:IntKind.i64.wrap ((j:Int) - 1) = j - 1:=wrap64 (by omega) (by omega)
      have t1:((j:Int) - 1).toNat = j - 1:=by omega
      have h3:j - 1 < (nth g.commits i).ups.length:=by omega
      have hn:¬ j = 0:=by omega
      rcases Int.lt_or_le (nth (nth g.commits i).ups (j - 1)) (nth (nth g.commits i).ups j) with q3 | q3
      · have q3':¬ (nth (nth g.commits i).ups j) ≤ (nth (nth g.commits i).ups (j - 1)):=by omega
        simp -dsimp [h1,ne_of_lt h1,p1,ne_of_lt p1,hz,w,t1,h3,wk,hup,ne_of_lt hup,q3']
        repeat (first|refine ⟨by omega,?_⟩|refine ⟨by simp [capMax];omega,?_⟩|refine ⟨⟨by omega,by omega⟩,?_⟩)
        refine ACallK_of (f137_ok _ _ _) ?_
        rw [q1]
        simp -dsimp [h1,ne_of_lt h1,p1,ne_of_lt p1,hz,w,t1,h3,hup,ne_of_lt hup,q3']
        repeat (first|refine ⟨by omega,?_⟩|refine ⟨by simp [capMax];omega,?_⟩|refine ⟨⟨by omega,by omega⟩,?_⟩)
        refine ACallK_of (f151_ok _ _ hso hst) ?_
        cases q2:behind (nth g.commits (nth (nth g.commits i).ups j).toNat).state (nth g.commits i).state
        · have hbad:=comOk_ups p1 (show upAt g i (nth g.commits i) j = false by simp [upAt,q2])
          simp -dsimp [h1,ne_of_lt h1,p1,ne_of_lt p1,hz,w,t1,h3,hup,ne_of_lt hup,q3']
          exact hbad
        · simp -dsimp [h1,ne_of_lt h1,p1,ne_of_lt p1,hz,w,t1,h3,hup,ne_of_lt hup,q3']
          exact Back_of (j + 1) [1,2,5,38,39,40] [(128,128),(320,320)] rfl rfl (by simp; rw [wrap64 (by omega) (by omega)]) ⟨by omega,allB_succ hall (by simp [upAt,q1,q2,q3])⟩ (by omega)
      · have q3':¬ (nth (nth g.commits i).ups (j - 1)) < (nth (nth g.commits i).ups j):=by omega
        have hbad:=comOk_ups p1 (show upAt g i (nth g.commits i) j = false by simp [upAt,hn,q3'])
        simp -dsimp [h1,ne_of_lt h1,p1,ne_of_lt p1,hz,w,t1,h3,wk,hup,ne_of_lt hup,q3,q3']
        repeat (first|refine ⟨by omega,?_⟩|refine ⟨by simp [capMax];omega,?_⟩|refine ⟨⟨by omega,by omega⟩,?_⟩)
        refine ACallK_of (f137_ok _ _ _) ?_
        rw [q1]
        simp -dsimp [h1,ne_of_lt h1,p1,ne_of_lt p1,hz,w,t1,h3,hup,ne_of_lt hup,q3,q3']
        repeat (first|refine ⟨by omega,?_⟩|refine ⟨by simp [capMax];omega,?_⟩|refine ⟨⟨by omega,by omega⟩,?_⟩)
        exact hbad
  · obtain rfl:j = (nth g.commits i).ups.length:=by omega
    simp -dsimp
    simp [comOk,g1,g2,g3,g4,hall]
@[simp] def h75:Hts:={ mergeF:=fun f => f == 137 }
theorem f75_ok (g:GGraph) (k:Int) (hg:g.commits.length ≤ 1073741824):FnR Tryz.prog 75 [.agg [.im g.commits.length (flat g.commits),.int .i64 g.head],.v (.int .i64 k)] (.v (.bool (spIn k 0 (g.commits.length - 1)))):=by
  refine FnW.of_AW TryzT_ok 0 (fn:=Tryz.f75) (by kernel_rfl) rfl (by kernel_rfl) rfl rfl rfl ?_; refine AW_of h75 TryzT_ok (by kernel_rfl) ?_
  have w:IntKind.i64.wrap ((g.commits.length:Int) - 1) = g.commits.length - 1:=wrap64 (by omega) (by omega)
  simp -dsimp [w]
  refine ACallK_of (f137_ok _ _ _) ?_
  simp -dsimp
@[simp] def h25:Hts:={ merge:=fun _ => false,mergeF:=fun _ => false }
set_option maxHeartbeats 4000000 in
theorem f25_ok (g:GGraph) (hg:g.Ok):FnR Tryz.prog 25 [.agg [.im g.commits.length (flat g.commits),.int .i64 g.head]] (.v (.bool (graphOk g))):=by
  have hgo:=hg
  simp only [GGraph.Ok] at hg
  refine FnW.of_AW TryzT_ok 0 (fn:=Tryz.f25) (by kernel_rfl) rfl (by kernel_rfl) rfl rfl rfl ?_; refine AW_of h25 TryzT_ok (by kernel_rfl) ?_
  by_cases l1:g.commits.length ≤ 80
  case neg =>
    have l1':(80:Int) < g.commits.length:=by omega
    simp -dsimp [l1']
    simp [graphOk,l1]
  have l1':¬ (80:Int) < g.commits.length:=by omega
  by_cases m:g.head = -1
  · have m1:(g.head != -1) = false:=by simp [m]
    have hd:spIn g.head (-1) (g.commits.length - 1) = true:=by simp [spIn,m]; omega
    simp -dsimp [l1',m1]
    refine AWh_loop (fun i:Nat => i ≤ g.commits.length ∧ allB (comOk g) i = true) (fun i => mkE [(1,.box 64 0),(22,.c (.int .i64 g.commits.length)),(23,.c (.int .i64 i))] [(64,.box [.c (.im g.commits.length (flat g.commits)),.c (.int .i64 g.head)])]) (fun i => g.commits.length - i) 0 (Wk_to [1,22,23] [(64,64)] rfl rfl (by simp)) (by simp [allB]) ?_
    rintro i ⟨hi,halli⟩
    refine AW_of h25 TryzT_ok (by kernel_rfl) ?_
    rcases Nat.lt_or_ge i g.commits.length with h1 | h1
    · simp -dsimp [h1,ne_of_lt h1]
      refine ACallK_of (f84_ok g hgo i h1) ?_
      cases gc:comOk g i
      · simp -dsimp
        exact graphOk_false h1 gc
      · simp -dsimp
        exact Back_of (i + 1) [1,22,23] [(64,64)] rfl rfl (by simp; rw [wrap64 (by omega) (by omega)]) ⟨by omega,allB_succ halli gc⟩ (by omega)
    · obtain rfl:i = g.commits.length:=by omega
      simp -dsimp
      simp [graphOk,l1,hd,halli]
  · have m1:(g.head != -1) = true:=by simp [m]
    have hde:spIn g.head (-1) (g.commits.length - 1) = spIn g.head 0 (g.commits.length - 1):=by
      rw [Bool.eq_iff_iff]; simp only [spIn,Bool.and_eq_true,decide_eq_true_eq]; omega
    simp -dsimp [l1',m1]
    refine ACallK_of (f75_ok _ _ hg.1) ?_
    cases hd0:spIn g.head 0 (g.commits.length - 1)
    · simp -dsimp
      simp [graphOk,hde,hd0]
    have hd:spIn g.head (-1) (g.commits.length - 1) = true:=by rw [hde,hd0]
    simp -dsimp
    refine AWh_loop (fun i:Nat => i ≤ g.commits.length ∧ allB (comOk g) i = true) (fun i => mkE [(1,.box 64 0),(22,.c (.int .i64 g.commits.length)),(23,.c (.int .i64 i))] [(64,.box [.c (.im g.commits.length (flat g.commits)),.c (.int .i64 g.head)])]) (fun i => g.commits.length - i) 0 (Wk_to [1,22,23] [(64,64)] rfl rfl (by simp)) (by simp [allB]) ?_
    rintro i ⟨hi,halli⟩
    refine AW_of h25 TryzT_ok (by kernel_rfl) ?_
    rcases Nat.lt_or_ge i g.commits.length with h1 | h1
    · simp -dsimp [h1,ne_of_lt h1]
      refine ACallK_of (f84_ok g hgo i h1) ?_
      cases gc:comOk g i
      · simp -dsimp
        exact graphOk_false h1 gc
      · simp -dsimp
        exact Back_of (i + 1) [1,22,23] [(64,64)] rfl rfl (by simp; rw [wrap64 (by omega) (by omega)]) ⟨by omega,allB_succ halli gc⟩ (by omega)
    · obtain rfl:i = g.commits.length:=by omega
      simp -dsimp
      simp [graphOk,l1,hd,halli]
@[simp] def h85:Hts:={ merge:=fun _ => false,mergeF:=fun _ => false,dr:=fun id => if id = 12 then [{},{},{},{},{},{},{},{ cr:=true },{},{},{},{},{},{},{},{},{},{},{},{},{},{},{},{},{},{},{},{},{},{},{},{},{},{},{},{},{},{},{},{},{ cr:=true },{},{}] else [] }
set_option maxHeartbeats 8000000 in
theorem f85_ok (g:GGraph) (hg:g.Ok):FnR Tryz.prog 85 [.agg [.im g.commits.length (flat g.commits),.int .i64 g.head]] (.v (.bool (graphOk g))):=by
  have hgo:=hg
  simp only [GGraph.Ok] at hg
  have hcs:∀ y,y ∈ g.commits → y.ups.length ≤ 1073741824 ∧ y.state.Ok:=fun y hy => by have:=hg.2 y hy; simpa only [GCommit.Ok] using this
  refine FnW.of_AW TryzT_ok 0 (fn:=Tryz.f85) (by kernel_rfl) rfl (by kernel_rfl) rfl rfl rfl ?_; refine AW_of h85 TryzT_ok (by kernel_rfl) ?_
  by_cases l1:g.commits.length ≤ 80
  case neg =>
    have l1':(80:Int) < g.commits.length:=by omega
    simp -dsimp [l1']
    simp [graphOk,l1]
  have l1':¬ (80:Int) < g.commits.length:=by omega
  have wl:IntKind.i64.wrap ((g.commits.length:Int) - 1) = g.commits.length - 1:=wrap64 (by omega) (by omega)
  simp -dsimp [l1',wl]
  refine ACallK_of (f86_ok _ _ _) ?_
  cases hd:spIn g.head (-1) (g.commits.length - 1)
  · simp -dsimp
    simp [graphOk,hd]
  simp -dsimp
  refine AWh_loop (fun i:Nat => i ≤ g.commits.length ∧ allB (comOk g) i = true) (fun i => mkE [(1,.box 64 0),(3,.c (.int .i64 i))] [(64,.box [.c (.im g.commits.length (flat g.commits)),.c (.int .i64 g.head)])]) (fun i => g.commits.length - i) 0 (Wk_to [1,3] [(64,64)] rfl rfl (by simp)) (by simp [allB]) ?_
  rintro i ⟨hi,halli⟩
  refine AW_of h85 TryzT_ok (by kernel_rfl) ?_
  rcases Nat.lt_or_ge i g.commits.length with h1 | h1
  · have hc:=hcs _ (nth_mem h1)
    obtain ⟨hu,hst⟩:=hc
    simp -dsimp [h1,ne_of_lt h1]
    repeat (first|refine ⟨by omega,?_⟩|refine ⟨by simp [capMax];omega,?_⟩|refine ⟨⟨by omega,by omega⟩,?_⟩)
    refine ACallK_of (f129_ok _) ?_
    cases g1:dotOk (nth g.commits i).id
    · simp -dsimp [h1,ne_of_lt h1]
      repeat (first|refine ⟨by omega,?_⟩|refine ⟨by simp [capMax];omega,?_⟩|refine ⟨⟨by omega,by omega⟩,?_⟩)
      exact graphOk_false h1 (by simp [comOk,g1])
    simp -dsimp [h1,ne_of_lt h1]
    repeat (first|refine ⟨by omega,?_⟩|refine ⟨by simp [capMax];omega,?_⟩|refine ⟨⟨by omega,by omega⟩,?_⟩)
    refine ACallK_of (f152_ok _ _ hg.1) ?_
    by_cases g2:atId g (nth g.commits i).id = i
    case neg =>
      have b2:(atId g (nth g.commits i).id != (i:Int)) = true:=by simp [g2]
      simp -dsimp [h1,ne_of_lt h1,b2]
      repeat (first|refine ⟨by omega,?_⟩|refine ⟨by simp [capMax];omega,?_⟩|refine ⟨⟨by omega,by omega⟩,?_⟩)
      exact graphOk_false h1 (by simp [comOk,g2])
    have b2:(atId g (nth g.commits i).id != (i:Int)) = false:=by simp [g2]
    simp -dsimp [h1,ne_of_lt h1,b2]
    repeat (first|refine ⟨by omega,?_⟩|refine ⟨by simp [capMax];omega,?_⟩|refine ⟨⟨by omega,by omega⟩,?_⟩)
    refine ACallK_of (f17_ok _ hst) ?_
    rw [stateOkS_eq]
    cases g3:stateOk (nth g.commits i).state
    · simp -dsimp [h1,ne_of_lt h1]
      repeat (first|refine ⟨by omega,?_⟩|refine ⟨by simp [capMax];omega,?_⟩|refine ⟨⟨by omega,by omega⟩,?_⟩)
      exact graphOk_false h1 (by simp [comOk,g3])
    by_cases g4:(nth g.commits i).ups.length ≤ 2
    case neg =>
      have g4':(2:Int) < (nth g.commits i).ups.length:=by omega
      simp -dsimp [h1,ne_of_lt h1,g4']
      repeat (first|refine ⟨by omega,?_⟩|refine ⟨by simp [capMax];omega,?_⟩|refine ⟨⟨by omega,by omega⟩,?_⟩)
      exact graphOk_false h1 (by simp [comOk,g4])
    have g4':¬ (2:Int) < (nth g.commits i).ups.length:=by omega
    have wk:IntKind.i64.wrap ((i:Int) - 1) = i - 1:=wrap64 (by omega) (by omega)
    simp -dsimp [h1,ne_of_lt h1,g4']
    repeat (first|refine ⟨by omega,?_⟩|refine ⟨by simp [capMax];omega,?_⟩|refine ⟨⟨by omega,by omega⟩,?_⟩)
    refine AWh_loop (fun j:Nat => j ≤ (nth g.commits i).ups.length ∧ allB (upAt g i (nth g.commits i)) j = true) (fun j => mkE [(1,.box 64 0),(3,.c (.int .i64 i)),(4,.box 256 0),(5,.c (.int .i64 j))] [(64,.box [.c (.im g.commits.length (flat g.commits)),.c (.int .i64 g.head)]),(256,.box [.c (.int .i64 ((nth g.commits i)).id.rep),.c (.int .i64 ((nth g.commits i)).id.seq),.c (.im ((nth g.commits i)).ups.length (flat ((nth g.commits i)).ups)),.c (.im ((nth g.commits i)).state.know.length (flat ((nth g.commits i)).state.know)),.c (.im ((nth g.commits i)).state.tallies.length (flat ((nth g.commits i)).state.tallies)),.c (.im ((nth g.commits i)).state.lives.length (flat ((nth g.commits i)).state.lives)),.c (.im ((nth g.commits i)).state.cs.length (flat ((nth g.commits i)).state.cs))])]) (fun j => (nth g.commits i).ups.length - j) 0 (Wk_to [1,3,4,5] [(64,64),(256,256)] rfl rfl (by simp)) (by simp [allB]) ?_
    rintro j ⟨hj,hall⟩
    refine AW_of h85 TryzT_ok (by kernel_rfl) ?_
    rcases Nat.lt_or_ge j (nth g.commits i).ups.length with p1 | p1
    · skip
      cases q1:spIn (nth (nth g.commits i).ups j) 0 ((i:Int) - 1)
      · have hbad:=comOk_ups p1 (show upAt g i (nth g.commits i) j = false by simp [upAt,q1])
        rcases Nat.eq_zero_or_pos j with hz | hz
        · have hz':¬ 0 < j:=by omega
          simp -dsimp [h1,ne_of_lt h1,p1,ne_of_lt p1,hz',wk,q1]
          repeat (first|refine ⟨by omega,?_⟩|refine ⟨by simp [capMax];omega,?_⟩|refine ⟨⟨by omega,by omega⟩,?_⟩)
          refine ACallK_of (f86_ok _ _ _) ?_
          rw [q1]
          simp -dsimp [h1,ne_of_lt h1,p1,ne_of_lt p1,hz']
          repeat (first|refine ⟨by omega,?_⟩|refine ⟨by simp [capMax];omega,?_⟩|refine ⟨⟨by omega,by omega⟩,?_⟩)
          exact graphOk_false h1 hbad
        · simp -dsimp [h1,ne_of_lt h1,p1,ne_of_lt p1,hz,wk,q1]
          repeat (first|refine ⟨by omega,?_⟩|refine ⟨by simp [capMax];omega,?_⟩|refine ⟨⟨by omega,by omega⟩,?_⟩)
          refine ACallK_of (f86_ok _ _ _) ?_
          rw [q1]
          simp -dsimp [h1,ne_of_lt h1,p1,ne_of_lt p1,hz]
          repeat (first|refine ⟨by omega,?_⟩|refine ⟨by simp [capMax];omega,?_⟩|refine ⟨⟨by omega,by omega⟩,?_⟩)
          exact graphOk_false h1 hbad
      have q1':=q1
      simp only [spIn,Bool.and_eq_true,decide_eq_true_eq] at q1'
      have hup:(nth (nth g.commits i).ups j).toNat < g.commits.length:=by omega
      have hup0:¬ (nth (nth g.commits i).ups j) < 0:=by omega
      have hso:=(hcs _ (nth_mem hup)).2
      rcases Nat.eq_zero_or_pos j with hz | hz
      · have hz':¬ 0 < j:=by omega
        simp -dsimp [h1,ne_of_lt h1,p1,ne_of_lt p1,hz',wk,hup,ne_of_lt hup]
        repeat (first|refine ⟨by omega,?_⟩|refine ⟨by simp [capMax];omega,?_⟩|refine ⟨⟨by omega,by omega⟩,?_⟩)
        refine ACallK_of (f86_ok _ _ _) ?_
        rw [q1]
        simp -dsimp [h1,ne_of_lt h1,p1,ne_of_lt p1,hz',hup,ne_of_lt hup]
        repeat (first|refine ⟨by omega,?_⟩|refine ⟨by simp [capMax];omega,?_⟩|refine ⟨⟨by omega,by omega⟩,?_⟩)
        refine ACallK_of (f26_ok _ _ hso hst) ?_
        cases q2:behind (nth g.commits (nth (nth g.commits i).ups j).toNat).state (nth g.commits i).state
        · have hbad:=comOk_ups p1 (show upAt g i (nth g.commits i) j = false by simp [upAt,q2])
          simp -dsimp [h1,ne_of_lt h1,p1,ne_of_lt p1,hz',hup,ne_of_lt hup]
          exact graphOk_false h1 hbad
        · simp -dsimp [h1,ne_of_lt h1,p1,ne_of_lt p1,hz',hup,ne_of_lt hup]
          exact Back_of (j + 1) [1,3,4,5] [(64,64),(256,256)] rfl rfl (by simp; rw [wrap64 (by omega) (by omega)]) ⟨by omega,allB_succ hall (by subst hz; simp [upAt,q1,q2])⟩ (by omega)
      · have w:IntKind.i64.wrap ((j:Int) - 1) = j - 1:=wrap64 (by omega) (by omega)
        have t1:((j:Int) - 1).toNat = j - 1:=by omega
        have h3:j - 1 < (nth g.commits i).ups.length:=by omega
        have hn:¬ j = 0:=by omega
        rcases Int.lt_or_le (nth (nth g.commits i).ups (j - 1)) (nth (nth g.commits i).ups j) with q3 | q3
        · have q3':¬ (nth (nth g.commits i).ups j) ≤ (nth (nth g.commits i).ups (j - 1)):=by omega
          simp -dsimp [h1,ne_of_lt h1,p1,ne_of_lt p1,hz,w,t1,h3,wk,hup,ne_of_lt hup,q3']
          repeat (first|refine ⟨by omega,?_⟩|refine ⟨by simp [capMax];omega,?_⟩|refine ⟨⟨by omega,by omega⟩,?_⟩)
          refine ACallK_of (f86_ok _ _ _) ?_
          rw [q1]
          simp -dsimp [h1,ne_of_lt h1,p1,ne_of_lt p1,hz,w,t1,h3,hup,ne_of_lt hup,q3']
          repeat (first|refine ⟨by omega,?_⟩|refine ⟨by simp [capMax];omega,?_⟩|refine ⟨⟨by omega,by omega⟩,?_⟩)
          refine ACallK_of (f26_ok _ _ hso hst) ?_
          cases q2:behind (nth g.commits (nth (nth g.commits i).ups j).toNat).state (nth g.commits i).state
          · have hbad:=comOk_ups p1 (show upAt g i (nth g.commits i) j = false by simp [upAt,q2])
            simp -dsimp [h1,ne_of_lt h1,p1,ne_of_lt p1,hz,w,t1,h3,hup,ne_of_lt hup,q3']
            exact graphOk_false h1 hbad
          · simp -dsimp [h1,ne_of_lt h1,p1,ne_of_lt p1,hz,w,t1,h3,hup,ne_of_lt hup,q3']
            exact Back_of (j + 1) [1,3,4,5] [(64,64),(256,256)] rfl rfl (by simp; rw [wrap64 (by omega) (by omega)]) ⟨by omega,allB_succ hall (by simp [upAt,q1,q2,q3])⟩ (by omega)
        · have q3':¬ (nth (nth g.commits i).ups (j - 1)) < (nth (nth g.commits i).ups j):=by omega
          have hbad:=comOk_ups p1 (show upAt g i (nth g.commits i) j = false by simp [upAt,hn,q3'])
          simp -dsimp [h1,ne_of_lt h1,p1,ne_of_lt p1,hz,w,t1,h3,wk,hup,ne_of_lt hup,q3,q3']
          repeat (first|refine ⟨by omega,?_⟩|refine ⟨by simp [capMax];omega,?_⟩|refine ⟨⟨by omega,by omega⟩,?_⟩)
          refine ACallK_of (f86_ok _ _ _) ?_
          rw [q1]
          simp -dsimp [h1,ne_of_lt h1,p1,ne_of_lt p1,hz,w,t1,h3,hup,ne_of_lt hup,q3,q3']
          repeat (first|refine ⟨by omega,?_⟩|refine ⟨by simp [capMax];omega,?_⟩|refine ⟨⟨by omega,by omega⟩,?_⟩)
          exact graphOk_false h1 hbad
    · obtain rfl:j = (nth g.commits i).ups.length:=by omega
      simp -dsimp [h1,ne_of_lt h1]
      have hco:comOk g i = true:=by simp [comOk,g1,g2,g3,g4,hall]
      exact Back_of (i + 1) [1,3] [(64,64)] rfl rfl (by simp; rw [wrap64 (by omega) (by omega)]) ⟨by omega,allB_succ halli hco⟩ (by omega)
  · obtain rfl:i = g.commits.length:=by omega
    simp -dsimp
    simp [graphOk,l1,hd,halli]
end Am
namespace Am
open Go
theorem nth_set {α:Type} [Cel α] (m:List α) (i x:Nat) (v:α):nth (m.set i v) x = if x = i ∧ i < m.length then v else nth m x:=by
  unfold nth
  rw [List.getD_eq_getElem?_getD,List.getD_eq_getElem?_getD,List.getElem?_set]
  by_cases e:i = x
  · subst e
    by_cases h:i < m.length
    · simp [h]
    · simp [h]
  · have e':¬ x = i:=fun h => e h.symm
    simp [e,e']
theorem nth_append_left {α:Type} [Cel α] {a b:List α} {i:Nat} (h:i < a.length):nth (a ++ b) i = nth a i:=by
  unfold nth
  rw [List.getD_eq_getElem?_getD,List.getD_eq_getElem?_getD,List.getElem?_append_left h]
theorem nth_append_right {α:Type} [Cel α] {a b:List α} {i:Nat} (h:a.length ≤ i):nth (a ++ b) i = nth b (i - a.length):=by
  unfold nth
  rw [List.getD_eq_getElem?_getD,List.getD_eq_getElem?_getD,List.getElem?_append_right h]
theorem nth_rep {α:Type} [Cel α] (n i:Nat):nth (List.replicate n (Cel.dflt:α)) i = Cel.dflt:=by
  unfold nth
  rw [List.getD_eq_getElem?_getD,List.getElem?_replicate]
  split <;> rfl
theorem nth_false (n i:Nat):nth (List.replicate n false) i = false:=nth_rep n i
def setK (m:List Bool) (us:List Int):Nat → List Bool
  | 0 => m
  | j + 1 => (setK m us j).set (nth us j).toNat true
@[simp] theorem setK_len (m:List Bool) (us:List Int):∀ j,(setK m us j).length = m.length
  | 0 => rfl
  | j + 1 => by rw [setK,List.length_set,setK_len]
theorem setK_keep {us:List Int} {i:Nat} (m:List Bool):∀ j:Nat,(∀ x,x < j → (nth us x).toNat < i) → ∀ x,i ≤ x → nth (setK m us j) x = nth m x
  | 0,_,_,_ => rfl
  | j + 1,h,x,hx => by
    have:=h j (by omega)
    rw [setK,nth_set,if_neg (by omega),setK_keep m j (fun y hy => h y (by omega)) x hx]
theorem setK_app {us:List Int} (m z:List Bool):∀ j:Nat,(∀ x,x < j → (nth us x).toNat < m.length) → setK (m ++ z) us j = setK m us j ++ z
  | 0,_ => rfl
  | j + 1,h => by
    rw [setK,setK_app m z j (fun y hy => h y (by omega)),setK,List.set_append_left _ _ (by rw [setK_len]; exact h j (by omega))]
def upsOf (g:GGraph) (i:Nat):List Int:=(nth g.commits i).ups
def stepU (g:GGraph) (m:List Bool) (i:Nat):List Bool:=if nth m i then setK m (upsOf g i) (upsOf g i).length else m
def runM (g:GGraph) (m:List Bool) (n:Nat):Nat → List Bool
  | 0 => m
  | d + 1 => stepU g (runM g m n d) (n - 1 - d)
@[simp] theorem stepU_len (g:GGraph) (m:List Bool) (i:Nat):(stepU g m i).length = m.length:=by
  unfold stepU; split
  · rw [setK_len]
  · rfl
@[simp] theorem runM_len (g:GGraph) (m:List Bool) (n:Nat):∀ d,(runM g m n d).length = m.length
  | 0 => rfl
  | d + 1 => by rw [runM,stepU_len,runM_len]
def upsLt (g:GGraph):Prop:=∀ i:Nat,i < g.commits.length → ∀ j:Nat,j < (upsOf g i).length → 0 ≤ nth (upsOf g i) j ∧ nth (upsOf g i) j < i
theorem graphOk_ups {g:GGraph} (h:graphOk g = true):upsLt g:=by
  intro i hi j hj
  simp only [graphOk,Bool.and_eq_true] at h
  have hc:=allB_iff.1 h.2 i hi
  simp only [comOk,Bool.and_eq_true] at hc
  have hu:=allB_iff.1 hc.2 j hj
  simp only [upAt,spIn,Bool.and_eq_true,decide_eq_true_eq] at hu
  unfold upsOf
  omega
theorem stepU_keep {g:GGraph} (hu:upsLt g) {i:Nat} (hi:i < g.commits.length) (m:List Bool) {x:Nat} (hx:i ≤ x):nth (stepU g m i) x = nth m x:=by
  unfold stepU
  split
  · exact setK_keep m _ (fun y hy => by have:=hu i hi y hy; omega) x hx
  · rfl
theorem runM_keep {g:GGraph} (hu:upsLt g) {n:Nat} (hn:n ≤ g.commits.length) (m:List Bool) (d:Nat):∀ e:Nat,d + e ≤ n → ∀ x,n - 1 - d ≤ x → nth (runM g m n (d + e)) x = nth (runM g m n d) x
  | 0,_,_,_ => rfl
  | e + 1,h,x,hx => by
    rw [← Nat.add_assoc,runM,stepU_keep hu (by omega) _ (by omega),runM_keep hu hn m d e (by omega) x hx]
theorem runM_at {g:GGraph} (hu:upsLt g) {n:Nat} (hn:n ≤ g.commits.length) (m:List Bool) {d:Nat} (h:d < n):nth (runM g m n d) (n - 1 - d) = nth (runM g m n n) (n - 1 - d):=by
  have:=runM_keep hu hn m d (n - d) (by omega) (n - 1 - d) (Nat.le_refl _)
  rw [show d + (n - d) = n by omega] at this
  exact this.symm
def startM (n k:Nat):List Bool:=(List.replicate n false).set k true
@[simp] theorem startM_len (n k:Nat):(startM n k).length = n:=by simp [startM]
def marks (g:GGraph) (k:Nat):List Bool:=runM g (startM (k + 1) k) (k + 1) (k + 1)
@[simp] theorem marks_len (g:GGraph) (k:Nat):(marks g k).length = k + 1:=by simp [marks]
theorem runM_skip (g:GGraph) {n k:Nat}:∀ d:Nat,d ≤ n - 1 - k → runM g (startM n k) n d = startM n k
  | 0,_ => rfl
  | d + 1,h => by
    rw [runM,runM_skip g d (by omega)]
    unfold stepU
    rw [if_neg]
    unfold startM
    rw [nth_set,if_neg (by omega),nth_false]
    simp
theorem startM_app {n k:Nat} (h:k < n):startM n k = startM (k + 1) k ++ List.replicate (n - 1 - k) false:=by
  unfold startM
  rw [← List.set_append_left _ _ (by simp),List.replicate_append_replicate]
  congr 2
  omega
theorem runM_app {g:GGraph} (hu:upsLt g) {n k:Nat} (hn:n ≤ g.commits.length) (h:k < n):∀ e:Nat,e ≤ k + 1 → runM g (startM n k) n (n - 1 - k + e) = runM g (startM (k + 1) k) (k + 1) e ++ List.replicate (n - 1 - k) false
  | 0,_ => by rw [Nat.add_zero,runM_skip g _ (Nat.le_refl _),runM,startM_app h]
  | e + 1,h' => by
    rw [← Nat.add_assoc,runM,runM_app hu hn h e (by omega),runM]
    unfold stepU
    rw [show n - 1 - (n - 1 - k + e) = k + 1 - 1 - e by omega,nth_append_left (by simp; omega)]
    split
    · rw [setK_app _ _ _ (fun y hy => by
        have e0:k + 1 - 1 - e < g.commits.length:=by omega
        have hq:k + 1 - 1 - e ≤ k:=by omega
        generalize k + 1 - 1 - e = q at e0 hy hq ⊢
        have:=hu q e0 y hy; simp; omega)]
    · rfl
def marksS (g:GGraph) (k:Nat):List Bool:=runM g (startM g.commits.length k) g.commits.length g.commits.length
theorem marksS_eq {g:GGraph} (hu:upsLt g) {k:Nat} (h:k < g.commits.length):marksS g k = marks g k ++ List.replicate (g.commits.length - 1 - k) false:=by
  have:=runM_app hu (Nat.le_refl _) h (k + 1) (Nat.le_refl _)
  rw [show g.commits.length - 1 - k + (k + 1) = g.commits.length by omega] at this
  exact this
@[simp] theorem marksS_len (g:GGraph) (k:Nat):(marksS g k).length = g.commits.length:=by simp [marksS]
def markK (m:List Bool):Nat → List Int
  | 0 => []
  | i + 1 => if nth m i then markK m i ++ [(i:Int)] else markK m i
def markD (m:List Bool) (n:Nat):Nat → List Int
  | 0 => []
  | d + 1 => if nth m (n - 1 - d) then markD m n d ++ [((n - 1 - d:Nat):Int)] else markD m n d
theorem markK_len (m:List Bool):∀ i,(markK m i).length ≤ i
  | 0 => Nat.le_refl _
  | i + 1 => by
    have:=markK_len m i
    rw [markK]; split
    · simp; omega
    · omega
theorem markD_len (m:List Bool) (n:Nat):∀ i,(markD m n i).length ≤ i
  | 0 => Nat.le_refl _
  | i + 1 => by
    have:=markD_len m n i
    rw [markD]; split
    · simp; omega
    · omega
theorem markD_rev (m:List Bool) (n:Nat):∀ d,d ≤ n → markK m (n - d) ++ (markD m n d).reverse = markK m n
  | 0,_ => by simp [markD]
  | d + 1,h => by
    rw [← markD_rev m n d (by omega)]
    have e:n - d = n - (d + 1) + 1:=by omega
    rw [e,markK,markD,show n - (d + 1) = n - 1 - d by omega]
    split <;> simp
theorem markD_eq (m:List Bool) (n:Nat):(markD m n n).reverse = markK m n:=by
  have:=markD_rev m n n (Nat.le_refl _)
  rw [Nat.sub_self] at this
  exact this
theorem markK_app (m:List Bool) (z:Nat):∀ e,markK (m ++ List.replicate z false) (m.length + e) = markK m m.length
  | 0 => by
    have:∀ i,i ≤ m.length → markK (m ++ List.replicate z false) i = markK m i:=by
      intro i
      induction i with
      | zero => intro; rfl
      | succ i ih => intro h; rw [markK,markK,ih (by omega),nth_append_left (by omega)]
    exact this _ (Nat.le_refl _)
  | e + 1 => by
    rw [← Nat.add_assoc,markK,markK_app m z e,nth_append_right (by omega),nth_false]
    rfl
def upsL (g:GGraph) (k:Nat):List Int:=markK (marks g k) (k + 1)
theorem upsL_S {g:GGraph} (hu:upsLt g) {k:Nat} (h:k < g.commits.length):markK (marksS g k) g.commits.length = upsL g k:=by
  rw [marksS_eq hu h]
  have:=markK_app (marks g k) (g.commits.length - 1 - k) (g.commits.length - 1 - k)
  rw [marks_len,show k + 1 + (g.commits.length - 1 - k) = g.commits.length by omega] at this
  exact this
def tab {α:Type} (n:Nat) (f:Nat → α):List α:=(List.range n).map f
@[simp] theorem tab_len {α:Type} (n:Nat) (f:Nat → α):(tab n f).length = n:=by simp [tab]
theorem nth_tab {α:Type} [Cel α] {n i:Nat} (f:Nat → α) (h:i < n):nth (tab n f) i = f i:=by
  rw [nth_eq (by simpa using h)]; simp [tab]
theorem tab_ext {α:Type} {n:Nat} {f g:Nat → α} (h:∀ i,i < n → f i = g i):tab n f = tab n g:=by
  unfold tab
  apply List.map_congr_left
  intro i hi
  exact h i (List.mem_range.1 hi)
theorem tab_nth {α:Type} [Cel α] (m:List α):tab m.length (nth m) = m:=by
  apply list_eq_of_nth (by simp)
  intro j hj
  rw [nth_tab _ (by simpa using hj)]
theorem tab_set {α:Type} (n i:Nat) (f:Nat → α) (v:α):(tab n f).set i v = tab n (fun x => if x = i then v else f x):=by
  unfold tab
  apply List.ext_getElem (by simp)
  intro j h1 h2
  simp only [List.length_set,List.length_map,List.length_range] at h1
  rw [List.getElem_set]
  by_cases e:i = j
  · subst e; simp
  · have:¬ j = i:=fun h => e h.symm
    simp [e,this]
def revAt (xs:List Int) (p:Nat):List Int:=tab xs.length (fun i => if i < p ∨ xs.length - p ≤ i then nth xs (xs.length - 1 - i) else nth xs i)
@[simp] theorem revAt_len (xs:List Int) (p:Nat):(revAt xs p).length = xs.length:=by simp [revAt]
theorem revAt_zero (xs:List Int):revAt xs 0 = xs:=by
  unfold revAt
  rw [tab_ext (g:=nth xs) (fun i hi => by rw [if_neg (by omega)]),tab_nth]
theorem revAt_end {xs:List Int} {p:Nat} (h:xs.length ≤ 2 * p + 1) (hp:p ≤ xs.length):revAt xs p = xs.reverse:=by
  apply list_eq_of_nth (by simp)
  intro j hj
  simp only [revAt_len] at hj
  unfold revAt
  rw [nth_tab _ hj,nth_eq (by simpa using hj:j < xs.reverse.length),List.getElem_reverse]
  split
  · rw [nth_eq (by omega)]
  · rw [nth_eq hj]; congr 1; omega
theorem revAt_step {xs:List Int} {p:Nat} (h:2 * p + 1 < xs.length):((revAt xs p).set p (nth (revAt xs p) (xs.length - 1 - p))).set (xs.length - 1 - p) (nth (revAt xs p) p) = revAt xs (p + 1):=by
  have h1:nth (revAt xs p) (xs.length - 1 - p) = nth xs (xs.length - 1 - p):=by
    unfold revAt; rw [nth_tab _ (by omega),if_neg (by omega)]
  have h2:nth (revAt xs p) p = nth xs p:=by
    unfold revAt; rw [nth_tab _ (by omega),if_neg (by omega)]
  rw [h1,h2]
  unfold revAt
  rw [tab_set,tab_set]
  apply tab_ext
  intro i hi
  by_cases e1:i = xs.length - 1 - p
  · subst e1
    rw [if_pos rfl,if_pos (by omega)]; congr 1; omega
  · rw [if_neg e1]
    by_cases e2:i = p
    · subst e2; rw [if_pos rfl,if_pos (by omega)]
    · rw [if_neg e2]
      by_cases e3:i < p ∨ xs.length - p ≤ i
      · rw [if_pos e3,if_pos (by omega)]
      · rw [if_neg e3,if_neg (by omega)]
end Am
