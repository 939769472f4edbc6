/- A commit and all that it is behind: of both. No condition. -/
import Derived.Test.YtjbbhccphedkfaaGreatT
import Derived.Test.YtjbbhccphedkfaaGreatD
import Derived.Test.YtjbbhccphedkfaaGreatE60
import Derived.Test.YtjbbhccphedkfaaGreatE56
import Derived.Test.YtjbbhccphedkfaaGreatAm31
import Derived.Test.YtjbbhccphedkfaaGreatE53
import Derived.Test.YtjbbhccphedkfaaGreatAm36
set_option linter.unusedSimpArgs false
set_option linter.unusedVariables false
set_option linter.unnecessarySimpa false
set_option linter.unusedSectionVars false
namespace Am
open Go Go.Proofs
open Cel (cells)
set_option maxRecDepth 100000
@[simp] def h139:Hts:={ merge:=fun _ => false,dr:=fun id => if id = 3 then [{},{},{ mn:=[640000] },{ mn:=[640000] },{},{},{},{},{},{},{},{},{ wr:=[640000] },{ wr:=[640000] },{ wr:=[640000] },{ wr:=[640000] }] else [] }
set_option maxHeartbeats 1000000 in
theorem f139_ok (xs:List Int) (ha:xs.length ≤ 1073741824):FnW Tryz.prog 139 [.v (.ow 3 1 xs.length (flat xs))] (.tup []) [.v (.ow 3 1 xs.reverse.length (flat xs.reverse))]:=by
  refine FnW.of_AW TryzT_ok 1 (fn:=Tryz.f139) (by kernel_rfl) rfl (by kernel_rfl) rfl rfl rfl ?_; refine AW_of h139 TryzT_ok (by kernel_rfl) ?_
  have w0:IntKind.i64.wrap ((xs.length:Int) - 1) = xs.length - 1:=wrap64 (by omega) (by omega)
  simp -dsimp [w0]
  refine AWh_loop (fun p:Nat => 2 * p ≤ xs.length) (fun p => mkE [(0,.arr 640000),(2,.c (.int .i64 p)),(3,.c (.int .i64 (xs.length - 1 - p)))] [(640000,.arr 0 3 1 xs.length (flat (revAt xs p)))]) (fun p => xs.length - p) 0 (Wk_to [0,2,3] [(640000,640000)] rfl rfl (by simp [revAt_zero])) (by simp) ?_
  rintro p hp
  refine AW_of h139 TryzT_ok (by kernel_rfl) ?_
  rcases Int.lt_or_le (p:Int) (xs.length - 1 - p) with h1 | h1
  · have t1:((xs.length:Int) - 1 - p).toNat = xs.length - 1 - p:=by omega
    have h2:p < xs.length:=by omega
    have h3:xs.length - 1 - p < xs.length:=by omega
    have wm:IntKind.i64.wrap ((xs.length:Int) - 1 - p - 1) = xs.length - 1 - (p + 1):=by rw [wrap64 (by omega) (by omega)]; omega
    have hne:¬ revAt xs p = []:=by intro e; have:=congrArg List.length e; simp at this; subst this; simp at h2
    simp -dsimp [h1,t1,h2,h3,hne]
    repeat (first|refine ⟨by omega,?_⟩|refine ⟨by simp [capMax];omega,?_⟩|refine ⟨⟨by omega,by omega⟩,?_⟩)
    trace_state
    exact Back_of (p + 1) [0,2,3] [(640000,640000)] rfl rfl (by simp [← revAt_step (xs:=xs) (p:=p) (by omega),wm]; rw [wrap64 (by omega) (by omega)]) (by omega) (by omega)
  · have h1':¬ (p:Int) < xs.length - 1 - p:=by omega
    simp -dsimp [h1']
    rw [revAt_end (by omega) (by omega)]
@[simp] def h144:Hts:={  }
theorem f144_ok (l:List Int) (x:Int) (ha:l.length ≤ 1073741824):FnR Tryz.prog 144 [.v (.im l.length (flat l)),.v (.int .i64 x)] (.v (.int .i64 (idx (fun y => decide (y = x)) l))):=by
  refine FnW.of_AW TryzT_ok 0 (fn:=Tryz.f144) (by kernel_rfl) rfl (by kernel_rfl) rfl rfl rfl ?_; refine AW_of h144 TryzT_ok (by kernel_rfl) ?_
  simp -dsimp
  refine AWh_loop (fun i:Nat => i ≤ l.length ∧ ∀ j:Nat,j < i → decide (nth l j = x) = false) (fun i => mkE [(0,.c (.im l.length (flat l))),(1,.c (.int .i64 x)),(7,.c (.int .i64 l.length)),(8,.c (.int .i64 i))] []) (fun i => l.length - i) 0 (Wk_to [0,1,7,8] [] rfl rfl (by simp)) (by simp) ?_
  rintro i ⟨hi,hall⟩
  refine AW_of h144 TryzT_ok (by kernel_rfl) ?_
  rcases Nat.lt_or_ge i l.length with h1 | h1
  · by_cases e0:x = nth l i
    · have e1:(x == nth l i) = true:=by simp [e0]
      simp -dsimp [h1,ne_of_lt h1,e1]
      rw [idx_here h1 hall (by simp [e0])]
    · have e1:(x == nth l i) = false:=by simp [e0]
      simp -dsimp [h1,ne_of_lt h1,e1]
      refine Back_of (i + 1) [0,1,7,8] [] rfl rfl (by simp; rw [wrap64 (by omega) (by omega)]) ⟨by omega,fun j hj => ?_⟩ (by omega)
      by_cases e3:j = i
      · subst e3
        rw [decide_eq_false_iff_not]
        exact fun h => e0 h.symm
      · exact hall j (by omega)
  · simp -dsimp [Nat.not_lt.2 h1]
    rw [idx_none (fun j hj => hall j (by omega))]
@[simp] def h81:Hts:={  }
theorem f81_ok (l:List Int) (x:Int) (ha:l.length ≤ 1073741824):FnR Tryz.prog 81 [.v (.im l.length (flat l)),.v (.int .i64 x)] (.v (.bool (hasX l x))):=by
  refine FnW.of_AW TryzT_ok 0 (fn:=Tryz.f81) (by kernel_rfl) rfl (by kernel_rfl) rfl rfl rfl ?_; refine AW_of h81 TryzT_ok (by kernel_rfl) ?_
  simp -dsimp
  refine ACallK_of (f144_ok _ _ ha) ?_
  simp -dsimp
  exact idx_has l
@[simp] def h77:Hts:={ merge:=fun _ => false,mergeF:=fun _ => false,lend:=fun _ => [.lend] }
set_option maxHeartbeats 4000000 in
theorem f77_ok (g:GGraph) (hu:upsLt g) (hg:g.commits.length ≤ 1073741824) (hl:∀ y,y ∈ g.commits → y.ups.length ≤ 1073741824) (k:Nat) (hk:k < g.commits.length):FnR Tryz.prog 77 [.agg [.im g.commits.length (flat g.commits),.int .i64 g.head],.v (.int .i64 k)] (.v (.ow 3 1 (upsL g k).length (flat (upsL g k)))):=by
  refine FnW.of_AW TryzT_ok 0 (fn:=Tryz.f77) (by kernel_rfl) rfl (by kernel_rfl) rfl rfl rfl ?_; refine AW_of h77 TryzT_ok (by kernel_rfl) ?_
  have w0:IntKind.i64.wrap ((k:Int) + 1) = k + 1:=wrap64 (by omega) (by omega)
  have t0:((k:Int) + 1).toNat = k + 1:=by omega
  simp -dsimp [w0,t0]
  repeat (first|refine ⟨by omega,?_⟩|refine ⟨by simp [capMax];omega,?_⟩|refine ⟨⟨by omega,by omega⟩,?_⟩)
  have hn:k + 1 ≤ g.commits.length:=hk
  refine AWh_loop (fun d:Nat => d ≤ k + 1) (fun d => mkE [(2,.box 128 0),(5,.arr 768),(6,.arr 1024),(7,.c (.int .i64 (k - d)))] [(128,.box [.c (.im g.commits.length (flat g.commits)),.c (.int .i64 g.head)]),(768,.arr 0 4 1 (k + 1) (flat (runM g (startM (k + 1) k) (k + 1) d))),(1024,.arr 0 3 1 (markD (marks g k) (k + 1) d).length (flat (markD (marks g k) (k + 1) d)))]) (fun d => k + 1 - d) 0 (Wk_to [2,5,6,7] [(128,128),(768,768),(1024,1024)] rfl rfl (by simp [startM,runM,markD])) (by simp) ?_
  rintro d hd
  have hml:=markD_len (marks g k) (k + 1) d
  have hrl:=runM_len g (startM (k + 1) k) (k + 1) d
  rw [startM_len] at hrl
  refine AW_of h77 TryzT_ok (by kernel_rfl) ?_
  rcases Nat.lt_or_ge d (k + 1) with h1 | h1
  · have g1:d ≤ k:=by omega
    have t1:((k:Int) - d).toNat = k - d:=by omega
    have t2:k - d < k + 1:=by omega
    have t3:k - d < g.commits.length:=by omega
    have hat:=runM_at hu hn (startM (k + 1) k) h1
    rw [Nat.add_sub_cancel] at hat
    have hup:=hl _ (nth_mem t3)
    have hup2:(upsOf g (k - d)).length ≤ 1073741824:=hup
    have wm:IntKind.i64.wrap ((k:Int) - d - 1) = k - (d + 1):=by rw [wrap64 (by omega) (by omega)]; omega
    have hne:¬ runM g (startM (k + 1) k) (k + 1) d = []:=by intro e; rw [e] at hrl; simp at hrl
    have hz:k + 1 - 1 - d = k - d:=by omega
    cases q:nth (runM g (startM (k + 1) k) (k + 1) d) (k - d)
    · have qm:nth (marks g k) (k - d) = false:=by rw [← q,hat]; rfl
      simp -dsimp [g1,t1,t2,hrl,hne,q]
      repeat (first|refine ⟨by omega,?_⟩|refine ⟨by simp [capMax];omega,?_⟩|refine ⟨⟨by omega,by omega⟩,?_⟩)
      exact Back_of (d + 1) [2,5,6,7] [(128,128),(768,768),(1024,1024)] rfl rfl (by simp [runM,markD,stepU,hz,q,qm,wm]) (by omega) (by omega)
    · have qm:nth (marks g k) (k - d) = true:=by rw [← q,hat]; rfl
      simp -dsimp [g1,t1,t2,t3,ne_of_lt t3,hrl,hne,q]
      repeat (first|refine ⟨by omega,?_⟩|refine ⟨by simp [capMax];omega,?_⟩|refine ⟨⟨by omega,by omega⟩,?_⟩)
      have hlt:∀ y,y < (upsOf g (k - d)).length → (nth (upsOf g (k - d)) y).toNat < k - d:=fun y hy => by have:=hu _ t3 y hy; omega
      refine AWh_loop (fun j:Nat => j ≤ (upsOf g (k - d)).length) (fun j => mkE [(2,.box 128 0),(5,.arr 768),(6,.arr 1024),(7,.c (.int .i64 (k - d))),(36,.c (.im (upsOf g (k - d)).length (flat (upsOf g (k - d))))),(37,.c (.int .i64 (upsOf g (k - d)).length)),(38,.c (.int .i64 j))] [(128,.box [.c (.im g.commits.length (flat g.commits)),.c (.int .i64 g.head)]),(768,.arr 0 4 1 (k + 1) (flat (setK (runM g (startM (k + 1) k) (k + 1) d) (upsOf g (k - d)) j))),(1024,.arr 0 3 1 ((markD (marks g k) (k + 1) d).length + 1) (flat (markD (marks g k) (k + 1) d ++ [((k - d:Nat):Int)])))]) (fun j => (upsOf g (k - d)).length - j) 0 (Wk_to [2,5,6,7,36,37,38] [(128,128),(768,768),(1024,1920)] rfl rfl (by simp [setK,upsOf,Int.ofNat_sub g1])) (by simp) ?_
      rintro j hj
      have hsl:=setK_len (runM g (startM (k + 1) k) (k + 1) d) (upsOf g (k - d)) j
      rw [hrl] at hsl
      have hne2:¬ setK (runM g (startM (k + 1) k) (k + 1) d) (upsOf g (k - d)) j = []:=by intro e; rw [e] at hsl; simp at hsl
      refine AW_of h77 TryzT_ok (by kernel_rfl) ?_
      rcases Nat.lt_or_ge j (upsOf g (k - d)).length with p1 | p1
      · have hb:=hu _ t3 j p1
        have b1:(nth (upsOf g (k - d)) j).toNat < k + 1:=by omega
        have b2:0 ≤ nth (upsOf g (k - d)) j:=hb.1
        have b3:nth (upsOf g (k - d)) j < (k:Int) + 1:=by omega
        simp -dsimp [p1,ne_of_lt p1,b1,b2,b3,hsl,hne2]
        repeat (first|refine ⟨by omega,?_⟩|refine ⟨by simp [capMax];omega,?_⟩|refine ⟨⟨by omega,by omega⟩,?_⟩)
        exact Back_of (j + 1) [2,5,6,7,36,37,38] [(128,128),(768,768),(1024,1024)] rfl rfl (by simp [setK]; rw [wrap64 (by omega) (by omega)]) (by omega) (by omega)
      · obtain rfl:j = (upsOf g (k - d)).length:=by omega
        simp -dsimp
        exact Back_of (d + 1) [2,5,6,7] [(128,128),(768,768),(1024,1024)] rfl rfl (by simp [runM,markD,stepU,hz,q,qm,wm]) (by omega) (by omega)
  · obtain rfl:d = k + 1:=by omega
    have g1:¬ (k:Int) + 1 ≤ k:=by omega
    simp -dsimp [g1]
    refine ACallW_go ?_
    refine ACallC_go (fun us => f139_ok (markD (marks g k) (k + 1) (k + 1)) (by omega)) ?_
    have he:(markD (marks g k) (k + 1) (k + 1)).reverse = upsL g k:=markD_eq _ _
    have hle:(markD (marks g k) (k + 1) (k + 1)).length = (upsL g k).length:=by rw [← he,List.length_reverse]
    simp -dsimp [he,hle]
@[simp] def h88:Hts:={ merge:=fun _ => false,mergeF:=fun _ => false }
set_option maxHeartbeats 4000000 in
theorem f88_ok (g:GGraph) (hu:upsLt g) (hg:g.commits.length ≤ 1073741824) (hl:∀ y,y ∈ g.commits → y.ups.length ≤ 1073741824) (k:Nat) (hk:k < g.commits.length):FnR Tryz.prog 88 [.agg [.im g.commits.length (flat g.commits),.int .i64 g.head],.v (.int .i64 k)] (.v (.ow 4 1 (marksS g k).length (flat (marksS g k)))):=by
  refine FnW.of_AW TryzT_ok 0 (fn:=Tryz.f88) (by kernel_rfl) rfl (by kernel_rfl) rfl rfl rfl ?_; refine AW_of h88 TryzT_ok (by kernel_rfl) ?_
  have w0:IntKind.i64.wrap ((g.commits.length:Int) - 1) = g.commits.length - 1:=wrap64 (by omega) (by omega)
  have hn0:¬ g.commits = []:=ne_of_lt hk
  simp -dsimp [w0,hk,hn0]
  repeat (first|refine ⟨by omega,?_⟩|refine ⟨by simp [capMax];omega,?_⟩|refine ⟨⟨by omega,by omega⟩,?_⟩)
  refine AWh_loop (fun d:Nat => d ≤ g.commits.length) (fun d => mkE [(2,.box 128 0),(5,.arr 704),(6,.c (.int .i64 (g.commits.length - 1 - d)))] [(128,.box [.c (.im g.commits.length (flat g.commits)),.c (.int .i64 g.head)]),(704,.arr 0 4 1 g.commits.length (flat (runM g (startM g.commits.length k) g.commits.length d)))]) (fun d => g.commits.length - d) 0 (Wk_to [2,5,6] [(128,128),(704,704)] rfl rfl (by simp [startM,runM])) (by simp) ?_
  rintro d hd
  have hrl:=runM_len g (startM g.commits.length k) g.commits.length d
  rw [startM_len] at hrl
  refine AW_of h88 TryzT_ok (by kernel_rfl) ?_
  rcases Nat.lt_or_ge d g.commits.length with h1 | h1
  · have g1:(d:Int) ≤ g.commits.length - 1:=by omega
    have t1:((g.commits.length:Int) - 1 - d).toNat = g.commits.length - 1 - d:=by omega
    have t3:g.commits.length - 1 - d < g.commits.length:=by omega
    have hup:=hl _ (nth_mem t3)
    have hup2:(upsOf g (g.commits.length - 1 - d)).length ≤ 1073741824:=hup
    have wm:IntKind.i64.wrap ((g.commits.length:Int) - 1 - d - 1) = g.commits.length - 1 - (d + 1):=by rw [wrap64 (by omega) (by omega)]; omega
    have hlt:∀ y,y < (upsOf g (g.commits.length - 1 - d)).length → (nth (upsOf g (g.commits.length - 1 - d)) y).toNat < g.commits.length - 1 - d:=fun y hy => by have:=hu _ t3 y hy; omega
    simp -dsimp [g1]
    refine AWh_loop (fun j:Nat => j ≤ (upsOf g (g.commits.length - 1 - d)).length ∧ (0 < j → nth (runM g (startM g.commits.length k) g.commits.length d) (g.commits.length - 1 - d) = true)) (fun j => mkE [(2,.box 128 0),(5,.arr 704),(6,.c (.int .i64 (g.commits.length - 1 - d))),(7,.c (.int .i64 j))] [(128,.box [.c (.im g.commits.length (flat g.commits)),.c (.int .i64 g.head)]),(704,.arr 0 4 1 g.commits.length (flat (setK (runM g (startM g.commits.length k) g.commits.length d) (upsOf g (g.commits.length - 1 - d)) j)))]) (fun j => (upsOf g (g.commits.length - 1 - d)).length - j) 0 (Wk_to [2,5,6,7] [(128,128),(704,704)] rfl rfl (by simp [setK])) (by simp) ?_
    rintro j ⟨hj,hjt⟩
    have hsl:=setK_len (runM g (startM g.commits.length k) g.commits.length d) (upsOf g (g.commits.length - 1 - d)) j
    rw [hrl] at hsl
    have hkeep:=setK_keep (runM g (startM g.commits.length k) g.commits.length d) j (fun y hy => hlt y (by omega)) (g.commits.length - 1 - d) (Nat.le_refl _)
    have hne2:¬ setK (runM g (startM g.commits.length k) g.commits.length d) (upsOf g (g.commits.length - 1 - d)) j = []:=by intro e; rw [e] at hsl; simp at hsl; omega
    refine AW_of h88 TryzT_ok (by kernel_rfl) ?_
    rcases Nat.lt_or_ge j (upsOf g (g.commits.length - 1 - d)).length with p1 | p1
    · have p1':j < (nth g.commits (g.commits.length - 1 - d)).ups.length:=p1
      cases q:nth (runM g (startM g.commits.length k) g.commits.length d) (g.commits.length - 1 - d)
      · rw [q] at hkeep
        simp -dsimp [t1,t3,ne_of_lt t3,p1',ne_of_lt p1',hsl,hne2,hkeep,g1]
        repeat (first|refine ⟨by omega,?_⟩|refine ⟨by simp [capMax];omega,?_⟩|refine ⟨⟨by omega,by omega⟩,?_⟩)
        obtain rfl:j = 0:=by
          rcases Nat.eq_zero_or_pos j with h | h
          · exact h
          · rw [hjt h] at q; cases q
        exact Back_of (d + 1) [2,5,6] [(128,128),(704,704)] rfl rfl (by simp [runM,stepU,setK,q,wm]) (by omega) (by omega)
      · rw [q] at hkeep
        have hb:=hu _ t3 j p1
        have b1:(nth (upsOf g (g.commits.length - 1 - d)) j).toNat < g.commits.length:=by omega
        have b2:0 ≤ nth (upsOf g (g.commits.length - 1 - d)) j:=hb.1
        have b3:nth (upsOf g (g.commits.length - 1 - d)) j < (g.commits.length:Int):=by omega
        have eu:(nth g.commits (g.commits.length - 1 - d)).ups = upsOf g (g.commits.length - 1 - d):=rfl
        simp -dsimp [t1,t3,ne_of_lt t3,eu,p1,ne_of_lt p1,hsl,hne2,hkeep,g1,b1,b2,b3]
        repeat (first|refine ⟨by omega,?_⟩|refine ⟨by simp [capMax];omega,?_⟩|refine ⟨⟨by omega,by omega⟩,?_⟩)
        exact Back_of (j + 1) [2,5,6,7] [(128,128),(704,704)] rfl rfl (by simp [setK]; rw [wrap64 (by omega) (by omega)]) ⟨by omega,fun _ => rfl⟩ (by omega)
    · have p1':¬ j < (nth g.commits (g.commits.length - 1 - d)).ups.length:=by have:(upsOf g (g.commits.length - 1 - d)).length = (nth g.commits (g.commits.length - 1 - d)).ups.length:=rfl; omega
      simp -dsimp [t1,t3,ne_of_lt t3,p1',hsl,hne2,g1]
      repeat (first|refine ⟨by omega,?_⟩|refine ⟨by simp [capMax];omega,?_⟩|refine ⟨⟨by omega,by omega⟩,?_⟩)
      obtain rfl:j = (upsOf g (g.commits.length - 1 - d)).length:=by omega
      refine Back_of (d + 1) [2,5,6] [(128,128),(704,704)] rfl rfl (by
        simp [runM,stepU,setK,wm]
        cases q:nth (runM g (startM g.commits.length k) g.commits.length d) (g.commits.length - 1 - d)
        · rcases Nat.eq_zero_or_pos (upsOf g (g.commits.length - 1 - d)).length with h | h
          · simp [h,setK]
          · rw [hjt h] at q; cases q
        · simp) (by omega) (by omega)
  · obtain rfl:d = g.commits.length:=by omega
    have g1:¬ (g.commits.length:Int) ≤ g.commits.length - 1:=by omega
    simp -dsimp [g1]
    simp [marksS]
@[simp] def h87:Hts:={ merge:=fun _ => false,mergeF:=fun _ => false }
set_option maxHeartbeats 4000000 in
theorem f87_ok (m:List Bool) (hm:m.length ≤ 1073741824):FnR Tryz.prog 87 [.v (.im m.length (flat m))] (.v (.ow 3 1 (markK m m.length).length (flat (markK m m.length)))):=by
  refine FnW.of_AW TryzT_ok 0 (fn:=Tryz.f87) (by kernel_rfl) rfl (by kernel_rfl) rfl rfl rfl ?_; refine AW_of h87 TryzT_ok (by kernel_rfl) ?_
  simp -dsimp
  refine AWh_loop (fun i:Nat => i ≤ m.length) (fun i => mkE [(0,.c (.im m.length (flat m))),(3,.arr 320),(4,.c (.int .i64 i))] [(320,.arr 0 3 1 (markK m i).length (flat (markK m i)))]) (fun i => m.length - i) 0 (Wk_to [0,3,4] [(320,320)] rfl rfl (by simp [markK])) (by simp) ?_
  rintro i hi
  have hml:=markK_len m i
  refine AW_of h87 TryzT_ok (by kernel_rfl) ?_
  rcases Nat.lt_or_ge i m.length with h1 | h1
  · cases q:nth m i
    · simp -dsimp [h1,ne_of_lt h1,q]
      exact Back_of (i + 1) [0,3,4] [(320,320)] rfl rfl (by simp [markK,q]; rw [wrap64 (by omega) (by omega)]) (by omega) (by omega)
    · simp -dsimp [h1,ne_of_lt h1,q]
      repeat (first|refine ⟨by omega,?_⟩|refine ⟨by simp [capMax];omega,?_⟩|refine ⟨⟨by omega,by omega⟩,?_⟩)
      exact Back_of (i + 1) [0,3,4] [(320,1216)] rfl rfl (by simp [markK,q]; rw [wrap64 (by omega) (by omega)]) (by omega) (by omega)
  · obtain rfl:i = m.length:=by omega
    simp -dsimp
def upsR (g:GGraph) (k:Int):List Int:=if spIn k 0 (g.commits.length - 1) && graphOk g then upsL g k.toNat else []
@[simp] def h28:Hts:={ merge:=fun _ => false,mergeF:=fun _ => false }
theorem f28_ok (g:GGraph) (hg:g.Ok) (k:Int):FnR Tryz.prog 28 [.agg [.im g.commits.length (flat g.commits),.int .i64 g.head],.v (.int .i64 k)] (.v (.ow 3 1 (upsR g k).length (flat (upsR g k)))):=by
  have hgo:=hg
  simp only [GGraph.Ok] at hg
  have hl:∀ y,y ∈ g.commits → y.ups.length ≤ 1073741824:=fun y hy => by have:=hg.2 y hy; simp only [GCommit.Ok] at this; exact this.1
  refine FnW.of_AW TryzT_ok 0 (fn:=Tryz.f28) (by kernel_rfl) rfl (by kernel_rfl) rfl rfl rfl ?_; refine AW_of h28 TryzT_ok (by kernel_rfl) ?_
  simp -dsimp
  refine ACallK_of (f75_ok _ _ hg.1) ?_
  cases q1:spIn k 0 (g.commits.length - 1)
  · simp -dsimp
    simp [upsR,q1]
  · simp -dsimp
    refine ACallK_of (f25_ok _ hgo) ?_
    cases q2:graphOk g
    · simp -dsimp
      simp [upsR,q2]
    · have hk:=q1
      simp only [spIn,Bool.and_eq_true,decide_eq_true_eq] at hk
      obtain ⟨n,rfl⟩:∃ n:Nat,k = n:=⟨k.toNat,by omega⟩
      simp -dsimp
      refine ACallK_of (f77_ok _ (graphOk_ups q2) hg.1 hl n (by omega)) ?_
      simp -dsimp
      simp [upsR,q1,q2]
@[simp] def h29:Hts:={ merge:=fun _ => false,mergeF:=fun _ => false }
theorem f29_ok (g:GGraph) (hg:g.Ok) (k:Int):FnR Tryz.prog 29 [.agg [.im g.commits.length (flat g.commits),.int .i64 g.head],.v (.int .i64 k)] (.v (.ow 3 1 (upsR g k).length (flat (upsR g k)))):=by
  have hgo:=hg
  simp only [GGraph.Ok] at hg
  have hl:∀ y,y ∈ g.commits → y.ups.length ≤ 1073741824:=fun y hy => by have:=hg.2 y hy; simp only [GCommit.Ok] at this; exact this.1
  have w0:IntKind.i64.wrap ((g.commits.length:Int) - 1) = g.commits.length - 1:=wrap64 (by omega) (by omega)
  refine FnW.of_AW TryzT_ok 0 (fn:=Tryz.f29) (by kernel_rfl) rfl (by kernel_rfl) rfl rfl rfl ?_; refine AW_of h29 TryzT_ok (by kernel_rfl) ?_
  simp -dsimp
  refine ACallK_of (f85_ok _ hgo) ?_
  cases q2:graphOk g
  · simp -dsimp
    simp [upsR,q2]
  · simp -dsimp [w0]
    refine ACallK_of (f86_ok _ _ _) ?_
    cases q1:spIn k 0 (g.commits.length - 1)
    · simp -dsimp
      simp [upsR,q1]
    · have hk:=q1
      simp only [spIn,Bool.and_eq_true,decide_eq_true_eq] at hk
      obtain ⟨n,rfl⟩:∃ n:Nat,k = n:=⟨k.toNat,by omega⟩
      have hu:=graphOk_ups q2
      have h2:=f87_ok (marksS g n) (by simp; omega)
      rw [marksS_len,upsL_S hu (by omega)] at h2
      simp -dsimp
      refine ACallK_of (f88_ok _ hu hg.1 hl n (by omega)) ?_
      simp -dsimp
      refine ACallK_of (h2) ?_
      simp -dsimp
      simp [upsR,q1,q2]
end Am
namespace Am
open Go Go.Proofs
open Cel (cells)
set_option maxRecDepth 100000
def markF (p:Nat → Bool):Nat → List Int
  | 0 => []
  | i + 1 => if p i then markF p i ++ [(i:Int)] else markF p i
theorem markK_F (m:List Bool):∀ n,markK m n = markF (nth m) n
  | 0 => rfl
  | n + 1 => by rw [markK,markF,markK_F m n]
theorem markF_ext {p q:Nat → Bool}:∀ n:Nat,(∀ i,i < n → p i = q i) → markF p n = markF q n
  | 0,_ => rfl
  | n + 1,h => by rw [markF,markF,markF_ext n (fun i hi => h i (by omega)),h n (by omega)]
theorem markF_mem {p:Nat → Bool} {y:Int}:∀ {n:Nat},y ∈ markF p n ↔ ∃ i:Nat,i < n ∧ p i = true ∧ y = i
  | 0 => by simp [markF]
  | n + 1 => by
    have ih:=markF_mem (p:=p) (y:=y) (n:=n)
    rw [markF]
    constructor
    · intro h
      have:y ∈ markF p n ∨ (p n = true ∧ y = n):=by
        split at h
        · rename_i hp
          rcases List.mem_append.1 h with h | h
          · exact Or.inl h
          · right; exact ⟨hp,by simpa using h⟩
        · exact Or.inl h
      rcases this with h | h
      · obtain ⟨i,h1,h2,h3⟩:=ih.1 h
        exact ⟨i,by omega,h2,h3⟩
      · exact ⟨n,by omega,h⟩
    · rintro ⟨i,h1,h2,h3⟩
      by_cases e:i = n
      · subst e; rw [if_pos h2]; simp [h3]
      · have:=ih.2 ⟨i,by omega,h2,h3⟩
        split
        · simp [this]
        · exact this
theorem markF_filter (p:Nat → Bool) (q:Int → Bool):∀ n,(markF p n).filter q = markF (fun i => p i && q i) n
  | 0 => rfl
  | n + 1 => by
    rw [markF,markF]
    cases hp:p n
    · simp [markF_filter p q n]
    · cases hq:q n <;> simp [markF_filter p q n,hq]
theorem markF_len (p:Nat → Bool):∀ n,(markF p n).length ≤ n
  | 0 => Nat.le_refl _
  | n + 1 => by
    have:=markF_len p n
    rw [markF]; split
    · simp; omega
    · omega
theorem upsL_mem {g:GGraph} (hu:upsLt g) {k:Nat} (h:k < g.commits.length) (x:Nat):hasX (upsL g k) (x:Int) = (decide (x < g.commits.length) && nth (marksS g k) x):=by
  rw [Bool.eq_iff_iff,← upsL_S hu h,markK_F]
  simp only [hasX,decide_eq_true_eq,Bool.and_eq_true]
  rw [markF_mem]
  constructor
  · rintro ⟨i,h1,h2,h3⟩
    have:x = i:=by omega
    subst this; exact ⟨h1,h2⟩
  · rintro ⟨h1,h2⟩
    exact ⟨x,h1,h2,rfl⟩
theorem marksS_le {g:GGraph} (hu:upsLt g) {k:Nat} (h:k < g.commits.length) {x:Nat} (hx:nth (marksS g k) x = true):x ≤ k:=by
  rcases Nat.lt_or_ge k x with h1 | h1
  · rw [marksS_eq hu h,nth_append_right (by simp; omega),nth_false] at hx; cases hx
  · exact h1
def bothU (g:GGraph) (a b:Nat) (i:Nat):Bool:=nth (marksS g a) i && nth (marksS g b) i
def clrK (m b:List Bool):Nat → List Bool
  | 0 => m
  | k + 1 => if nth b k then (clrK m b k).set k false else clrK m b k
def topK (g:GGraph) (bs:List Bool):Nat → List Bool
  | 0 => bs
  | i + 1 => if nth bs i then clrK (topK g bs i) (marksS g i) i else topK g bs i
@[simp] theorem clrK_len (m b:List Bool):∀ k,(clrK m b k).length = m.length
  | 0 => rfl
  | k + 1 => by rw [clrK]; split <;> simp [clrK_len m b k]
@[simp] theorem topK_len (g:GGraph) (bs:List Bool):∀ k,(topK g bs k).length = bs.length
  | 0 => rfl
  | k + 1 => by rw [topK]; split <;> simp [topK_len g bs k]
def joinP (g:GGraph) (a b:Nat) (x:Nat):Bool:=bothU g a b x && allB (fun j => !(bothU g a b j && decide (x < j) && nth (marksS g j) x)) g.commits.length
def joinL (g:GGraph) (a b:Nat):List Int:=markF (joinP g a b) g.commits.length
def inBoth (g:GGraph) (a b:Nat):List Int:=filK (fun o => hasX (upsL g b) o) [] (upsL g a) (upsL g a).length
theorem inBoth_eq {g:GGraph} (hu:upsLt g) {a b:Nat} (ha:a < g.commits.length) (hb:b < g.commits.length):inBoth g a b = markF (bothU g a b) g.commits.length:=by
  unfold inBoth
  rw [filK_filter _ _ _ (Nat.le_refl _),List.take_length,← upsL_S hu ha,markK_F,markF_filter]
  apply markF_ext
  intro i hi
  rw [upsL_mem hu hb]
  simp [hi,bothU]
def offP (g:GGraph) (l:List Int) (k:Int) (j:Nat):Bool:=!(!decide (nth l j = k) && hasX (upsL g (nth l j).toNat) k)
def goodP (g:GGraph) (l:List Int) (k:Int):Bool:=allB (offP g l k) l.length
theorem joinL_M {g:GGraph} (hu:upsLt g) {a b:Nat} (ha:a < g.commits.length) (hb:b < g.commits.length):filK (goodP g (inBoth g a b)) [] (inBoth g a b) (inBoth g a b).length = joinL g a b:=by
  rw [filK_filter _ _ _ (Nat.le_refl _),List.take_length,inBoth_eq hu ha hb,markF_filter]
  apply markF_ext
  intro i hi
  rw [joinP]
  cases hbi:bothU g a b i
  · rfl
  rw [Bool.true_and,Bool.true_and,Bool.eq_iff_iff,goodP,allB_iff,allB_iff]
  constructor
  · intro h j hj
    cases hbj:bothU g a b j
    · rfl
    rcases Nat.lt_or_ge i j with h1 | h1
    · have hm:(j:Int) ∈ markF (bothU g a b) g.commits.length:=markF_mem.2 ⟨j,hj,hbj,rfl⟩
      obtain ⟨x,hx,ex⟩:=List.mem_iff_getElem.1 hm
      have:=h x hx
      rw [offP,nth_eq hx,ex,Int.toNat_natCast,upsL_mem hu hj] at this
      have e1:decide ((j:Int) = (i:Int)) = false:=by rw [decide_eq_false_iff_not]; omega
      simpa [e1,hi,h1] using this
    · have e1:decide (i < j) = false:=by rw [decide_eq_false_iff_not]; omega
      simp [e1]
  · intro h x hx
    have hm:=nth_mem hx
    obtain ⟨j,hj,hbj,ej⟩:=markF_mem.1 hm
    rw [offP,ej,Int.toNat_natCast,upsL_mem hu hj]
    have:=h j hj
    rw [hbj] at this
    cases hmm:nth (marksS g j) i
    · simp
    · have hle:=marksS_le hu hj hmm
      rw [hmm] at this
      have e2:¬ i < j:=by simpa using this
      have:i = j:=by omega
      subst this
      simp
def jointsR (g:GGraph) (a b:Int):List Int:=if spIn a 0 (g.commits.length - 1) && spIn b 0 (g.commits.length - 1) && graphOk g then joinL g a.toNat b.toNat else []
theorem upsL_len (g:GGraph) (k:Nat):(upsL g k).length ≤ k + 1:=markK_len _ _
theorem inBoth_len (g:GGraph) (a b:Nat):(inBoth g a b).length ≤ a + 1:=by
  have:=filK_len (fun o => hasX (upsL g b) o) [] (upsL g a) (upsL g a).length
  have:=upsL_len g a
  unfold inBoth
  simp only [List.length_nil] at *
  omega
theorem inBoth_at {g:GGraph} (hu:upsLt g) {a b:Nat} (ha:a < g.commits.length) (hb:b < g.commits.length) {j:Nat} (h:j < (inBoth g a b).length):∃ o:Nat,o < g.commits.length ∧ nth (inBoth g a b) j = o:=by
  have hm:=nth_mem h
  rw [inBoth_eq hu ha hb] at hm
  obtain ⟨o,h1,_,h2⟩:=markF_mem.1 hm
  rw [inBoth_eq hu ha hb]
  exact ⟨o,h1,h2⟩
@[simp] def h27:Hts:={ merge:=fun _ => false,mergeF:=fun _ => false }
set_option maxHeartbeats 4000000 in
theorem f27_ok (g:GGraph) (hg:g.Ok) (a b:Int):FnR Tryz.prog 27 [.agg [.im g.commits.length (flat g.commits),.int .i64 g.head],.v (.int .i64 a),.v (.int .i64 b)] (.v (.ow 3 1 (jointsR g a b).length (flat (jointsR g a b)))):=by
  have hgo:=hg
  simp only [GGraph.Ok] at hg
  have hl:∀ y,y ∈ g.commits → y.ups.length ≤ 1073741824:=fun y hy => by have:=hg.2 y hy; simp only [GCommit.Ok] at this; exact this.1
  refine FnW.of_AW TryzT_ok 0 (fn:=Tryz.f27) (by kernel_rfl) rfl (by kernel_rfl) rfl rfl rfl ?_; refine AW_of h27 TryzT_ok (by kernel_rfl) ?_
  simp -dsimp
  refine ACallK_of (f75_ok _ _ hg.1) ?_
  cases q1:spIn a 0 (g.commits.length - 1)
  · simp -dsimp
    simp [jointsR,q1]
  simp -dsimp
  refine ACallK_of (f75_ok _ _ hg.1) ?_
  cases q2:spIn b 0 (g.commits.length - 1)
  · simp -dsimp
    simp [jointsR,q2]
  simp -dsimp
  refine ACallK_of (f25_ok _ hgo) ?_
  cases q3:graphOk g
  · simp -dsimp
    simp [jointsR,q3]
  have hk:=q1
  simp only [spIn,Bool.and_eq_true,decide_eq_true_eq] at hk
  obtain ⟨n,rfl⟩:∃ n:Nat,a = n:=⟨a.toNat,by omega⟩
  have hk2:=q2
  simp only [spIn,Bool.and_eq_true,decide_eq_true_eq] at hk2
  obtain ⟨m,rfl⟩:∃ n:Nat,b = n:=⟨b.toNat,by omega⟩
  have hu:=graphOk_ups q3
  have hn:n < g.commits.length:=by omega
  have hm:m < g.commits.length:=by omega
  have ln:=upsL_len g n
  have lm:=upsL_len g m
  simp -dsimp
  refine ACallK_of (f77_ok _ hu hg.1 hl m hm) ?_
  simp -dsimp
  refine ACallK_of (f77_ok _ hu hg.1 hl n hn) ?_
  simp -dsimp
  refine AWh_loop (fun i:Nat => i ≤ (upsL g n).length) (fun i => mkE [(3,.box 192 0),(7,.arr 1088),(8,.arr 2304),(9,.arr 2368),(40,.arr 2560),(41,.c (.int .i64 (upsL g n).length)),(42,.c (.int .i64 i))] [(192,.box [.c (.im g.commits.length (flat g.commits)),.c (.int .i64 g.head)]),(1088,.arr 0 3 1 0 []),(2304,.arr 0 3 1 (upsL g m).length (flat (upsL g m))),(2368,.arr 0 3 1 (filK (fun o => hasX (upsL g m) o) [] (upsL g n) i).length (flat (filK (fun o => hasX (upsL g m) o) [] (upsL g n) i))),(2560,.arr 0 3 1 (upsL g n).length (flat (upsL g n)))]) (fun i => (upsL g n).length - i) 0 (Wk_to [3,7,8,9,40,41,42] [(192,192),(1088,1088),(2304,2304),(2368,2368),(2560,2560)] rfl rfl (by simp [filK])) (by simp) ?_
  rintro i hi
  have hfl:=filK_len (fun o => hasX (upsL g m) o) [] (upsL g n) i
  simp only [List.length_nil] at hfl
  refine AW_of h27 TryzT_ok (by kernel_rfl) ?_
  rcases Nat.lt_or_ge i (upsL g n).length with h1 | h1
  · simp -dsimp [h1,ne_of_lt h1]
    repeat (first|refine ⟨by omega,?_⟩|refine ⟨by simp [capMax];omega,?_⟩|refine ⟨⟨by omega,by omega⟩,?_⟩)
    refine ACallK_of (f81_ok _ _ (by omega)) ?_
    cases q:hasX (upsL g m) (nth (upsL g n) i)
    · have hs:filK (fun o => hasX (upsL g m) o) [] (upsL g n) (i + 1) = filK (fun o => hasX (upsL g m) o) [] (upsL g n) i:=by simp [filK,q]
      simp -dsimp
      exact Back_of (i + 1) [3,7,8,9,40,41,42] [(192,192),(1088,1088),(2304,2304),(2368,2368),(2560,2560)] rfl rfl (by simp [hs]; rw [wrap64 (by omega) (by omega)]) (by omega) (by omega)
    · have hs:filK (fun o => hasX (upsL g m) o) [] (upsL g n) (i + 1) = filK (fun o => hasX (upsL g m) o) [] (upsL g n) i ++ [nth (upsL g n) i]:=by simp [filK,q]
      simp -dsimp
      repeat (first|refine ⟨by omega,?_⟩|refine ⟨by simp [capMax];omega,?_⟩|refine ⟨⟨by omega,by omega⟩,?_⟩)
      exact Back_of (i + 1) [3,7,8,9,40,41,42] [(192,192),(1088,1088),(2304,2304),(2368,3328),(2560,2560)] rfl rfl (by simp [hs]; rw [wrap64 (by omega) (by omega)]) (by omega) (by omega)
  obtain rfl:i = (upsL g n).length:=by omega
  have hbl:=inBoth_len g n m
  simp -dsimp
  refine AWh_loop (fun i:Nat => i ≤ (inBoth g n m).length) (fun i => mkE [(3,.box 192 0),(7,.arr 1088),(9,.arr 2368),(54,.arr 2368),(55,.c (.int .i64 (inBoth g n m).length)),(56,.c (.int .i64 i))] [(192,.box [.c (.im g.commits.length (flat g.commits)),.c (.int .i64 g.head)]),(1088,.arr 0 3 1 (filK (goodP g (inBoth g n m)) [] (inBoth g n m) i).length (flat (filK (goodP g (inBoth g n m)) [] (inBoth g n m) i))),(2368,.arr 0 3 1 (inBoth g n m).length (flat (inBoth g n m)))]) (fun i => (inBoth g n m).length - i) 0 (Wk_to [3,7,9,54,55,56] [(192,192),(1088,1088),(2368,2368)] rfl rfl (by simp [filK,inBoth])) (by simp) ?_
  clear hfl hi h1
  rintro i hi
  have hfl:=filK_len (goodP g (inBoth g n m)) [] (inBoth g n m) i
  simp only [List.length_nil] at hfl
  refine AW_of h27 TryzT_ok (by kernel_rfl) ?_
  rcases Nat.lt_or_ge i (inBoth g n m).length with h1 | h1
  · simp -dsimp [h1,ne_of_lt h1]
    refine AWh_loop (fun j:Nat => j ≤ (inBoth g n m).length) (fun j => mkE [(3,.box 192 0),(7,.arr 1088),(9,.arr 2368),(13,.c (.int .i64 (nth (inBoth g n m) i))),(14,.c (.bool (!allB (offP g (inBoth g n m) (nth (inBoth g n m) i)) j))),(54,.arr 2368),(55,.c (.int .i64 (inBoth g n m).length)),(56,.c (.int .i64 i)),(60,.arr 2368),(61,.c (.int .i64 (inBoth g n m).length)),(62,.c (.int .i64 j))] [(192,.box [.c (.im g.commits.length (flat g.commits)),.c (.int .i64 g.head)]),(1088,.arr 0 3 1 (filK (goodP g (inBoth g n m)) [] (inBoth g n m) i).length (flat (filK (goodP g (inBoth g n m)) [] (inBoth g n m) i))),(2368,.arr 0 3 1 (inBoth g n m).length (flat (inBoth g n m)))]) (fun j => (inBoth g n m).length - j) 0 (Wk_to [3,7,9,13,14,54,55,56,60,61,62] [(192,192),(1088,1088),(2368,2368)] rfl rfl (by simp [allB])) (by simp) ?_
    rintro j hj
    refine AW_of h27 TryzT_ok (by kernel_rfl) ?_
    rcases Nat.lt_or_ge j (inBoth g n m).length with p1 | p1
    · obtain ⟨o,ho,eo⟩:=inBoth_at hu hn hm p1
      have lo:=upsL_len g o
      by_cases e:nth (inBoth g n m) j = nth (inBoth g n m) i
      · have b1:(nth (inBoth g n m) j != nth (inBoth g n m) i) = false:=by simp [e]
        have hof:offP g (inBoth g n m) (nth (inBoth g n m) i) j = true:=by simp [offP,e]
        simp -dsimp [p1,ne_of_lt p1,b1]
        repeat (first|refine ⟨by omega,?_⟩|refine ⟨by simp [capMax];omega,?_⟩|refine ⟨⟨by omega,by omega⟩,?_⟩)
        exact Back_of (j + 1) [3,7,9,13,14,54,55,56,60,61,62] [(192,192),(1088,1088),(2368,2368)] rfl rfl (by simp [allB,hof]; rw [wrap64 (by omega) (by omega)]) (by omega) (by omega)
      · have b1:(nth (inBoth g n m) j != nth (inBoth g n m) i) = true:=by simp [e]
        have hof:offP g (inBoth g n m) (nth (inBoth g n m) i) j = !hasX (upsL g o) (nth (inBoth g n m) i):=by
          have e':¬ (o:Int) = nth (inBoth g n m) i:=by rw [← eo]; exact e
          simp [offP,eo,e']
        have b2:(((o:Int) != nth (inBoth g n m) i)) = true:=by rw [← eo]; exact b1
        simp -dsimp [p1,ne_of_lt p1,eo,b2]
        repeat (first|refine ⟨by omega,?_⟩|refine ⟨by simp [capMax];omega,?_⟩|refine ⟨⟨by omega,by omega⟩,?_⟩)
        refine ACallK_of (f77_ok _ hu hg.1 hl o ho) ?_
        simp -dsimp
        refine ACallK_of (f81_ok _ _ (by omega)) ?_
        cases q:hasX (upsL g o) (nth (inBoth g n m) i)
        · rw [q] at hof
          simp -dsimp
          repeat (first|refine ⟨by omega,?_⟩|refine ⟨by simp [capMax];omega,?_⟩|refine ⟨⟨by omega,by omega⟩,?_⟩)
          exact Back_of (j + 1) [3,7,9,13,14,54,55,56,60,61,62] [(192,192),(1088,1088),(2368,2368)] rfl rfl (by simp [allB,hof]; rw [wrap64 (by omega) (by omega)]) (by omega) (by omega)
        · rw [q] at hof
          simp -dsimp
          repeat (first|refine ⟨by omega,?_⟩|refine ⟨by simp [capMax];omega,?_⟩|refine ⟨⟨by omega,by omega⟩,?_⟩)
          exact Back_of (j + 1) [3,7,9,13,14,54,55,56,60,61,62] [(192,192),(1088,1088),(2368,2368)] rfl rfl (by simp [allB,hof]; rw [wrap64 (by omega) (by omega)]) (by omega) (by omega)
    · obtain rfl:j = (inBoth g n m).length:=by omega
      have hgo2:allB (offP g (inBoth g n m) (nth (inBoth g n m) i)) (inBoth g n m).length = goodP g (inBoth g n m) (nth (inBoth g n m) i):=rfl
      cases q:goodP g (inBoth g n m) (nth (inBoth g n m) i)
      · have hs:filK (goodP g (inBoth g n m)) [] (inBoth g n m) (i + 1) = filK (goodP g (inBoth g n m)) [] (inBoth g n m) i:=by simp [filK,q]
        rw [q] at hgo2
        simp -dsimp [hgo2]
        exact Back_of (i + 1) [3,7,9,54,55,56] [(192,192),(1088,1088),(2368,2368)] rfl rfl (by simp [hs]; rw [wrap64 (by omega) (by omega)]) (by omega) (by omega)
      · have hs:filK (goodP g (inBoth g n m)) [] (inBoth g n m) (i + 1) = filK (goodP g (inBoth g n m)) [] (inBoth g n m) i ++ [nth (inBoth g n m) i]:=by simp [filK,q]
        rw [q] at hgo2
        simp -dsimp [hgo2]
        repeat (first|refine ⟨by omega,?_⟩|refine ⟨by simp [capMax];omega,?_⟩|refine ⟨⟨by omega,by omega⟩,?_⟩)
        exact Back_of (i + 1) [3,7,9,54,55,56] [(192,192),(1088,5248),(2368,2368)] rfl rfl (by simp [hs]; rw [wrap64 (by omega) (by omega)]) (by omega) (by omega)
  obtain rfl:i = (inBoth g n m).length:=by omega
  simp -dsimp
  simp [jointsR,q1,q2,q3,joinL_M hu hn hm]
end Am
namespace Am
open Go Go.Proofs
open Cel (cells)
set_option maxRecDepth 100000
def stateNew:GState:=⟨[0,0,0],[],[],[]⟩
theorem stateNew_ok:stateNew.Ok:=by simp [stateNew,GState.Ok]
@[simp] def h172:Hts:={  }
theorem f172_ok:FnR Tryz.prog 172 [] (.v (.ow 3 1 (([0,0,0]:List Int)).length (flat (([0,0,0]:List Int))))):=by
  refine FnW.of_AW TryzT_ok 0 (fn:=Tryz.f172) (by kernel_rfl) rfl (by kernel_rfl) rfl rfl rfl ?_; refine AW_of h172 TryzT_ok (by kernel_rfl) ?_
  simp -dsimp
  exact ⟨by decide,rfl⟩
@[simp] def h153:Hts:={  }
theorem f153_ok:FnR Tryz.prog 153 [] (.v (.ow 3 1 (([0,0,0]:List Int)).length (flat (([0,0,0]:List Int))))):=by
  refine FnW.of_AW TryzT_ok 0 (fn:=Tryz.f153) (by kernel_rfl) rfl (by kernel_rfl) rfl rfl rfl ?_; refine AW_of h153 TryzT_ok (by kernel_rfl) ?_
  simp -dsimp
  exact ⟨by decide,rfl⟩
@[simp] def h132:Hts:={  }
theorem f132_ok:FnR Tryz.prog 132 [] (.agg [.ow 3 1 stateNew.know.length (flat stateNew.know),.ow 104 3 stateNew.tallies.length (flat stateNew.tallies),.ow 98 6 stateNew.lives.length (flat stateNew.lives),.ow 100 8 stateNew.cs.length (flat stateNew.cs)]):=by
  rw [stateNew]
  refine FnW.of_AW TryzT_ok 0 (fn:=Tryz.f132) (by kernel_rfl) rfl (by kernel_rfl) rfl rfl rfl ?_; refine AW_of h132 TryzT_ok (by kernel_rfl) ?_
  simp -dsimp
  refine ACallK_of (f172_ok) ?_
  simp -dsimp
@[simp] def h89:Hts:={  }
theorem f89_ok:FnR Tryz.prog 89 [] (.agg [.ow 3 1 stateNew.know.length (flat stateNew.know),.ow 104 3 stateNew.tallies.length (flat stateNew.tallies),.ow 98 6 stateNew.lives.length (flat stateNew.lives),.ow 100 8 stateNew.cs.length (flat stateNew.cs)]):=by
  rw [stateNew]
  refine FnW.of_AW TryzT_ok 0 (fn:=Tryz.f89) (by kernel_rfl) rfl (by kernel_rfl) rfl rfl rfl ?_; refine AW_of h89 TryzT_ok (by kernel_rfl) ?_
  simp -dsimp
  refine ACallK_of (f153_ok) ?_
  simp -dsimp
end Am
namespace Am
open Go Go.Proofs
open Cel (cells)
set_option maxRecDepth 100000
theorem mergeState_okB {a b:GState} (ha:a.Ok) (hb:b.Ok):(mergeState a b).Ok:=by
  unfold mergeState
  split
  · rename_i h
    simp only [Bool.and_eq_true] at h
    split
    · exact mergeRaw_ok ha hb h.1 h.2
    · exact ha
  · exact ha
def baseK (g:GGraph) (l:List Int):Nat → GState
  | 0 => stateNew
  | i + 1 => mergeState (baseK g l i) (nth g.commits (nth l i).toNat).state
def baseOf (g:GGraph) (a b:Int):GState:=baseK g (jointsR g a b) (jointsR g a b).length
theorem jointsR_at {g:GGraph} {a b:Int} {j:Nat} (h:j < (jointsR g a b).length):∃ o:Nat,o < g.commits.length ∧ nth (jointsR g a b) j = o:=by
  have hm:=nth_mem h
  generalize nth (jointsR g a b) j = y at hm ⊢
  unfold jointsR at hm
  split at hm
  · obtain ⟨o,h1,_,h2⟩:=markF_mem.1 hm
    exact ⟨o,h1,h2⟩
  · cases hm
theorem jointsR_lb (g:GGraph) (a b:Int):(jointsR g a b).length ≤ g.commits.length:=by
  unfold jointsR
  split
  · exact markF_len _ _
  · simp
theorem baseK_ok {g:GGraph} (hg:g.Ok) (l:List Int):∀ i,(∀ j:Nat,j < i → (nth l j).toNat < g.commits.length) → (baseK g l i).Ok
  | 0,_ => stateNew_ok
  | i + 1,h => by
    rw [baseK]
    simp only [GGraph.Ok] at hg
    have:=hg.2 _ (nth_mem (h i (by omega)))
    simp only [GCommit.Ok] at this
    exact mergeState_okB (baseK_ok (by simp only [GGraph.Ok]; exact hg) l i (fun j hj => h j (by omega))) this.2
theorem baseOf_ok {g:GGraph} (hg:g.Ok) (a b:Int):(baseOf g a b).Ok:=baseK_ok hg _ _ (fun j hj => by obtain ⟨o,h1,h2⟩:=jointsR_at hj; omega)
@[simp] def h30:Hts:={ merge:=fun _ => false,mergeF:=fun _ => false,dr:=fun id => if id = 5 then [{},{},{},{},{},{},{},{ cr:=true },{ wr:=[448] }] else [] }
set_option maxHeartbeats 4000000 in
theorem f30_ok (g:GGraph) (hg:g.Ok) (a b:Int):FnR Tryz.prog 30 [.agg [.im g.commits.length (flat g.commits),.int .i64 g.head],.v (.int .i64 a),.v (.int .i64 b)] (.agg [.ow 3 1 (baseOf g a b).know.length (flat (baseOf g a b).know),.ow 104 3 (baseOf g a b).tallies.length (flat (baseOf g a b).tallies),.ow 98 6 (baseOf g a b).lives.length (flat (baseOf g a b).lives),.ow 100 8 (baseOf g a b).cs.length (flat (baseOf g a b).cs)]):=by
  have hgo:=hg
  simp only [GGraph.Ok] at hg
  have hcs:∀ y,y ∈ g.commits → y.state.Ok:=fun y hy => by have:=hg.2 y hy; simp only [GCommit.Ok] at this; exact this.2
  have hjl:=jointsR_lb g a b
  refine FnW.of_AW TryzT_ok 0 (fn:=Tryz.f30) (by kernel_rfl) rfl (by kernel_rfl) rfl rfl rfl ?_; refine AW_of h30 TryzT_ok (by kernel_rfl) ?_
  simp -dsimp
  refine ACallK_of (f89_ok) ?_
  simp -dsimp
  refine ACallK_of (f27_ok _ hgo _ _) ?_
  simp -dsimp
  refine AWh_loop (fun i:Nat => i ≤ (jointsR g a b).length) (fun i => mkE [(3,.box 192 0),(6,.box 384 0),(7,.box 448 0),(14,.arr 896),(15,.c (.int .i64 (jointsR g a b).length)),(16,.c (.int .i64 i))] [(192,.box [.c (.im g.commits.length (flat g.commits)),.c (.int .i64 g.head)]),(384,.box [.nil,.nil,.nil,.nil]),(448,.box [.arr 640,.arr 641,.arr 642,.arr 643]),(640,.arr 0 3 1 (baseK g (jointsR g a b) i).know.length (flat (baseK g (jointsR g a b) i).know)),(641,.arr 0 104 3 (baseK g (jointsR g a b) i).tallies.length (flat (baseK g (jointsR g a b) i).tallies)),(642,.arr 0 98 6 (baseK g (jointsR g a b) i).lives.length (flat (baseK g (jointsR g a b) i).lives)),(643,.arr 0 100 8 (baseK g (jointsR g a b) i).cs.length (flat (baseK g (jointsR g a b) i).cs)),(896,.arr 0 3 1 (jointsR g a b).length (flat (jointsR g a b)))]) (fun i => (jointsR g a b).length - i) 0 (Wk_to [3,6,7,14,15,16] [(192,192),(384,384),(448,448),(640,640),(641,641),(642,642),(643,643),(896,896)] rfl rfl (by simp [baseK])) (by simp) ?_
  rintro i hi
  refine AW_of h30 TryzT_ok (by kernel_rfl) ?_
  rcases Nat.lt_or_ge i (jointsR g a b).length with h1 | h1
  · obtain ⟨o,ho,eo⟩:=jointsR_at h1
    have hko:=baseK_ok hgo (jointsR g a b) i (fun j hj => by obtain ⟨o,h1,h2⟩:=jointsR_at (Nat.lt_of_lt_of_le hj hi); omega)
    have hso:=hcs _ (nth_mem ho)
    have eon:(nth (jointsR g a b) i).toNat = o:=by omega
    simp -dsimp [h1,ne_of_lt h1,eo,ho,ne_of_lt ho]
    repeat (first|refine ⟨by omega,?_⟩|refine ⟨by simp [capMax];omega,?_⟩|refine ⟨⟨by omega,by omega⟩,?_⟩)
    refine ACallK_of (f82_ok _ _ hko hso) ?_
    simp -dsimp
    exact Back_of (i + 1) [3,6,7,14,15,16] [(192,192),(384,384),(448,448),(640,1728),(641,1729),(642,1730),(643,1731),(896,896)] rfl rfl (by simp [baseK,eon]; rw [wrap64 (by omega) (by omega)]) (by omega) (by omega)
  · obtain rfl:i = (jointsR g a b).length:=by omega
    simp -dsimp
    simp [baseOf]
end Am
namespace Am
open Go Go.Proofs
open Cel (cells)
set_option maxRecDepth 100000
def takeG (g:GGraph) (i:Nat):List GCommit:=g.commits.take i
theorem takeG_len {g:GGraph} {i:Nat} (h:i ≤ g.commits.length):(takeG g i).length = i:=by simp [takeG]; omega
theorem takeG_succ {g:GGraph} {i:Nat} (h:i < g.commits.length):takeG g (i + 1) = takeG g i ++ [nth g.commits i]:=by
  rw [takeG,List.take_add_one,List.getElem?_eq_getElem h,nth_eq h]; rfl
theorem takeG_all (g:GGraph):takeG g g.commits.length = g.commits:=List.take_of_length_le (Nat.le_refl _)
@[simp] def h76:Hts:={ merge:=fun _ => false,mergeF:=fun _ => false,dr:=fun id => if id = 5 then [{ mn:=[1408,1600,1601,1602,1603],mb:=[22,25,27] },{ mn:=[1408,1600,1601,1602,1603],mb:=[22,25,27] },{ mb:=[22,25] },{ mb:=[22,25] },{},{},{ cr:=true },{ mb:=[22] },{ mb:=[22] },{ cr:=true },{},{ wr:=[1408,1600,1601,1602,1603],cr:=true },{ wr:=[1088,900001,1728],cr:=true },{},{ wr:=[192] }] else [] }
set_option maxHeartbeats 4000000 in
theorem f76_ok (g:GGraph) (hg:g.Ok):FnR Tryz.prog 76 [.agg [.im g.commits.length (flat g.commits),.int .i64 g.head]] (.agg [.ow 62 7 g.commits.length (flatO g.commits),.int .i64 g.head]):=by
  simp only [GGraph.Ok] at hg
  refine FnW.of_AW TryzT_ok 0 (fn:=Tryz.f76) (by kernel_rfl) rfl (by kernel_rfl) rfl rfl rfl ?_; refine AW_of h76 TryzT_ok (by kernel_rfl) ?_
  simp -dsimp
  refine AWh_loop (fun i:Nat => i ≤ g.commits.length) (fun i => mkE [(2,.box 128 0),(3,.box 192 0),(10,.c (.im g.commits.length (flat g.commits))),(11,.c (.int .i64 g.commits.length)),(12,.c (.int .i64 i))] [(900001,.arr 0 62 7 (takeG g i).length (flatO (takeG g i))),(128,.box [.nil,.c (.int .i64 0)]),(192,.box [.arr 900001,.c (.int .i64 g.head)])]) (fun i => g.commits.length - i) 0 (Wk_toA [2,3,10,11,12] [(128,128),(192,192)] [.cell 192 0 900001 62 7] rfl rfl (by simp [takeG])) (by simp) ?_
  rintro i hi
  have hll:=takeG_len hi
  refine AW_of h76 TryzT_ok (by kernel_rfl) ?_
  rcases Nat.lt_or_ge i g.commits.length with h1 | h1
  · have hc:=hg.2 _ (nth_mem h1)
    simp only [GCommit.Ok] at hc
    have hs:=takeG_succ h1
    simp -dsimp [h1,ne_of_lt h1]
    repeat (first|refine ⟨by omega,?_⟩|refine ⟨by simp [capMax];omega,?_⟩|refine ⟨⟨by omega,by omega⟩,?_⟩)
    refine ACallK_of (f138_ok _ hc.1) ?_
    simp -dsimp
    refine ACallK_of (f80_ok _ hc.2) ?_
    simp -dsimp
    repeat (first|refine ⟨by omega,?_⟩|refine ⟨by simp [capMax];omega,?_⟩|refine ⟨⟨by omega,by omega⟩,?_⟩)
    have ha:flatO (takeG g i ++ [nth g.commits i]) = flatO (takeG g i) ++ CelO.cellsO (nth g.commits i):=by rw [flatO_append,flatO_cons,flatO_nil,List.append_nil]
    exact Back_of (i + 1) [2,3,10,11,12] [(900001,1792),(128,128),(192,192)] rfl rfl (by simp [hs,ha]; rw [wrap64 (by omega) (by omega)]) (by omega) (by omega)
  · obtain rfl:i = g.commits.length:=by omega
    simp -dsimp
    simp [takeG_all]
@[simp] def h173:Hts:={ merge:=fun _ => false,mergeF:=fun _ => false,dr:=fun id => if id = 6 then [{ mn:=[1600,1792,1984,1985,1986,1987],mb:=[25,28,31,33] },{ mn:=[1600,1792,1984,1985,1986,1987],mb:=[25,28,31,33] },{ mn:=[1600],mb:=[25,28,31] },{ mn:=[1600],mb:=[25,28,31] },{ cr:=true },{ mb:=[25] },{ mb:=[25] },{ wr:=[1600],cr:=true },{ mn:=[1600],mb:=[25,28] },{ mn:=[1600],mb:=[25,28] },{ cr:=true },{},{ wr:=[1792,1984,1985,1986,1987],cr:=true },{ wr:=[1408,900001,2112],cr:=true },{},{ wr:=[192] }] else [] }
set_option maxHeartbeats 4000000 in
theorem f173_ok (g:GGraph) (hg:g.Ok):FnR Tryz.prog 173 [.agg [.im g.commits.length (flat g.commits),.int .i64 g.head]] (.agg [.ow 62 7 g.commits.length (flatO g.commits),.int .i64 g.head]):=by
  simp only [GGraph.Ok] at hg
  refine FnW.of_AW TryzT_ok 0 (fn:=Tryz.f173) (by kernel_rfl) rfl (by kernel_rfl) rfl rfl rfl ?_; refine AW_of h173 TryzT_ok (by kernel_rfl) ?_
  simp -dsimp
  refine AWh_loop (fun i:Nat => i ≤ g.commits.length) (fun i => mkE [(1,.box 64 0),(2,.box 128 0),(3,.box 192 0),(4,.c (.int .i64 i))] [(900001,.arr 0 62 7 (takeG g i).length (flatO (takeG g i))),(64,.box [.c (.im g.commits.length (flat g.commits)),.c (.int .i64 g.head)]),(128,.box [.nil,.c (.int .i64 0)]),(192,.box [.arr 900001,.c (.int .i64 g.head)])]) (fun i => g.commits.length - i) 0 (Wk_toA [1,2,3,4] [(64,64),(128,128),(192,192)] [.cell 192 0 900001 62 7] rfl rfl (by simp [takeG])) (by simp) ?_
  rintro i hi
  have hll:=takeG_len hi
  refine AW_of h173 TryzT_ok (by kernel_rfl) ?_
  rcases Nat.lt_or_ge i g.commits.length with h1 | h1
  · have hc:=hg.2 _ (nth_mem h1)
    simp only [GCommit.Ok] at hc
    have hs:=takeG_succ h1
    simp -dsimp [h1,ne_of_lt h1]
    repeat (first|refine ⟨by omega,?_⟩|refine ⟨by simp [capMax];omega,?_⟩|refine ⟨⟨by omega,by omega⟩,?_⟩)
    refine ACallK_of (f90_ok _ hc.2) ?_
    simp -dsimp
    repeat (first|refine ⟨by omega,?_⟩|refine ⟨by simp [capMax];omega,?_⟩|refine ⟨⟨by omega,by omega⟩,?_⟩)
    have ha:flatO (takeG g i ++ [nth g.commits i]) = flatO (takeG g i) ++ CelO.cellsO (nth g.commits i):=by rw [flatO_append,flatO_cons,flatO_nil,List.append_nil]
    exact Back_of (i + 1) [1,2,3,4] [(900001,2176),(64,64),(128,128),(192,192)] rfl rfl (by simp [hs,ha]; rw [wrap64 (by omega) (by omega)]) (by omega) (by omega)
  · obtain rfl:i = g.commits.length:=by omega
    simp -dsimp
    simp [takeG_all]
end Am
namespace Am
open Go Go.Proofs
open Cel (cells)
set_option maxRecDepth 100000
def putGoI (s:Int):Bool → List Int → List Int
  | p,[] => if p then [] else [s]
  | p,x :: r => if !p && decide (s < x) then s :: x :: putGoI s true r else x :: putGoI s p r
def hasI (s:Int) (l:List Int):Bool:=l.any fun x => decide (x = s)
def putI (l:List Int) (s:Int):List Int:=if hasI s l then l else putGoI s false l
theorem putGoI_len (s:Int):∀ (p:Bool) (l:List Int),(putGoI s p l).length = l.length + (if p then 0 else 1)
  | true,[] => rfl
  | false,[] => rfl
  | true,x :: r => by simp [putGoI,putGoI_len s true r]
  | false,x :: r => by
    simp only [putGoI]
    split
    · simp [putGoI_len s true r]
    · simp [putGoI_len s false r]
theorem hasI_at {s:Int} {l:List Int} {i:Nat} (h:i < l.length) (he:nth l i = s):hasI s l = true:=by
  simp only [hasI,List.any_eq_true,decide_eq_true_eq]
  exact ⟨nth l i,nth_mem h,he⟩
theorem hasI_none {s:Int} {l:List Int} (h:∀ j:Nat,j < l.length → nth l j ≠ s):hasI s l = false:=by
  cases hh:hasI s l
  · rfl
  · simp only [hasI,List.any_eq_true,decide_eq_true_eq] at hh
    obtain ⟨x,hx,rfl⟩:=hh
    obtain ⟨j,hj,e⟩:=List.getElem_of_mem hx
    exact absurd (by rw [nth_eq hj,e]) (h j hj)
@[simp] def h174:Hts:={ merge:=fun _ => false }
set_option maxHeartbeats 1000000 in
theorem f174_ok (l:List Int) (s:Int) (ha:l.length ≤ 1073741824):FnW Tryz.prog 174 [.v (.ow 3 1 l.length (flat l)),.v (.int .i64 s)] (.v (.ow 3 1 (putI l s).length (flat (putI l s)))) [.any,.any]:=by
  refine FnW.of_AW TryzT_ok 0 (fn:=Tryz.f174) (by kernel_rfl) rfl (by kernel_rfl) rfl rfl rfl ?_; refine AW_of h174 TryzT_ok (by kernel_rfl) ?_
  simp -dsimp
  refine AWh_loop (fun q:Nat × Bool × List Int => q.1 ≤ l.length ∧ q.2.2.length ≤ q.1 + (bif q.2.1 then 1 else 0) ∧ (∀ j:Nat,j < q.1 → nth l j ≠ s) ∧ q.2.2 ++ putGoI s q.2.1 (l.drop q.1) = putGoI s false l) (fun q => mkE [(0,.arr 640000),(1,.c (.int .i64 s)),(5,.arr 512),(6,.c (.bool q.2.1)),(7,.c (.int .i64 q.1))] [(640000,.arr 0 3 1 l.length (flat l)),(512,.arr 0 3 1 q.2.2.length (flat q.2.2))]) (fun q => l.length - q.1) (0,false,[]) (Wk_to [0,1,5,6,7] [(640000,640000),(512,512)] rfl rfl (by simp)) (by simp) ?_
  rintro ⟨i,p,out⟩ ⟨hi,hl,hne,hgo⟩
  simp only at hi hl hne hgo
  refine AW_of h174 TryzT_ok (by kernel_rfl) ?_
  rcases Nat.lt_or_ge i l.length with h1 | h1
  · have hd:l.drop i = nth l i :: l.drop (i + 1):=by rw [List.drop_eq_getElem_cons h1,← nth_eq h1]
    rw [hd] at hgo
    have hw:IntKind.i64.wrap ((i:Int) + 1) = (i:Int) + 1:=wrap64 (by omega) (by omega)
    by_cases e:nth l i = s
    · have e1:(nth l i == s) = true:=by simp [e]
      simp -dsimp [h1,ne_of_lt h1,e1]
      repeat (first|refine ⟨by omega,?_⟩|refine ⟨by simp [capMax];omega,?_⟩|refine ⟨⟨by omega,by omega⟩,?_⟩)
      rw [putI,if_pos (hasI_at h1 e)]
      exact ⟨rfl,rfl⟩
    · have e1:(nth l i == s) = false:=by simp [e]
      have hnext:∀ j:Nat,j < i + 1 → nth l j ≠ s:=fun j hj => by
        by_cases e2:j = i
        · subst e2; exact e
        · exact hne j (by omega)
      cases p with
      | true =>
        simp only [cond_true] at hl
        simp -dsimp [h1,ne_of_lt h1,e1,hw]
        repeat (first | refine ⟨by omega,?_⟩ | refine ⟨by simp [capMax]; omega,?_⟩)
        exact Back_of (i + 1,true,out ++ [nth l i]) [0,1,5,6,7] [(640000,640000),(512,2688)] rfl rfl (by simp) ⟨by simp only; omega,by simp; omega,hnext,by rw [← hgo]; simp [putGoI]⟩ (by simp only; omega)
      | false =>
        simp only [cond_false] at hl
        by_cases g:s < nth l i
        · have gs:decide (s < nth l i) = true:=by simp [g]
          simp -dsimp [h1,ne_of_lt h1,e1,g,hw]
          repeat (first | refine ⟨by omega,?_⟩ | refine ⟨by simp [capMax]; omega,?_⟩)
          exact Back_of (i + 1,true,out ++ [s] ++ [nth l i]) [0,1,5,6,7] [(640000,640000),(512,2688)] rfl rfl (by simp) ⟨by simp only; omega,by simp; omega,hnext,by rw [← hgo]; simp [putGoI,gs]⟩ (by simp only; omega)
        · have gs:decide (s < nth l i) = false:=by simp [g]
          simp -dsimp [h1,ne_of_lt h1,e1,g,hw]
          repeat (first | refine ⟨by omega,?_⟩ | refine ⟨by simp [capMax]; omega,?_⟩)
          exact Back_of (i + 1,false,out ++ [nth l i]) [0,1,5,6,7] [(640000,640000),(512,2688)] rfl rfl (by simp) ⟨by simp only; omega,by simp; omega,hnext,by rw [← hgo]; simp [putGoI,gs]⟩ (by simp only; omega)
  · obtain rfl:i = l.length:=by omega
    rw [List.drop_length] at hgo
    have hno:=hasI_none hne
    cases p with
    | true =>
      simp only [cond_true] at hl
      have e:out = putI l s:=by rw [putI,hno,← hgo]; simp [putGoI]
      simp -dsimp
      rw [← e]
      exact ⟨rfl,rfl⟩
    | false =>
      simp only [cond_false] at hl
      have e:out ++ [s] = putI l s:=by rw [putI,hno,← hgo]; simp [putGoI]
      simp -dsimp
      refine ⟨by simp [capMax]; omega,?_⟩
      rw [← e]
      exact ⟨by simp,rfl⟩
end Am
