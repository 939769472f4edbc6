/- Graphs that are right: of both. No condition. -/
import Derived.Test.YtblhppnhiaombaaGreatT
import Derived.Test.YtblhppnhiaombaaGreatD
import Derived.Test.YtblhppnhiaombaaGreatE59
import Derived.Test.YtblhppnhiaombaaGreatE60
import Derived.Test.YtblhppnhiaombaaGreatAm31
namespace Am
open Go Go.Proofs
open Cel (cells)
set_option maxRecDepth 100000
set_option linter.unusedSimpArgs false
set_option linter.unusedVariables false

def upAt (g : GGraph) (k : Int) (c : GCommit) (j : Nat) : Bool := spIn (nth c.ups j) 0 (k - 1) && (decide (j = 0) || decide (nth c.ups (j - 1) < nth c.ups j)) && behind (nth g.commits (nth c.ups j).toNat).state c.state
def comOk (g : GGraph) (k : Nat) : Bool := dotOk (nth g.commits k).id && (atId g (nth g.commits k).id == k) && stateOk (nth g.commits k).state && decide ((nth g.commits k).ups.length ≤ 2) && allB (upAt g k (nth g.commits k)) (nth g.commits k).ups.length
def graphOk (g : GGraph) : Bool := decide (g.commits.length ≤ 80) && spIn g.head (-1) (g.commits.length - 1) && allB (comOk g) g.commits.length
theorem graphOk_false {g : GGraph} {i : Nat} (h : i < g.commits.length) (hp : comOk g i = false) : graphOk g = false := by
  simp [graphOk, allB_false h hp]
theorem comOk_ups {g : GGraph} {i j : Nat} (h : j < (nth g.commits i).ups.length) (hp : upAt g i (nth g.commits i) j = false) : comOk g i = false := by
  simp [comOk, allB_false h hp]

@[simp] def h195 : Hts := { merge := fun _ => false, mergeF := fun _ => false, dr := fun id => if id = 7 then [{}, {}, {}, { cr := true }, {}, {}, {}, {}, {}, {}, {}, {}, {}, {}, {}, {}, {}, {}, {}, {}, {}, {}, {}, {}, {}, {}, {}, {}, { cr := true }, {}, {}] else [] }
set_option maxHeartbeats 4000000 in
theorem f195_ok (g : GGraph) (hg : g.Ok) (i : Nat) (h1 : i < g.commits.length) : FnR Tryz.prog 195 [.agg [.im g.commits.length (flat g.commits), .int .i64 g.head], .v (.int .i64 i)] (.v (.bool (comOk g i))) := by
  have hgo := hg
  simp only [GGraph.Ok] at hg
  have hc := hg.2 _ (nth_mem h1)
  simp only [GCommit.Ok] at hc
  obtain ⟨hu, hst⟩ := hc
  refine FnW.of_AW TryzT_ok 0 (fn := Tryz.f195) (by kernel_rfl) rfl (by kernel_rfl) rfl rfl rfl ?_
  refine AW_of h195 TryzT_ok (by kernel_rfl) ?_
  simp -dsimp [h1, ne_of_lt h1]
  repeat (first | refine ⟨by omega, ?_⟩ | refine ⟨by simp [capMax]; omega, ?_⟩ | refine ⟨⟨by omega, by omega⟩, ?_⟩)
  refine ACallK_of (f233_ok _) ?_
  cases g1 : dotOk (nth g.commits i).id
  · simp -dsimp [h1, ne_of_lt h1]
    repeat (first | refine ⟨by omega, ?_⟩ | refine ⟨by simp [capMax]; omega, ?_⟩ | refine ⟨⟨by omega, by omega⟩, ?_⟩)
    simp [comOk, g1]
  simp -dsimp [h1, ne_of_lt h1]
  repeat (first | refine ⟨by omega, ?_⟩ | refine ⟨by simp [capMax]; omega, ?_⟩ | refine ⟨⟨by omega, by omega⟩, ?_⟩)
  refine ACallK_of (f108_ok _ _ hg.1) ?_
  by_cases g2 : atId g (nth g.commits i).id = i
  case neg =>
    have b2 : (atId g (nth g.commits i).id != (i : Int)) = true := by simp [g2]
    simp -dsimp [h1, ne_of_lt h1, b2]
    repeat (first | refine ⟨by omega, ?_⟩ | refine ⟨by simp [capMax]; omega, ?_⟩ | refine ⟨⟨by omega, by omega⟩, ?_⟩)
    simp [comOk, g2]
  have b2 : (atId g (nth g.commits i).id != (i : Int)) = false := by simp [g2]
  simp -dsimp [h1, ne_of_lt h1, b2]
  repeat (first | refine ⟨by omega, ?_⟩ | refine ⟨by simp [capMax]; omega, ?_⟩ | refine ⟨⟨by omega, by omega⟩, ?_⟩)
  refine ACallK_of (f145_ok _ hst) ?_
  rw [stateOkM_eq]
  cases g3 : stateOk (nth g.commits i).state
  · simp -dsimp [h1, ne_of_lt h1]
    repeat (first | refine ⟨by omega, ?_⟩ | refine ⟨by simp [capMax]; omega, ?_⟩ | refine ⟨⟨by omega, by omega⟩, ?_⟩)
    simp [comOk, g3]
  by_cases g4 : (nth g.commits i).ups.length ≤ 2
  case neg =>
    have g4' : (2 : Int) < (nth g.commits i).ups.length := by omega
    simp -dsimp [h1, ne_of_lt h1, g4']
    repeat (first | refine ⟨by omega, ?_⟩ | refine ⟨by simp [capMax]; omega, ?_⟩ | refine ⟨⟨by omega, by omega⟩, ?_⟩)
    simp [comOk, g4]
  have g4' : ¬ (2 : Int) < (nth g.commits i).ups.length := by omega
  have wk : IntKind.i64.wrap ((i : Int) - 1) = i - 1 := wrap64 (by omega) (by omega)
  have hcs : ∀ y, y ∈ g.commits → y.ups.length ≤ 1073741824 ∧ y.state.Ok := fun y hy => by have := hg.2 y hy; simpa only [GCommit.Ok] using this
  simp -dsimp [h1, ne_of_lt h1, g4']
  repeat (first | refine ⟨by omega, ?_⟩ | refine ⟨by simp [capMax]; omega, ?_⟩ | refine ⟨⟨by omega, by omega⟩, ?_⟩)
  refine AWh_loop (fun j : Nat => j ≤ (nth g.commits i).ups.length ∧ allB (upAt g i (nth g.commits i)) j = true) (fun j => mkE [(1, .c (.int .i64 i)), (2, .box 128 0), (5, .box 320 0), (38, .c (.im (nth g.commits i).ups.length (flat (nth g.commits i).ups))), (39, .c (.int .i64 (nth g.commits i).ups.length)), (40, .c (.int .i64 j))] [(128, .box [.c (.im g.commits.length (flat g.commits)), .c (.int .i64 g.head)]), (320, .box [.c (.int .i64 ((nth g.commits i)).id.rep), .c (.int .i64 ((nth g.commits i)).id.seq), .c (.im ((nth g.commits i)).ups.length (flat ((nth g.commits i)).ups)), .c (.im ((nth g.commits i)).state.know.length (flat ((nth g.commits i)).state.know)), .c (.im ((nth g.commits i)).state.tallies.length (flat ((nth g.commits i)).state.tallies)), .c (.im ((nth g.commits i)).state.lives.length (flat ((nth g.commits i)).state.lives)), .c (.im ((nth g.commits i)).state.cs.length (flat ((nth g.commits i)).state.cs))])]) (fun j => (nth g.commits i).ups.length - j) 0 (Wk_to [1, 2, 5, 38, 39, 40] [(128, 128), (320, 320)] rfl rfl (by simp)) (by simp [allB]) ?_
  rintro j ⟨hj, hall⟩
  refine AW_of h195 TryzT_ok (by kernel_rfl) ?_
  rcases Nat.lt_or_ge j (nth g.commits i).ups.length with p1 | p1
  · skip
    cases q1 : spIn (nth (nth g.commits i).ups j) 0 ((i : Int) - 1)
    · have hbad := comOk_ups p1 (show upAt g i (nth g.commits i) j = false by simp [upAt, q1])
      rcases Nat.eq_zero_or_pos j with hz | hz
      · have hz' : ¬ 0 < j := by omega
        simp -dsimp [h1, ne_of_lt h1, p1, ne_of_lt p1, hz', wk, q1]
        repeat (first | refine ⟨by omega, ?_⟩ | refine ⟨by simp [capMax]; omega, ?_⟩ | refine ⟨⟨by omega, by omega⟩, ?_⟩)
        refine ACallK_of (f92_ok _ _ _) ?_
        rw [q1]
        simp -dsimp [h1, ne_of_lt h1, p1, ne_of_lt p1, hz']
        repeat (first | refine ⟨by omega, ?_⟩ | refine ⟨by simp [capMax]; omega, ?_⟩ | refine ⟨⟨by omega, by omega⟩, ?_⟩)
        exact hbad
      · simp -dsimp [h1, ne_of_lt h1, p1, ne_of_lt p1, hz, wk, q1]
        repeat (first | refine ⟨by omega, ?_⟩ | refine ⟨by simp [capMax]; omega, ?_⟩ | refine ⟨⟨by omega, by omega⟩, ?_⟩)
        refine ACallK_of (f92_ok _ _ _) ?_
        rw [q1]
        simp -dsimp [h1, ne_of_lt h1, p1, ne_of_lt p1, hz]
        repeat (first | refine ⟨by omega, ?_⟩ | refine ⟨by simp [capMax]; omega, ?_⟩ | refine ⟨⟨by omega, by omega⟩, ?_⟩)
        exact hbad
    have q1' := q1
    simp only [spIn, Bool.and_eq_true, decide_eq_true_eq] at q1'
    have hup : (nth (nth g.commits i).ups j).toNat < g.commits.length := by omega
    have hup0 : ¬ (nth (nth g.commits i).ups j) < 0 := by omega
    have hso := (hcs _ (nth_mem hup)).2
    rcases Nat.eq_zero_or_pos j with hz | hz
    · have hz' : ¬ 0 < j := by omega
      simp -dsimp [h1, ne_of_lt h1, p1, ne_of_lt p1, hz', wk, hup, ne_of_lt hup]
      repeat (first | refine ⟨by omega, ?_⟩ | refine ⟨by simp [capMax]; omega, ?_⟩ | refine ⟨⟨by omega, by omega⟩, ?_⟩)
      refine ACallK_of (f92_ok _ _ _) ?_
      rw [q1]
      simp -dsimp [h1, ne_of_lt h1, p1, ne_of_lt p1, hz', hup, ne_of_lt hup]
      repeat (first | refine ⟨by omega, ?_⟩ | refine ⟨by simp [capMax]; omega, ?_⟩ | refine ⟨⟨by omega, by omega⟩, ?_⟩)
      refine ACallK_of (f248_ok _ _ hso hst) ?_
      cases q2 : behind (nth g.commits (nth (nth g.commits i).ups j).toNat).state (nth g.commits i).state
      · have hbad := comOk_ups p1 (show upAt g i (nth g.commits i) j = false by simp [upAt, q2])
        simp -dsimp [h1, ne_of_lt h1, p1, ne_of_lt p1, hz', hup, ne_of_lt hup]
        exact hbad
      · simp -dsimp [h1, ne_of_lt h1, p1, ne_of_lt p1, hz', hup, ne_of_lt hup]
        exact Back_of (j + 1) [1, 2, 5, 38, 39, 40] [(128, 128), (320, 320)] rfl rfl (by simp; rw [wrap64 (by omega) (by omega)]) ⟨by omega, allB_succ hall (by subst hz; simp [upAt, q1, q2])⟩ (by omega)
    · have w : IntKind.i64.wrap ((j : Int) - 1) = j - 1 := wrap64 (by omega) (by omega)
      have t1 : ((j : Int) - 1).toNat = j - 1 := by omega
      have h3 : j - 1 < (nth g.commits i).ups.length := by omega
      have hn : ¬ j = 0 := by omega
      rcases Int.lt_or_le (nth (nth g.commits i).ups (j - 1)) (nth (nth g.commits i).ups j) with q3 | q3
      · have q3' : ¬ (nth (nth g.commits i).ups j) ≤ (nth (nth g.commits i).ups (j - 1)) := by omega
        simp -dsimp [h1, ne_of_lt h1, p1, ne_of_lt p1, hz, w, t1, h3, wk, hup, ne_of_lt hup, q3']
        repeat (first | refine ⟨by omega, ?_⟩ | refine ⟨by simp [capMax]; omega, ?_⟩ | refine ⟨⟨by omega, by omega⟩, ?_⟩)
        refine ACallK_of (f92_ok _ _ _) ?_
        rw [q1]
        simp -dsimp [h1, ne_of_lt h1, p1, ne_of_lt p1, hz, w, t1, h3, hup, ne_of_lt hup, q3']
        repeat (first | refine ⟨by omega, ?_⟩ | refine ⟨by simp [capMax]; omega, ?_⟩ | refine ⟨⟨by omega, by omega⟩, ?_⟩)
        refine ACallK_of (f248_ok _ _ hso hst) ?_
        cases q2 : behind (nth g.commits (nth (nth g.commits i).ups j).toNat).state (nth g.commits i).state
        · have hbad := comOk_ups p1 (show upAt g i (nth g.commits i) j = false by simp [upAt, q2])
          simp -dsimp [h1, ne_of_lt h1, p1, ne_of_lt p1, hz, w, t1, h3, hup, ne_of_lt hup, q3']
          exact hbad
        · simp -dsimp [h1, ne_of_lt h1, p1, ne_of_lt p1, hz, w, t1, h3, hup, ne_of_lt hup, q3']
          exact Back_of (j + 1) [1, 2, 5, 38, 39, 40] [(128, 128), (320, 320)] rfl rfl (by simp; rw [wrap64 (by omega) (by omega)]) ⟨by omega, allB_succ hall (by simp [upAt, q1, q2, q3])⟩ (by omega)
      · have q3' : ¬ (nth (nth g.commits i).ups (j - 1)) < (nth (nth g.commits i).ups j) := by omega
        have hbad := comOk_ups p1 (show upAt g i (nth g.commits i) j = false by simp [upAt, hn, q3'])
        simp -dsimp [h1, ne_of_lt h1, p1, ne_of_lt p1, hz, w, t1, h3, wk, hup, ne_of_lt hup, q3, q3']
        repeat (first | refine ⟨by omega, ?_⟩ | refine ⟨by simp [capMax]; omega, ?_⟩ | refine ⟨⟨by omega, by omega⟩, ?_⟩)
        refine ACallK_of (f92_ok _ _ _) ?_
        rw [q1]
        simp -dsimp [h1, ne_of_lt h1, p1, ne_of_lt p1, hz, w, t1, h3, hup, ne_of_lt hup, q3, q3']
        repeat (first | refine ⟨by omega, ?_⟩ | refine ⟨by simp [capMax]; omega, ?_⟩ | refine ⟨⟨by omega, by omega⟩, ?_⟩)
        exact hbad
  · obtain rfl : j = (nth g.commits i).ups.length := by omega
    simp -dsimp
    simp [comOk, g1, g2, g3, g4, hall]

@[simp] def h105 : Hts := { mergeF := fun f => f == 92 }
theorem f105_ok (g : GGraph) (k : Int) (hg : g.commits.length ≤ 1073741824) : FnR Tryz.prog 105 [.agg [.im g.commits.length (flat g.commits), .int .i64 g.head], .v (.int .i64 k)] (.v (.bool (spIn k 0 (g.commits.length - 1)))) := by
  refine FnW.of_AW TryzT_ok 0 (fn := Tryz.f105) (by kernel_rfl) rfl (by kernel_rfl) rfl rfl rfl ?_
  refine AW_of h105 TryzT_ok (by kernel_rfl) ?_
  have w : IntKind.i64.wrap ((g.commits.length : Int) - 1) = g.commits.length - 1 := wrap64 (by omega) (by omega)
  simp -dsimp [w]
  refine ACallK_of (f92_ok _ _ _) ?_
  simp -dsimp

@[simp] def h104 : Hts := { merge := fun _ => false, mergeF := fun _ => false }
set_option maxHeartbeats 4000000 in
theorem f104_ok (g : GGraph) (hg : g.Ok) : FnR Tryz.prog 104 [.agg [.im g.commits.length (flat g.commits), .int .i64 g.head]] (.v (.bool (graphOk g))) := by
  have hgo := hg
  simp only [GGraph.Ok] at hg
  refine FnW.of_AW TryzT_ok 0 (fn := Tryz.f104) (by kernel_rfl) rfl (by kernel_rfl) rfl rfl rfl ?_
  refine AW_of h104 TryzT_ok (by kernel_rfl) ?_
  by_cases l1 : g.commits.length ≤ 80
  case neg =>
    have l1' : (80 : Int) < g.commits.length := by omega
    simp -dsimp [l1']
    simp [graphOk, l1]
  have l1' : ¬ (80 : Int) < g.commits.length := by omega
  by_cases m : g.head = -1
  · have m1 : (g.head != -1) = false := by simp [m]
    have hd : spIn g.head (-1) (g.commits.length - 1) = true := by simp [spIn, m]; omega
    simp -dsimp [l1', m1]
    refine AWh_loop (fun i : Nat => i ≤ g.commits.length ∧ allB (comOk g) i = true) (fun i => mkE [(1, .box 64 0), (22, .c (.int .i64 g.commits.length)), (23, .c (.int .i64 i))] [(64, .box [.c (.im g.commits.length (flat g.commits)), .c (.int .i64 g.head)])]) (fun i => g.commits.length - i) 0 (Wk_to [1, 22, 23] [(64, 64)] rfl rfl (by simp)) (by simp [allB]) ?_
    rintro i ⟨hi, halli⟩
    refine AW_of h104 TryzT_ok (by kernel_rfl) ?_
    rcases Nat.lt_or_ge i g.commits.length with h1 | h1
    · simp -dsimp [h1, ne_of_lt h1]
      refine ACallK_of (f195_ok g hgo i h1) ?_
      cases gc : comOk g i
      · simp -dsimp
        exact graphOk_false h1 gc
      · simp -dsimp
        exact Back_of (i + 1) [1, 22, 23] [(64, 64)] rfl rfl (by simp; rw [wrap64 (by omega) (by omega)]) ⟨by omega, allB_succ halli gc⟩ (by omega)
    · obtain rfl : i = g.commits.length := by omega
      simp -dsimp
      simp [graphOk, l1, hd, halli]
  · have m1 : (g.head != -1) = true := by simp [m]
    have hde : spIn g.head (-1) (g.commits.length - 1) = spIn g.head 0 (g.commits.length - 1) := by
      rw [Bool.eq_iff_iff]; simp only [spIn, Bool.and_eq_true, decide_eq_true_eq]; omega
    simp -dsimp [l1', m1]
    refine ACallK_of (f105_ok _ _ hg.1) ?_
    cases hd0 : spIn g.head 0 (g.commits.length - 1)
    · simp -dsimp
      simp [graphOk, hde, hd0]
    have hd : spIn g.head (-1) (g.commits.length - 1) = true := by rw [hde, hd0]
    simp -dsimp
    refine AWh_loop (fun i : Nat => i ≤ g.commits.length ∧ allB (comOk g) i = true) (fun i => mkE [(1, .box 64 0), (22, .c (.int .i64 g.commits.length)), (23, .c (.int .i64 i))] [(64, .box [.c (.im g.commits.length (flat g.commits)), .c (.int .i64 g.head)])]) (fun i => g.commits.length - i) 0 (Wk_to [1, 22, 23] [(64, 64)] rfl rfl (by simp)) (by simp [allB]) ?_
    rintro i ⟨hi, halli⟩
    refine AW_of h104 TryzT_ok (by kernel_rfl) ?_
    rcases Nat.lt_or_ge i g.commits.length with h1 | h1
    · simp -dsimp [h1, ne_of_lt h1]
      refine ACallK_of (f195_ok g hgo i h1) ?_
      cases gc : comOk g i
      · simp -dsimp
        exact graphOk_false h1 gc
      · simp -dsimp
        exact Back_of (i + 1) [1, 22, 23] [(64, 64)] rfl rfl (by simp; rw [wrap64 (by omega) (by omega)]) ⟨by omega, allB_succ halli gc⟩ (by omega)
    · obtain rfl : i = g.commits.length := by omega
      simp -dsimp
      simp [graphOk, l1, hd, halli]

@[simp] def h98 : Hts := { merge := fun _ => false, mergeF := fun _ => false, dr := fun id => if id = 12 then [{}, {}, {}, {}, {}, {}, {}, { cr := true }, {}, {}, {}, {}, {}, {}, {}, {}, {}, {}, {}, {}, {}, {}, {}, {}, {}, {}, {}, {}, {}, {}, {}, {}, {}, {}, {}, {}, {}, {}, {}, {}, { cr := true }, {}, {}] else [] }
set_option maxHeartbeats 8000000 in
theorem f98_ok (g : GGraph) (hg : g.Ok) : FnR Tryz.prog 98 [.agg [.im g.commits.length (flat g.commits), .int .i64 g.head]] (.v (.bool (graphOk g))) := by
  have hgo := hg
  simp only [GGraph.Ok] at hg
  have hcs : ∀ y, y ∈ g.commits → y.ups.length ≤ 1073741824 ∧ y.state.Ok := fun y hy => by have := hg.2 y hy; simpa only [GCommit.Ok] using this
  refine FnW.of_AW TryzT_ok 0 (fn := Tryz.f98) (by kernel_rfl) rfl (by kernel_rfl) rfl rfl rfl ?_
  refine AW_of h98 TryzT_ok (by kernel_rfl) ?_
  by_cases l1 : g.commits.length ≤ 80
  case neg =>
    have l1' : (80 : Int) < g.commits.length := by omega
    simp -dsimp [l1']
    simp [graphOk, l1]
  have l1' : ¬ (80 : Int) < g.commits.length := by omega
  have wl : IntKind.i64.wrap ((g.commits.length : Int) - 1) = g.commits.length - 1 := wrap64 (by omega) (by omega)
  simp -dsimp [l1', wl]
  refine ACallK_of (f86_ok _ _ _) ?_
  cases hd : spIn g.head (-1) (g.commits.length - 1)
  · simp -dsimp
    simp [graphOk, hd]
  simp -dsimp
  refine AWh_loop (fun i : Nat => i ≤ g.commits.length ∧ allB (comOk g) i = true) (fun i => mkE [(1, .box 64 0), (3, .c (.int .i64 i))] [(64, .box [.c (.im g.commits.length (flat g.commits)), .c (.int .i64 g.head)])]) (fun i => g.commits.length - i) 0 (Wk_to [1, 3] [(64, 64)] rfl rfl (by simp)) (by simp [allB]) ?_
  rintro i ⟨hi, halli⟩
  refine AW_of h98 TryzT_ok (by kernel_rfl) ?_
  rcases Nat.lt_or_ge i g.commits.length with h1 | h1
  · have hc := hcs _ (nth_mem h1)
    obtain ⟨hu, hst⟩ := hc
    simp -dsimp [h1, ne_of_lt h1]
    repeat (first | refine ⟨by omega, ?_⟩ | refine ⟨by simp [capMax]; omega, ?_⟩ | refine ⟨⟨by omega, by omega⟩, ?_⟩)
    refine ACallK_of (f193_ok _) ?_
    cases g1 : dotOk (nth g.commits i).id
    · simp -dsimp [h1, ne_of_lt h1]
      repeat (first | refine ⟨by omega, ?_⟩ | refine ⟨by simp [capMax]; omega, ?_⟩ | refine ⟨⟨by omega, by omega⟩, ?_⟩)
      exact graphOk_false h1 (by simp [comOk, g1])
    simp -dsimp [h1, ne_of_lt h1]
    repeat (first | refine ⟨by omega, ?_⟩ | refine ⟨by simp [capMax]; omega, ?_⟩ | refine ⟨⟨by omega, by omega⟩, ?_⟩)
    refine ACallK_of (f101_ok _ _ hg.1) ?_
    by_cases g2 : atId g (nth g.commits i).id = i
    case neg =>
      have b2 : (atId g (nth g.commits i).id != (i : Int)) = true := by simp [g2]
      simp -dsimp [h1, ne_of_lt h1, b2]
      repeat (first | refine ⟨by omega, ?_⟩ | refine ⟨by simp [capMax]; omega, ?_⟩ | refine ⟨⟨by omega, by omega⟩, ?_⟩)
      exact graphOk_false h1 (by simp [comOk, g2])
    have b2 : (atId g (nth g.commits i).id != (i : Int)) = false := by simp [g2]
    simp -dsimp [h1, ne_of_lt h1, b2]
    repeat (first | refine ⟨by omega, ?_⟩ | refine ⟨by simp [capMax]; omega, ?_⟩ | refine ⟨⟨by omega, by omega⟩, ?_⟩)
    refine ACallK_of (f132_ok _ hst) ?_
    rw [stateOkS_eq]
    cases g3 : stateOk (nth g.commits i).state
    · simp -dsimp [h1, ne_of_lt h1]
      repeat (first | refine ⟨by omega, ?_⟩ | refine ⟨by simp [capMax]; omega, ?_⟩ | refine ⟨⟨by omega, by omega⟩, ?_⟩)
      exact graphOk_false h1 (by simp [comOk, g3])
    by_cases g4 : (nth g.commits i).ups.length ≤ 2
    case neg =>
      have g4' : (2 : Int) < (nth g.commits i).ups.length := by omega
      simp -dsimp [h1, ne_of_lt h1, g4']
      repeat (first | refine ⟨by omega, ?_⟩ | refine ⟨by simp [capMax]; omega, ?_⟩ | refine ⟨⟨by omega, by omega⟩, ?_⟩)
      exact graphOk_false h1 (by simp [comOk, g4])
    have g4' : ¬ (2 : Int) < (nth g.commits i).ups.length := by omega
    have wk : IntKind.i64.wrap ((i : Int) - 1) = i - 1 := wrap64 (by omega) (by omega)
    simp -dsimp [h1, ne_of_lt h1, g4']
    repeat (first | refine ⟨by omega, ?_⟩ | refine ⟨by simp [capMax]; omega, ?_⟩ | refine ⟨⟨by omega, by omega⟩, ?_⟩)
    refine AWh_loop (fun j : Nat => j ≤ (nth g.commits i).ups.length ∧ allB (upAt g i (nth g.commits i)) j = true) (fun j => mkE [(1, .box 64 0), (3, .c (.int .i64 i)), (4, .box 256 0), (5, .c (.int .i64 j))] [(64, .box [.c (.im g.commits.length (flat g.commits)), .c (.int .i64 g.head)]), (256, .box [.c (.int .i64 ((nth g.commits i)).id.rep), .c (.int .i64 ((nth g.commits i)).id.seq), .c (.im ((nth g.commits i)).ups.length (flat ((nth g.commits i)).ups)), .c (.im ((nth g.commits i)).state.know.length (flat ((nth g.commits i)).state.know)), .c (.im ((nth g.commits i)).state.tallies.length (flat ((nth g.commits i)).state.tallies)), .c (.im ((nth g.commits i)).state.lives.length (flat ((nth g.commits i)).state.lives)), .c (.im ((nth g.commits i)).state.cs.length (flat ((nth g.commits i)).state.cs))])]) (fun j => (nth g.commits i).ups.length - j) 0 (Wk_to [1, 3, 4, 5] [(64, 64), (256, 256)] rfl rfl (by simp)) (by simp [allB]) ?_
    rintro j ⟨hj, hall⟩
    refine AW_of h98 TryzT_ok (by kernel_rfl) ?_
    rcases Nat.lt_or_ge j (nth g.commits i).ups.length with p1 | p1
    · skip
      cases q1 : spIn (nth (nth g.commits i).ups j) 0 ((i : Int) - 1)
      · have hbad := comOk_ups p1 (show upAt g i (nth g.commits i) j = false by simp [upAt, q1])
        rcases Nat.eq_zero_or_pos j with hz | hz
        · have hz' : ¬ 0 < j := by omega
          simp -dsimp [h1, ne_of_lt h1, p1, ne_of_lt p1, hz', wk, q1]
          repeat (first | refine ⟨by omega, ?_⟩ | refine ⟨by simp [capMax]; omega, ?_⟩ | refine ⟨⟨by omega, by omega⟩, ?_⟩)
          refine ACallK_of (f86_ok _ _ _) ?_
          rw [q1]
          simp -dsimp [h1, ne_of_lt h1, p1, ne_of_lt p1, hz']
          repeat (first | refine ⟨by omega, ?_⟩ | refine ⟨by simp [capMax]; omega, ?_⟩ | refine ⟨⟨by omega, by omega⟩, ?_⟩)
          exact graphOk_false h1 hbad
        · simp -dsimp [h1, ne_of_lt h1, p1, ne_of_lt p1, hz, wk, q1]
          repeat (first | refine ⟨by omega, ?_⟩ | refine ⟨by simp [capMax]; omega, ?_⟩ | refine ⟨⟨by omega, by omega⟩, ?_⟩)
          refine ACallK_of (f86_ok _ _ _) ?_
          rw [q1]
          simp -dsimp [h1, ne_of_lt h1, p1, ne_of_lt p1, hz]
          repeat (first | refine ⟨by omega, ?_⟩ | refine ⟨by simp [capMax]; omega, ?_⟩ | refine ⟨⟨by omega, by omega⟩, ?_⟩)
          exact graphOk_false h1 hbad
      have q1' := q1
      simp only [spIn, Bool.and_eq_true, decide_eq_true_eq] at q1'
      have hup : (nth (nth g.commits i).ups j).toNat < g.commits.length := by omega
      have hup0 : ¬ (nth (nth g.commits i).ups j) < 0 := by omega
      have hso := (hcs _ (nth_mem hup)).2
      rcases Nat.eq_zero_or_pos j with hz | hz
      · have hz' : ¬ 0 < j := by omega
        simp -dsimp [h1, ne_of_lt h1, p1, ne_of_lt p1, hz', wk, hup, ne_of_lt hup]
        repeat (first | refine ⟨by omega, ?_⟩ | refine ⟨by simp [capMax]; omega, ?_⟩ | refine ⟨⟨by omega, by omega⟩, ?_⟩)
        refine ACallK_of (f86_ok _ _ _) ?_
        rw [q1]
        simp -dsimp [h1, ne_of_lt h1, p1, ne_of_lt p1, hz', hup, ne_of_lt hup]
        repeat (first | refine ⟨by omega, ?_⟩ | refine ⟨by simp [capMax]; omega, ?_⟩ | refine ⟨⟨by omega, by omega⟩, ?_⟩)
        refine ACallK_of (f194_ok _ _ hso hst) ?_
        cases q2 : behind (nth g.commits (nth (nth g.commits i).ups j).toNat).state (nth g.commits i).state
        · have hbad := comOk_ups p1 (show upAt g i (nth g.commits i) j = false by simp [upAt, q2])
          simp -dsimp [h1, ne_of_lt h1, p1, ne_of_lt p1, hz', hup, ne_of_lt hup]
          exact graphOk_false h1 hbad
        · simp -dsimp [h1, ne_of_lt h1, p1, ne_of_lt p1, hz', hup, ne_of_lt hup]
          exact Back_of (j + 1) [1, 3, 4, 5] [(64, 64), (256, 256)] rfl rfl (by simp; rw [wrap64 (by omega) (by omega)]) ⟨by omega, allB_succ hall (by subst hz; simp [upAt, q1, q2])⟩ (by omega)
      · have w : IntKind.i64.wrap ((j : Int) - 1) = j - 1 := wrap64 (by omega) (by omega)
        have t1 : ((j : Int) - 1).toNat = j - 1 := by omega
        have h3 : j - 1 < (nth g.commits i).ups.length := by omega
        have hn : ¬ j = 0 := by omega
        rcases Int.lt_or_le (nth (nth g.commits i).ups (j - 1)) (nth (nth g.commits i).ups j) with q3 | q3
        · have q3' : ¬ (nth (nth g.commits i).ups j) ≤ (nth (nth g.commits i).ups (j - 1)) := by omega
          simp -dsimp [h1, ne_of_lt h1, p1, ne_of_lt p1, hz, w, t1, h3, wk, hup, ne_of_lt hup, q3']
          repeat (first | refine ⟨by omega, ?_⟩ | refine ⟨by simp [capMax]; omega, ?_⟩ | refine ⟨⟨by omega, by omega⟩, ?_⟩)
          refine ACallK_of (f86_ok _ _ _) ?_
          rw [q1]
          simp -dsimp [h1, ne_of_lt h1, p1, ne_of_lt p1, hz, w, t1, h3, hup, ne_of_lt hup, q3']
          repeat (first | refine ⟨by omega, ?_⟩ | refine ⟨by simp [capMax]; omega, ?_⟩ | refine ⟨⟨by omega, by omega⟩, ?_⟩)
          refine ACallK_of (f194_ok _ _ hso hst) ?_
          cases q2 : behind (nth g.commits (nth (nth g.commits i).ups j).toNat).state (nth g.commits i).state
          · have hbad := comOk_ups p1 (show upAt g i (nth g.commits i) j = false by simp [upAt, q2])
            simp -dsimp [h1, ne_of_lt h1, p1, ne_of_lt p1, hz, w, t1, h3, hup, ne_of_lt hup, q3']
            exact graphOk_false h1 hbad
          · simp -dsimp [h1, ne_of_lt h1, p1, ne_of_lt p1, hz, w, t1, h3, hup, ne_of_lt hup, q3']
            exact Back_of (j + 1) [1, 3, 4, 5] [(64, 64), (256, 256)] rfl rfl (by simp; rw [wrap64 (by omega) (by omega)]) ⟨by omega, allB_succ hall (by simp [upAt, q1, q2, q3])⟩ (by omega)
        · have q3' : ¬ (nth (nth g.commits i).ups (j - 1)) < (nth (nth g.commits i).ups j) := by omega
          have hbad := comOk_ups p1 (show upAt g i (nth g.commits i) j = false by simp [upAt, hn, q3'])
          simp -dsimp [h1, ne_of_lt h1, p1, ne_of_lt p1, hz, w, t1, h3, wk, hup, ne_of_lt hup, q3, q3']
          repeat (first | refine ⟨by omega, ?_⟩ | refine ⟨by simp [capMax]; omega, ?_⟩ | refine ⟨⟨by omega, by omega⟩, ?_⟩)
          refine ACallK_of (f86_ok _ _ _) ?_
          rw [q1]
          simp -dsimp [h1, ne_of_lt h1, p1, ne_of_lt p1, hz, w, t1, h3, hup, ne_of_lt hup, q3, q3']
          repeat (first | refine ⟨by omega, ?_⟩ | refine ⟨by simp [capMax]; omega, ?_⟩ | refine ⟨⟨by omega, by omega⟩, ?_⟩)
          exact graphOk_false h1 hbad
    · obtain rfl : j = (nth g.commits i).ups.length := by omega
      simp -dsimp [h1, ne_of_lt h1]
      have hco : comOk g i = true := by simp [comOk, g1, g2, g3, g4, hall]
      exact Back_of (i + 1) [1, 3] [(64, 64)] rfl rfl (by simp; rw [wrap64 (by omega) (by omega)]) ⟨by omega, allB_succ halli hco⟩ (by omega)
  · obtain rfl : i = g.commits.length := by omega
    simp -dsimp
    simp [graphOk, l1, hd, halli]
end Am
