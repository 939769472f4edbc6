/- A commit and all that it is behind: of both. No condition. -/
import Derived.Test.YtkkaogfjlbigmaaGreatT
import Derived.Test.YtkkaogfjlbigmaaGreatD
import Derived.Test.YtkkaogfjlbigmaaGreatE90
namespace Am
open Go Go.Proofs
open Cel (cells)
set_option maxRecDepth 100000
set_option linter.unusedSimpArgs false
set_option linter.unusedVariables false

@[simp] def h98 : Hts := { merge := fun _ => false, dr := fun id => if id = 3 then [{}, {}, { mn := [640000] }, { mn := [640000] }, {}, {}, {}, {}, {}, {}, {}, {}, { wr := [640000] }, { wr := [640000] }, { wr := [640000] }, { wr := [640000] }] else [] }
set_option maxHeartbeats 1000000 in
theorem f98_ok (xs : List Int) (ha : xs.length ≤ 1073741824) : FnW Tryz.prog 98 [.v (.ow 3 1 xs.length (flat xs))] (.tup []) [.v (.ow 3 1 xs.reverse.length (flat xs.reverse))] := by
  refine FnW.of_AW TryzT_ok 1 (fn := Tryz.f98) (by kernel_rfl) rfl (by kernel_rfl) rfl rfl rfl ?_; refine AW_of h98 TryzT_ok (by kernel_rfl) ?_
  have w0 : IntKind.i64.wrap ((xs.length : Int) - 1) = xs.length - 1 := wrap64 (by omega) (by omega)
  simp -dsimp [w0]
  refine AWh_loop (fun p : Nat => 2 * p ≤ xs.length) (fun p => mkE [(0, .arr 640000), (2, .c (.int .i64 p)), (3, .c (.int .i64 (xs.length - 1 - p)))] [(640000, .arr 0 3 1 xs.length (flat (revAt xs p)))]) (fun p => xs.length - p) 0 (Wk_to [0, 2, 3] [(640000, 640000)] rfl rfl (by simp [revAt_zero])) (by simp) ?_
  rintro p hp
  refine AW_of h98 TryzT_ok (by kernel_rfl) ?_
  rcases Int.lt_or_le (p : Int) (xs.length - 1 - p) with h1 | h1
  · have t1 : ((xs.length : Int) - 1 - p).toNat = xs.length - 1 - p := by omega
    have h2 : p < xs.length := by omega
    have h3 : xs.length - 1 - p < xs.length := by omega
    have wm : IntKind.i64.wrap ((xs.length : Int) - 1 - p - 1) = xs.length - 1 - (p + 1) := by rw [wrap64 (by omega) (by omega)]; omega
    have hne : ¬ revAt xs p = [] := by intro e; have := congrArg List.length e; simp at this; subst this; simp at h2
    simp -dsimp [h1, t1, h2, h3, hne]
    repeat (first | refine ⟨by omega, ?_⟩ | refine ⟨by simp [capMax]; omega, ?_⟩ | refine ⟨⟨by omega, by omega⟩, ?_⟩)
    trace_state
    exact Back_of (p + 1) [0, 2, 3] [(640000, 640000)] rfl rfl (by simp [← revAt_step (xs := xs) (p := p) (by omega), wm]; rw [wrap64 (by omega) (by omega)]) (by omega) (by omega)
  · have h1' : ¬ (p : Int) < xs.length - 1 - p := by omega
    simp -dsimp [h1']
    rw [revAt_end (by omega) (by omega)]

@[simp] def h100 : Hts := {  }
theorem f100_ok (l : List Int) (x : Int) (ha : l.length ≤ 1073741824) : FnR Tryz.prog 100 [.v (.im l.length (flat l)), .v (.int .i64 x)] (.v (.int .i64 (idx (fun y => decide (y = x)) l))) := by
  refine FnW.of_AW TryzT_ok 0 (fn := Tryz.f100) (by kernel_rfl) rfl (by kernel_rfl) rfl rfl rfl ?_; refine AW_of h100 TryzT_ok (by kernel_rfl) ?_
  simp -dsimp
  refine AWh_loop (fun i : Nat => i ≤ l.length ∧ ∀ j : Nat, j < i → decide (nth l j = x) = false) (fun i => mkE [(0, .c (.im l.length (flat l))), (1, .c (.int .i64 x)), (7, .c (.int .i64 l.length)), (8, .c (.int .i64 i))] []) (fun i => l.length - i) 0 (Wk_to [0, 1, 7, 8] [] rfl rfl (by simp)) (by simp) ?_
  rintro i ⟨hi, hall⟩
  refine AW_of h100 TryzT_ok (by kernel_rfl) ?_
  rcases Nat.lt_or_ge i l.length with h1 | h1
  · by_cases e0 : x = nth l i
    · have e1 : (x == nth l i) = true := by simp [e0]
      simp -dsimp [h1, ne_of_lt h1, e1]
      rw [idx_here h1 hall (by simp [e0])]
    · have e1 : (x == nth l i) = false := by simp [e0]
      simp -dsimp [h1, ne_of_lt h1, e1]
      refine Back_of (i + 1) [0, 1, 7, 8] [] rfl rfl (by simp; rw [wrap64 (by omega) (by omega)]) ⟨by omega, fun j hj => ?_⟩ (by omega)
      by_cases e3 : j = i
      · subst e3
        rw [decide_eq_false_iff_not]
        exact fun h => e0 h.symm
      · exact hall j (by omega)
  · simp -dsimp [Nat.not_lt.2 h1]
    rw [idx_none (fun j hj => hall j (by omega))]
@[simp] def h65 : Hts := {  }
theorem f65_ok (l : List Int) (x : Int) (ha : l.length ≤ 1073741824) : FnR Tryz.prog 65 [.v (.im l.length (flat l)), .v (.int .i64 x)] (.v (.bool (hasX l x))) := by
  refine FnW.of_AW TryzT_ok 0 (fn := Tryz.f65) (by kernel_rfl) rfl (by kernel_rfl) rfl rfl rfl ?_; refine AW_of h65 TryzT_ok (by kernel_rfl) ?_
  simp -dsimp
  refine ACallK_of (f100_ok _ _ ha) ?_
  simp -dsimp
  exact idx_has l

@[simp] def h62 : Hts := { merge := fun _ => false, mergeF := fun _ => false, lend := fun _ => [.lend] }
set_option maxHeartbeats 4000000 in
theorem f62_ok (g : GGraph) (hu : upsLt g) (hg : g.commits.length ≤ 1073741824) (hl : ∀ y, y ∈ g.commits → y.ups.length ≤ 1073741824) (k : Nat) (hk : k < g.commits.length) : FnR Tryz.prog 62 [.agg [.im g.commits.length (flat g.commits), .int .i64 g.head], .v (.int .i64 k)] (.v (.ow 3 1 (upsL g k).length (flat (upsL g k)))) := by
  refine FnW.of_AW TryzT_ok 0 (fn := Tryz.f62) (by kernel_rfl) rfl (by kernel_rfl) rfl rfl rfl ?_; refine AW_of h62 TryzT_ok (by kernel_rfl) ?_
  have w0 : IntKind.i64.wrap ((k : Int) + 1) = k + 1 := wrap64 (by omega) (by omega)
  have t0 : ((k : Int) + 1).toNat = k + 1 := by omega
  simp -dsimp [w0, t0]
  repeat (first | refine ⟨by omega, ?_⟩ | refine ⟨by simp [capMax]; omega, ?_⟩ | refine ⟨⟨by omega, by omega⟩, ?_⟩)
  have hn : k + 1 ≤ g.commits.length := hk
  refine AWh_loop (fun d : Nat => d ≤ k + 1) (fun d => mkE [(2, .box 128 0), (5, .arr 768), (6, .arr 1024), (7, .c (.int .i64 (k - d)))] [(128, .box [.c (.im g.commits.length (flat g.commits)), .c (.int .i64 g.head)]), (768, .arr 0 4 1 (k + 1) (flat (runM g (startM (k + 1) k) (k + 1) d))), (1024, .arr 0 3 1 (markD (marks g k) (k + 1) d).length (flat (markD (marks g k) (k + 1) d)))]) (fun d => k + 1 - d) 0 (Wk_to [2, 5, 6, 7] [(128, 128), (768, 768), (1024, 1024)] rfl rfl (by simp [startM, runM, markD])) (by simp) ?_
  rintro d hd
  have hml := markD_len (marks g k) (k + 1) d
  have hrl := runM_len g (startM (k + 1) k) (k + 1) d
  rw [startM_len] at hrl
  refine AW_of h62 TryzT_ok (by kernel_rfl) ?_
  rcases Nat.lt_or_ge d (k + 1) with h1 | h1
  · have g1 : d ≤ k := by omega
    have t1 : ((k : Int) - d).toNat = k - d := by omega
    have t2 : k - d < k + 1 := by omega
    have t3 : k - d < g.commits.length := by omega
    have hat := runM_at hu hn (startM (k + 1) k) h1
    rw [Nat.add_sub_cancel] at hat
    have hup := hl _ (nth_mem t3)
    have hup2 : (upsOf g (k - d)).length ≤ 1073741824 := hup
    have wm : IntKind.i64.wrap ((k : Int) - d - 1) = k - (d + 1) := by rw [wrap64 (by omega) (by omega)]; omega
    have hne : ¬ runM g (startM (k + 1) k) (k + 1) d = [] := by intro e; rw [e] at hrl; simp at hrl
    have hz : k + 1 - 1 - d = k - d := by omega
    cases q : nth (runM g (startM (k + 1) k) (k + 1) d) (k - d)
    · have qm : nth (marks g k) (k - d) = false := by rw [← q, hat]; rfl
      simp -dsimp [g1, t1, t2, hrl, hne, q]
      repeat (first | refine ⟨by omega, ?_⟩ | refine ⟨by simp [capMax]; omega, ?_⟩ | refine ⟨⟨by omega, by omega⟩, ?_⟩)
      exact Back_of (d + 1) [2, 5, 6, 7] [(128, 128), (768, 768), (1024, 1024)] rfl rfl (by simp [runM, markD, stepU, hz, q, qm, wm]) (by omega) (by omega)
    · have qm : nth (marks g k) (k - d) = true := by rw [← q, hat]; rfl
      simp -dsimp [g1, t1, t2, t3, ne_of_lt t3, hrl, hne, q]
      repeat (first | refine ⟨by omega, ?_⟩ | refine ⟨by simp [capMax]; omega, ?_⟩ | refine ⟨⟨by omega, by omega⟩, ?_⟩)
      have hlt : ∀ y, y < (upsOf g (k - d)).length → (nth (upsOf g (k - d)) y).toNat < k - d := fun y hy => by have := hu _ t3 y hy; omega
      refine AWh_loop (fun j : Nat => j ≤ (upsOf g (k - d)).length) (fun j => mkE [(2, .box 128 0), (5, .arr 768), (6, .arr 1024), (7, .c (.int .i64 (k - d))), (36, .c (.im (upsOf g (k - d)).length (flat (upsOf g (k - d))))), (37, .c (.int .i64 (upsOf g (k - d)).length)), (38, .c (.int .i64 j))] [(128, .box [.c (.im g.commits.length (flat g.commits)), .c (.int .i64 g.head)]), (768, .arr 0 4 1 (k + 1) (flat (setK (runM g (startM (k + 1) k) (k + 1) d) (upsOf g (k - d)) j))), (1024, .arr 0 3 1 ((markD (marks g k) (k + 1) d).length + 1) (flat (markD (marks g k) (k + 1) d ++ [((k - d : Nat) : Int)])))]) (fun j => (upsOf g (k - d)).length - j) 0 (Wk_to [2, 5, 6, 7, 36, 37, 38] [(128, 128), (768, 768), (1024, 1920)] rfl rfl (by simp [setK, upsOf, Int.ofNat_sub g1])) (by simp) ?_
      rintro j hj
      have hsl := setK_len (runM g (startM (k + 1) k) (k + 1) d) (upsOf g (k - d)) j
      rw [hrl] at hsl
      have hne2 : ¬ setK (runM g (startM (k + 1) k) (k + 1) d) (upsOf g (k - d)) j = [] := by intro e; rw [e] at hsl; simp at hsl
      refine AW_of h62 TryzT_ok (by kernel_rfl) ?_
      rcases Nat.lt_or_ge j (upsOf g (k - d)).length with p1 | p1
      · have hb := hu _ t3 j p1
        have b1 : (nth (upsOf g (k - d)) j).toNat < k + 1 := by omega
        have b2 : 0 ≤ nth (upsOf g (k - d)) j := hb.1
        have b3 : nth (upsOf g (k - d)) j < (k : Int) + 1 := by omega
        simp -dsimp [p1, ne_of_lt p1, b1, b2, b3, hsl, hne2]
        repeat (first | refine ⟨by omega, ?_⟩ | refine ⟨by simp [capMax]; omega, ?_⟩ | refine ⟨⟨by omega, by omega⟩, ?_⟩)
        exact Back_of (j + 1) [2, 5, 6, 7, 36, 37, 38] [(128, 128), (768, 768), (1024, 1024)] rfl rfl (by simp [setK]; rw [wrap64 (by omega) (by omega)]) (by omega) (by omega)
      · obtain rfl : j = (upsOf g (k - d)).length := by omega
        simp -dsimp
        exact Back_of (d + 1) [2, 5, 6, 7] [(128, 128), (768, 768), (1024, 1024)] rfl rfl (by simp [runM, markD, stepU, hz, q, qm, wm]) (by omega) (by omega)
  · obtain rfl : d = k + 1 := by omega
    have g1 : ¬ (k : Int) + 1 ≤ k := by omega
    simp -dsimp [g1]
    refine ACallW_args (by intro us; simp -dsimp; exact ⟨rfl, rfl, rfl⟩) ?_
    refine ACallC_of (fun us => f98_ok (markD (marks g k) (k + 1) (k + 1)) (by omega)) (by intro us; simp -dsimp; exact ⟨rfl, rfl⟩) ?_
    have he : (markD (marks g k) (k + 1) (k + 1)).reverse = upsL g k := markD_eq _ _
    have hle : (markD (marks g k) (k + 1) (k + 1)).length = (upsL g k).length := by rw [← he, List.length_reverse]
    simp -dsimp [he, hle]

@[simp] def h58 : Hts := { merge := fun _ => false, mergeF := fun _ => false }
set_option maxHeartbeats 4000000 in
theorem f58_ok (g : GGraph) (hu : upsLt g) (hg : g.commits.length ≤ 1073741824) (hl : ∀ y, y ∈ g.commits → y.ups.length ≤ 1073741824) (k : Nat) (hk : k < g.commits.length) : FnR Tryz.prog 58 [.agg [.im g.commits.length (flat g.commits), .int .i64 g.head], .v (.int .i64 k)] (.v (.ow 4 1 (marksS g k).length (flat (marksS g k)))) := by
  refine FnW.of_AW TryzT_ok 0 (fn := Tryz.f58) (by kernel_rfl) rfl (by kernel_rfl) rfl rfl rfl ?_; refine AW_of h58 TryzT_ok (by kernel_rfl) ?_
  have w0 : IntKind.i64.wrap ((g.commits.length : Int) - 1) = g.commits.length - 1 := wrap64 (by omega) (by omega)
  have hn0 : ¬ g.commits = [] := ne_of_lt hk
  simp -dsimp [w0, hk, hn0]
  repeat (first | refine ⟨by omega, ?_⟩ | refine ⟨by simp [capMax]; omega, ?_⟩ | refine ⟨⟨by omega, by omega⟩, ?_⟩)
  refine AWh_loop (fun d : Nat => d ≤ g.commits.length) (fun d => mkE [(2, .box 128 0), (5, .arr 704), (6, .c (.int .i64 (g.commits.length - 1 - d)))] [(128, .box [.c (.im g.commits.length (flat g.commits)), .c (.int .i64 g.head)]), (704, .arr 0 4 1 g.commits.length (flat (runM g (startM g.commits.length k) g.commits.length d)))]) (fun d => g.commits.length - d) 0 (Wk_to [2, 5, 6] [(128, 128), (704, 704)] rfl rfl (by simp [startM, runM])) (by simp) ?_
  rintro d hd
  have hrl := runM_len g (startM g.commits.length k) g.commits.length d
  rw [startM_len] at hrl
  refine AW_of h58 TryzT_ok (by kernel_rfl) ?_
  rcases Nat.lt_or_ge d g.commits.length with h1 | h1
  · have g1 : (d : Int) ≤ g.commits.length - 1 := by omega
    have t1 : ((g.commits.length : Int) - 1 - d).toNat = g.commits.length - 1 - d := by omega
    have t3 : g.commits.length - 1 - d < g.commits.length := by omega
    have hup := hl _ (nth_mem t3)
    have hup2 : (upsOf g (g.commits.length - 1 - d)).length ≤ 1073741824 := hup
    have wm : IntKind.i64.wrap ((g.commits.length : Int) - 1 - d - 1) = g.commits.length - 1 - (d + 1) := by rw [wrap64 (by omega) (by omega)]; omega
    have hlt : ∀ y, y < (upsOf g (g.commits.length - 1 - d)).length → (nth (upsOf g (g.commits.length - 1 - d)) y).toNat < g.commits.length - 1 - d := fun y hy => by have := hu _ t3 y hy; omega
    simp -dsimp [g1]
    refine AWh_loop (fun j : Nat => j ≤ (upsOf g (g.commits.length - 1 - d)).length ∧ (0 < j → nth (runM g (startM g.commits.length k) g.commits.length d) (g.commits.length - 1 - d) = true)) (fun j => mkE [(2, .box 128 0), (5, .arr 704), (6, .c (.int .i64 (g.commits.length - 1 - d))), (7, .c (.int .i64 j))] [(128, .box [.c (.im g.commits.length (flat g.commits)), .c (.int .i64 g.head)]), (704, .arr 0 4 1 g.commits.length (flat (setK (runM g (startM g.commits.length k) g.commits.length d) (upsOf g (g.commits.length - 1 - d)) j)))]) (fun j => (upsOf g (g.commits.length - 1 - d)).length - j) 0 (Wk_to [2, 5, 6, 7] [(128, 128), (704, 704)] rfl rfl (by simp [setK])) (by simp) ?_
    rintro j ⟨hj, hjt⟩
    have hsl := setK_len (runM g (startM g.commits.length k) g.commits.length d) (upsOf g (g.commits.length - 1 - d)) j
    rw [hrl] at hsl
    have hkeep := setK_keep (runM g (startM g.commits.length k) g.commits.length d) j (fun y hy => hlt y (by omega)) (g.commits.length - 1 - d) (Nat.le_refl _)
    have hne2 : ¬ setK (runM g (startM g.commits.length k) g.commits.length d) (upsOf g (g.commits.length - 1 - d)) j = [] := by intro e; rw [e] at hsl; simp at hsl; omega
    refine AW_of h58 TryzT_ok (by kernel_rfl) ?_
    rcases Nat.lt_or_ge j (upsOf g (g.commits.length - 1 - d)).length with p1 | p1
    · have p1' : j < (nth g.commits (g.commits.length - 1 - d)).ups.length := p1
      cases q : nth (runM g (startM g.commits.length k) g.commits.length d) (g.commits.length - 1 - d)
      · rw [q] at hkeep
        simp -dsimp [t1, t3, ne_of_lt t3, p1', ne_of_lt p1', hsl, hne2, hkeep, g1]
        repeat (first | refine ⟨by omega, ?_⟩ | refine ⟨by simp [capMax]; omega, ?_⟩ | refine ⟨⟨by omega, by omega⟩, ?_⟩)
        obtain rfl : j = 0 := by
          rcases Nat.eq_zero_or_pos j with h | h
          · exact h
          · rw [hjt h] at q; cases q
        exact Back_of (d + 1) [2, 5, 6] [(128, 128), (704, 704)] rfl rfl (by simp [runM, stepU, setK, q, wm]) (by omega) (by omega)
      · rw [q] at hkeep
        have hb := hu _ t3 j p1
        have b1 : (nth (upsOf g (g.commits.length - 1 - d)) j).toNat < g.commits.length := by omega
        have b2 : 0 ≤ nth (upsOf g (g.commits.length - 1 - d)) j := hb.1
        have b3 : nth (upsOf g (g.commits.length - 1 - d)) j < (g.commits.length : Int) := by omega
        have eu : (nth g.commits (g.commits.length - 1 - d)).ups = upsOf g (g.commits.length - 1 - d) := rfl
        simp -dsimp [t1, t3, ne_of_lt t3, eu, p1, ne_of_lt p1, hsl, hne2, hkeep, g1, b1, b2, b3]
        repeat (first | refine ⟨by omega, ?_⟩ | refine ⟨by simp [capMax]; omega, ?_⟩ | refine ⟨⟨by omega, by omega⟩, ?_⟩)
        exact Back_of (j + 1) [2, 5, 6, 7] [(128, 128), (704, 704)] rfl rfl (by simp [setK]; rw [wrap64 (by omega) (by omega)]) ⟨by omega, fun _ => rfl⟩ (by omega)
    · have p1' : ¬ j < (nth g.commits (g.commits.length - 1 - d)).ups.length := by have : (upsOf g (g.commits.length - 1 - d)).length = (nth g.commits (g.commits.length - 1 - d)).ups.length := rfl; omega
      simp -dsimp [t1, t3, ne_of_lt t3, p1', hsl, hne2, g1]
      repeat (first | refine ⟨by omega, ?_⟩ | refine ⟨by simp [capMax]; omega, ?_⟩ | refine ⟨⟨by omega, by omega⟩, ?_⟩)
      obtain rfl : j = (upsOf g (g.commits.length - 1 - d)).length := by omega
      refine Back_of (d + 1) [2, 5, 6] [(128, 128), (704, 704)] rfl rfl (by
        simp [runM, stepU, setK, wm]
        cases q : nth (runM g (startM g.commits.length k) g.commits.length d) (g.commits.length - 1 - d)
        · rcases Nat.eq_zero_or_pos (upsOf g (g.commits.length - 1 - d)).length with h | h
          · simp [h, setK]
          · rw [hjt h] at q; cases q
        · simp) (by omega) (by omega)
  · obtain rfl : d = g.commits.length := by omega
    have g1 : ¬ (g.commits.length : Int) ≤ g.commits.length - 1 := by omega
    simp -dsimp [g1]
    simp [marksS]

@[simp] def h57 : Hts := { merge := fun _ => false, mergeF := fun _ => false }
set_option maxHeartbeats 4000000 in
theorem f57_ok (m : List Bool) (hm : m.length ≤ 1073741824) : FnR Tryz.prog 57 [.v (.im m.length (flat m))] (.v (.ow 3 1 (markK m m.length).length (flat (markK m m.length)))) := by
  refine FnW.of_AW TryzT_ok 0 (fn := Tryz.f57) (by kernel_rfl) rfl (by kernel_rfl) rfl rfl rfl ?_; refine AW_of h57 TryzT_ok (by kernel_rfl) ?_
  simp -dsimp
  refine AWh_loop (fun i : Nat => i ≤ m.length) (fun i => mkE [(0, .c (.im m.length (flat m))), (3, .arr 320), (4, .c (.int .i64 i))] [(320, .arr 0 3 1 (markK m i).length (flat (markK m i)))]) (fun i => m.length - i) 0 (Wk_to [0, 3, 4] [(320, 320)] rfl rfl (by simp [markK])) (by simp) ?_
  rintro i hi
  have hml := markK_len m i
  refine AW_of h57 TryzT_ok (by kernel_rfl) ?_
  rcases Nat.lt_or_ge i m.length with h1 | h1
  · cases q : nth m i
    · simp -dsimp [h1, ne_of_lt h1, q]
      exact Back_of (i + 1) [0, 3, 4] [(320, 320)] rfl rfl (by simp [markK, q]; rw [wrap64 (by omega) (by omega)]) (by omega) (by omega)
    · simp -dsimp [h1, ne_of_lt h1, q]
      repeat (first | refine ⟨by omega, ?_⟩ | refine ⟨by simp [capMax]; omega, ?_⟩ | refine ⟨⟨by omega, by omega⟩, ?_⟩)
      exact Back_of (i + 1) [0, 3, 4] [(320, 1216)] rfl rfl (by simp [markK, q]; rw [wrap64 (by omega) (by omega)]) (by omega) (by omega)
  · obtain rfl : i = m.length := by omega
    simp -dsimp

def upsR (g : GGraph) (k : Int) : List Int := if spIn k 0 (g.commits.length - 1) && graphOk g then upsL g k.toNat else []
@[simp] def h20 : Hts := { merge := fun _ => false, mergeF := fun _ => false }
theorem f20_ok (g : GGraph) (hg : g.Ok) (k : Int) : FnR Tryz.prog 20 [.agg [.im g.commits.length (flat g.commits), .int .i64 g.head], .v (.int .i64 k)] (.v (.ow 3 1 (upsR g k).length (flat (upsR g k)))) := by
  have hgo := hg
  simp only [GGraph.Ok] at hg
  have hl : ∀ y, y ∈ g.commits → y.ups.length ≤ 1073741824 := fun y hy => by have := hg.2 y hy; simp only [GCommit.Ok] at this; exact this.1
  refine FnW.of_AW TryzT_ok 0 (fn := Tryz.f20) (by kernel_rfl) rfl (by kernel_rfl) rfl rfl rfl ?_; refine AW_of h20 TryzT_ok (by kernel_rfl) ?_
  simp -dsimp
  refine ACallK_of (f60_ok _ _ hg.1) ?_
  cases q1 : spIn k 0 (g.commits.length - 1)
  · simp -dsimp
    simp [upsR, q1]
  · simp -dsimp
    refine ACallK_of (f61_ok _ hgo) ?_
    cases q2 : graphOk g
    · simp -dsimp
      simp [upsR, q2]
    · have hk := q1
      simp only [spIn, Bool.and_eq_true, decide_eq_true_eq] at hk
      obtain ⟨n, rfl⟩ : ∃ n : Nat, k = n := ⟨k.toNat, by omega⟩
      simp -dsimp
      refine ACallK_of (f62_ok _ (graphOk_ups q2) hg.1 hl n (by omega)) ?_
      simp -dsimp
      simp [upsR, q1, q2]
@[simp] def h18 : Hts := { merge := fun _ => false, mergeF := fun _ => false }
theorem f18_ok (g : GGraph) (hg : g.Ok) (k : Int) : FnR Tryz.prog 18 [.agg [.im g.commits.length (flat g.commits), .int .i64 g.head], .v (.int .i64 k)] (.v (.ow 3 1 (upsR g k).length (flat (upsR g k)))) := by
  have hgo := hg
  simp only [GGraph.Ok] at hg
  have hl : ∀ y, y ∈ g.commits → y.ups.length ≤ 1073741824 := fun y hy => by have := hg.2 y hy; simp only [GCommit.Ok] at this; exact this.1
  have w0 : IntKind.i64.wrap ((g.commits.length : Int) - 1) = g.commits.length - 1 := wrap64 (by omega) (by omega)
  refine FnW.of_AW TryzT_ok 0 (fn := Tryz.f18) (by kernel_rfl) rfl (by kernel_rfl) rfl rfl rfl ?_; refine AW_of h18 TryzT_ok (by kernel_rfl) ?_
  simp -dsimp
  refine ACallK_of (f56_ok _ hgo) ?_
  cases q2 : graphOk g
  · simp -dsimp
    simp [upsR, q2]
  · simp -dsimp [w0]
    refine ACallK_of (f34_ok _ _ _) ?_
    cases q1 : spIn k 0 (g.commits.length - 1)
    · simp -dsimp
      simp [upsR, q1]
    · have hk := q1
      simp only [spIn, Bool.and_eq_true, decide_eq_true_eq] at hk
      obtain ⟨n, rfl⟩ : ∃ n : Nat, k = n := ⟨k.toNat, by omega⟩
      have hu := graphOk_ups q2
      have h2 := f57_ok (marksS g n) (by simp; omega)
      rw [marksS_len, upsL_S hu (by omega)] at h2
      simp -dsimp
      refine ACallK_of (f58_ok _ hu hg.1 hl n (by omega)) ?_
      simp -dsimp
      refine ACallK_of (h2) ?_
      simp -dsimp
      simp [upsR, q1, q2]
end Am
