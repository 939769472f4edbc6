/- What two know together; what is copied; what is there. No condition. -/
import Derived.Test.YtpgnllakcjajjaaGreatT
import Derived.Test.YtpgnllakcjajjaaGreatD
import Derived.Test.YtpgnllakcjajjaaGreatE3
import Derived.Test.YtpgnllakcjajjaaGreatE24c
import Derived.Test.YtpgnllakcjajjaaGreatAm31
namespace Am
open Go Go.Proofs
open Cel (cells)
set_option maxRecDepth 100000
set_option linter.unusedSimpArgs false
set_option linter.unusedVariables false

def maxK (a b : List Int) : Nat → List Int
  | 0 => []
  | n + 1 => maxK a b n ++ [max (nth a n) (nth b n)]
def maxIn (a b : List Int) : Nat → List Int
  | 0 => a
  | n + 1 => (maxIn a b n).set n (max (nth a n) (nth b n))
def knowMax (a b : List Int) : List Int := if (knowOk a && knowOk b) = true then maxK a b a.length else []
theorem maxK_len (a b : List Int) : ∀ n, (maxK a b n).length = n
  | 0 => rfl
  | n + 1 => by simp [maxK, maxK_len a b n]
theorem maxIn_len (a b : List Int) : ∀ n, (maxIn a b n).length = a.length
  | 0 => rfl
  | n + 1 => by simp [maxIn, maxIn_len a b n]
theorem maxIn_eq (a b : List Int) : ∀ n, n ≤ a.length → maxIn a b n = maxK a b n ++ a.drop n
  | 0, _ => by simp [maxIn, maxK]
  | n + 1, h => by
    have hd : a.drop n = nth a n :: a.drop (n + 1) := by rw [List.drop_eq_getElem_cons (show n < a.length by omega), ← nth_eq (show n < a.length by omega)]
    rw [maxIn, maxIn_eq a b n (by omega), hd, maxK, List.set_append]
    simp [maxK_len]
theorem maxIn_nth (a b : List Int) {n : Nat} (h : n < a.length) : nth (maxIn a b n) n = nth a n := by
  have hd : a.drop n = nth a n :: a.drop (n + 1) := by rw [List.drop_eq_getElem_cons h, ← nth_eq h]
  rw [maxIn_eq a b n (by omega), hd, nth_eq (by simp [maxK_len])]
  rw [List.getElem_append_right (by simp [maxK_len])]
  simp [maxK_len]

@[simp] def h43 : Hts := { merge := fun _ => false, mergeF := fun _ => false }
theorem f43_ok (a b : List Int) (ha : a.length ≤ 1073741824) (hb : b.length ≤ 1073741824) : FnR Tryz.prog 43 [.v (.im a.length (flat a)), .v (.im b.length (flat b))] (.v (.ow 3 1 (knowMax a b).length (flat (knowMax a b)))) := by
  refine FnW.of_AW TryzT_ok 0 (fn := Tryz.f43) (by kernel_rfl) rfl (by kernel_rfl) rfl rfl rfl ?_
  refine AW_of h43 TryzT_ok (by kernel_rfl) ?_
  simp -dsimp
  refine ACallK_of (f120_ok _ ha) ?_
  simp -dsimp
  cases ka : knowOk a
  · simp -dsimp
    simp [knowMax, ka]
  simp -dsimp
  refine ACallK_of (f120_ok _ hb) ?_
  simp -dsimp
  cases kb : knowOk b
  · simp -dsimp
    simp [knowMax, kb]
  simp -dsimp
  have la : a.length = b.length := by
    simp [knowOk] at ka kb
    omega
  refine AWh_loop (fun i : Nat => i ≤ a.length) (fun i => mkE [(0, .c (.im a.length (flat a))), (1, .c (.im b.length (flat b))), (5, .arr 512), (6, .c (.int .i64 i))] [(512, .arr 0 3 1 i (flat (maxK a b i)))]) (fun i => a.length - i) 0 (Wk_to [0, 1, 5, 6] [(512, 512)] rfl rfl (by simp [maxK])) (by simp) ?_
  rintro i hi
  refine AW_of h43 TryzT_ok (by kernel_rfl) ?_
  rcases Nat.lt_or_ge i a.length with h1 | h1
  · have h2 : i < b.length := by omega
    rcases Int.lt_or_le (nth a i) (nth b i) with h3 | h3
    · have e : max (nth a i) (nth b i) = nth b i := by omega
      simp -dsimp [h1, h2, h3, ne_of_lt h1, ne_of_lt h2]
      refine ⟨by simp [capMax]; omega, ?_⟩
      exact Back_of (i + 1) [0, 1, 5, 6] [(512, 2624)] rfl rfl (by simp [maxK, e]; rw [wrap64 (by omega) (by omega)]) (by omega) (by omega)
    · have e : max (nth a i) (nth b i) = nth a i := by omega
      have h3' : ¬ nth a i < nth b i := by omega
      simp -dsimp [h1, h2, h3, h3', ne_of_lt h1, ne_of_lt h2]
      refine ⟨by simp [capMax]; omega, ?_⟩
      exact Back_of (i + 1) [0, 1, 5, 6] [(512, 2624)] rfl rfl (by simp [maxK, e]; rw [wrap64 (by omega) (by omega)]) (by omega) (by omega)
  · obtain rfl : i = a.length := by omega
    simp -dsimp
    simp [knowMax, ka, kb, maxK_len]

@[simp] def h55 : Hts := { merge := fun _ => false, mergeF := fun _ => false }
theorem f55_ok (a b : List Int) (ha : a.length ≤ 1073741824) (hb : b.length ≤ 1073741824) : FnR Tryz.prog 55 [.v (.im a.length (flat a)), .v (.im b.length (flat b))] (.v (.ow 3 1 (knowMax a b).length (flat (knowMax a b)))) := by
  refine FnW.of_AW TryzT_ok 0 (fn := Tryz.f55) (by kernel_rfl) rfl (by kernel_rfl) rfl rfl rfl ?_
  refine AW_of h55 TryzT_ok (by kernel_rfl) ?_
  simp -dsimp
  refine ACallK_of (f130_ok _ ha) ?_
  simp -dsimp
  cases ka : knowOk a
  · simp -dsimp
    simp [knowMax, ka]
  simp -dsimp
  refine ACallK_of (f130_ok _ hb) ?_
  simp -dsimp
  cases kb : knowOk b
  · simp -dsimp
    simp [knowMax, kb]
  simp -dsimp
  have la : a.length = b.length := by
    simp [knowOk] at ka kb
    omega
  refine ACallK_of (f93_ok _ ha) ?_
  simp -dsimp
  refine AWh_loop (fun i : Nat => i ≤ a.length) (fun i => mkE [(5, .arr 1088), (18, .c (.im b.length (flat b))), (19, .c (.int .i64 b.length)), (20, .c (.int .i64 i))] [(1088, .arr 0 3 1 a.length (flat (maxIn a b i)))]) (fun i => a.length - i) 0 (Wk_to [5, 18, 19, 20] [(1088, 1088)] rfl rfl (by simp [maxIn])) (by simp) ?_
  rintro i hi
  have hml := maxIn_len a b i
  refine AW_of h55 TryzT_ok (by kernel_rfl) ?_
  rcases Nat.lt_or_ge i a.length with h1 | h1
  · have h2 : i < b.length := by omega
    have h3 : i < (maxIn a b i).length := by omega
    have e := maxIn_nth a b h1
    simp -dsimp [h1, h2, h3, e, ne_of_lt h1, ne_of_lt h2, ne_of_lt h3]
    refine ⟨by omega, ?_⟩
    have e2 : max (nth a i) (nth b i) = if nth a i < nth b i then nth b i else nth a i := by split <;> omega
    exact Back_of (i + 1) [5, 18, 19, 20] [(1088, 1088)] rfl rfl (by simp [maxIn, e2]; rw [wrap64 (by omega) (by omega)]) (by omega) (by omega)
  · obtain rfl : i = a.length := by omega
    have h2 : ¬ a.length < b.length := by omega
    simp -dsimp [h2]
    have e3 := maxIn_eq a b a.length (Nat.le_refl _)
    simp [knowMax, ka, kb, maxK_len, e3]

@[simp] def h54 : Hts := { dr := fun id => if id = 1 then [{ mb := [6, 10, 14] }, { mb := [6, 10, 14] }, { cr := true, mb := [6, 10, 14] }, { cr := true, mb := [5, 10, 14] }, { mb := [5, 6, 10, 14] }, { mb := [5, 6, 10, 14] }, { wr := [384], cr := true, mb := [10, 14] }, { mn := [384], cr := true, mb := [5, 6, 9, 14] }, { mn := [384], mb := [5, 6, 9, 10, 14] }, { mn := [384], mb := [5, 6, 9, 10, 14] }, { wr := [640], cr := true, mb := [14] }, { mn := [384, 640], cr := true, mb := [5, 6, 9, 10, 13] }, { mn := [384, 640], mb := [5, 6, 9, 10, 13, 14] }, { mn := [384, 640], mb := [5, 6, 9, 10, 13, 14] }, { wr := [896], cr := true }, {}, { wr := [128] }] else [] }
theorem f54_ok (s : GState) (h : s.Ok) : FnR Tryz.prog 54 [.agg [.im s.know.length (flat s.know), .im s.tallies.length (flat s.tallies), .im s.lives.length (flat s.lives), .im s.cs.length (flat s.cs)]] (.agg [.ow 3 1 s.know.length (flat s.know), .ow 118 3 s.tallies.length (flat s.tallies), .ow 82 6 s.lives.length (flat s.lives), .ow 121 8 s.cs.length (flat s.cs)]) := by
  simp only [GState.Ok] at h
  obtain ⟨o0, o1, o2, o3, o4, o5, o6⟩ := h
  refine FnW.of_AW TryzT_ok 0 (fn := Tryz.f54) (by kernel_rfl) rfl (by kernel_rfl) rfl rfl rfl ?_
  refine AW_of h54 TryzT_ok (by kernel_rfl) ?_
  simp -dsimp
  refine ACallK_of (f93_ok _ o0) ?_
  simp -dsimp
  simp [capMax]
  omega
@[simp] def h42 : Hts := { dr := fun id => if id = 1 then [{ cr := true, mb := [7, 11, 15] }, { mb := [3, 7, 11, 15] }, { mb := [3, 7, 11, 15] }, { wr := [192], cr := true, mb := [7, 11, 15] }, { mn := [192], cr := true, mb := [3, 6, 11, 15] }, { mn := [192], mb := [3, 6, 7, 11, 15] }, { mn := [192], mb := [3, 6, 7, 11, 15] }, { wr := [448], cr := true, mb := [11, 15] }, { mn := [192, 448], cr := true, mb := [3, 6, 7, 10, 15] }, { mn := [192, 448], mb := [3, 6, 7, 10, 11, 15] }, { mn := [192, 448], mb := [3, 6, 7, 10, 11, 15] }, { wr := [704], cr := true, mb := [15] }, { mn := [192, 448, 704], cr := true, mb := [3, 6, 7, 10, 11, 14] }, { mn := [192, 448, 704], mb := [3, 6, 7, 10, 11, 14, 15] }, { mn := [192, 448, 704], mb := [3, 6, 7, 10, 11, 14, 15] }, { wr := [960], cr := true }, {}, { wr := [128] }] else [] }
theorem f42_ok (s : GState) (h : s.Ok) : FnR Tryz.prog 42 [.agg [.im s.know.length (flat s.know), .im s.tallies.length (flat s.tallies), .im s.lives.length (flat s.lives), .im s.cs.length (flat s.cs)]] (.agg [.ow 3 1 s.know.length (flat s.know), .ow 118 3 s.tallies.length (flat s.tallies), .ow 82 6 s.lives.length (flat s.lives), .ow 121 8 s.cs.length (flat s.cs)]) := by
  simp only [GState.Ok] at h
  obtain ⟨o0, o1, o2, o3, o4, o5, o6⟩ := h
  refine FnW.of_AW TryzT_ok 0 (fn := Tryz.f42) (by kernel_rfl) rfl (by kernel_rfl) rfl rfl rfl ?_
  refine AW_of h42 TryzT_ok (by kernel_rfl) ?_
  simp -dsimp
  simp [capMax]
  omega

def hasX {α : Type} [DecidableEq α] (l : List α) (x : α) : Bool := decide (x ∈ l)
theorem not_mem_nth {α : Type} [Cel α] {l : List α} {x : α} (h : ∀ i : Nat, i < l.length → nth l i ≠ x) : ¬ x ∈ l := by
  intro hx
  obtain ⟨i, hi, e⟩ := List.getElem_of_mem hx
  exact h i hi (by rw [nth_eq hi, e])
theorem idx_has {α : Type} [DecidableEq α] {x : α} : ∀ l : List α, decide (0 ≤ idx (fun y => decide (y = x)) l) = hasX l x
  | [] => by simp [idx, hasX]
  | y :: r => by
    have ih := idx_has (x := x) r
    have hr := idx_range (fun y => decide (y = x)) r
    rw [Bool.eq_iff_iff] at ih ⊢
    simp only [hasX, decide_eq_true_eq] at ih ⊢
    simp only [idx]
    by_cases e : y = x
    · subst e; simp
    · simp only [e, decide_false]
      rw [List.mem_cons, ← ih]
      simp only [Bool.false_eq_true, if_false]
      constructor
      · intro h
        split at h
        · omega
        · right; omega
      · rintro (h | h)
        · exact absurd h.symm e
        · rw [if_neg (by omega)]; omega

@[simp] def h163 : Hts := { dr := fun id => if id = 4 then [{}, {}, {}, {}, {}, {}] else [] }
theorem f163_ok (l : List GLive) (x : GLive) (ha : l.length ≤ 1073741824) : FnR Tryz.prog 163 [.v (.im l.length (flat l)), .agg [.bool x.map, .str x.obj, .str x.key, .int .i64 x.val, .int .i64 x.dot.rep, .int .i64 x.dot.seq]] (.v (.int .i64 (idx (fun y => decide (y = x)) l))) := by
  refine FnW.of_AW TryzT_ok 0 (fn := Tryz.f163) (by kernel_rfl) rfl (by kernel_rfl) rfl rfl rfl ?_
  refine AW_of h163 TryzT_ok (by kernel_rfl) ?_
  simp -dsimp
  refine AWh_loop (fun i : Nat => i ≤ l.length ∧ ∀ j : Nat, j < i → decide (nth l j = x) = false) (fun i => mkE [(0, .c (.im l.length (flat l))), (3, .box 192 0), (7, .c (.int .i64 l.length)), (8, .c (.int .i64 i))] [(192, .box [.c (.bool x.map), .c (.str x.obj), .c (.str x.key), .c (.int .i64 x.val), .c (.int .i64 x.dot.rep), .c (.int .i64 x.dot.seq)])]) (fun i => l.length - i) 0 (Wk_to [0, 3, 7, 8] [(192, 192)] rfl rfl (by simp)) (by simp) ?_
  rintro i ⟨hi, hall⟩
  refine AW_of h163 TryzT_ok (by kernel_rfl) ?_
  rcases Nat.lt_or_ge i l.length with h1 | h1
  · simp -dsimp [h1, ne_of_lt h1]
    try refine ⟨by omega, ?_⟩
    refine ⟨fun e0 e1 e2 e3 e4 e5 => ?_, fun he => ?_⟩
    · rw [idx_here h1 hall (by simp [GLive.ext_iff, GDot.ext_iff, e0, e1, e2, e3, e4, e5])]
    · refine Back_of (i + 1) [0, 3, 7, 8] [(192, 192)] rfl rfl (by simp; rw [wrap64 (by omega) (by omega)]) ⟨by omega, fun j hj => ?_⟩ (by omega)
      by_cases e3 : j = i
      · subst e3
        rw [decide_eq_false_iff_not]
        rintro rfl
        simp at he
      · exact hall j (by omega)
  · simp -dsimp [Nat.not_lt.2 h1]
    rw [idx_none (fun j hj => hall j (by omega))]
@[simp] def h106 : Hts := {  }
theorem f106_ok (l : List GLive) (x : GLive) (ha : l.length ≤ 1073741824) : FnR Tryz.prog 106 [.v (.im l.length (flat l)), .agg [.bool x.map, .str x.obj, .str x.key, .int .i64 x.val, .int .i64 x.dot.rep, .int .i64 x.dot.seq]] (.v (.bool (hasX l x))) := by
  refine FnW.of_AW TryzT_ok 0 (fn := Tryz.f106) (by kernel_rfl) rfl (by kernel_rfl) rfl rfl rfl ?_
  refine AW_of h106 TryzT_ok (by kernel_rfl) ?_
  simp -dsimp
  refine ACallK_of (f163_ok _ _ ha) ?_
  simp -dsimp
  exact idx_has l

@[simp] def h164 : Hts := { dr := fun id => if id = 4 then [{}, {}, {}, {}, {}, {}] else [] }
theorem f164_ok (l : List GDot) (x : GDot) (ha : l.length ≤ 1073741824) : FnR Tryz.prog 164 [.v (.im l.length (flat l)), .agg [.int .i64 x.rep, .int .i64 x.seq]] (.v (.int .i64 (idx (fun y => decide (y = x)) l))) := by
  refine FnW.of_AW TryzT_ok 0 (fn := Tryz.f164) (by kernel_rfl) rfl (by kernel_rfl) rfl rfl rfl ?_
  refine AW_of h164 TryzT_ok (by kernel_rfl) ?_
  simp -dsimp
  refine AWh_loop (fun i : Nat => i ≤ l.length ∧ ∀ j : Nat, j < i → decide (nth l j = x) = false) (fun i => mkE [(0, .c (.im l.length (flat l))), (3, .box 192 0), (7, .c (.int .i64 l.length)), (8, .c (.int .i64 i))] [(192, .box [.c (.int .i64 x.rep), .c (.int .i64 x.seq)])]) (fun i => l.length - i) 0 (Wk_to [0, 3, 7, 8] [(192, 192)] rfl rfl (by simp)) (by simp) ?_
  rintro i ⟨hi, hall⟩
  refine AW_of h164 TryzT_ok (by kernel_rfl) ?_
  rcases Nat.lt_or_ge i l.length with h1 | h1
  · simp -dsimp [h1, ne_of_lt h1]
    try refine ⟨by omega, ?_⟩
    refine ⟨fun e0 e1 => ?_, fun he => ?_⟩
    · rw [idx_here h1 hall (by simp [GDot.ext_iff, e0, e1])]
    · refine Back_of (i + 1) [0, 3, 7, 8] [(192, 192)] rfl rfl (by simp; rw [wrap64 (by omega) (by omega)]) ⟨by omega, fun j hj => ?_⟩ (by omega)
      by_cases e3 : j = i
      · subst e3
        rw [decide_eq_false_iff_not]
        rintro rfl
        simp at he
      · exact hall j (by omega)
  · simp -dsimp [Nat.not_lt.2 h1]
    rw [idx_none (fun j hj => hall j (by omega))]
@[simp] def h107 : Hts := {  }
theorem f107_ok (l : List GDot) (x : GDot) (ha : l.length ≤ 1073741824) : FnR Tryz.prog 107 [.v (.im l.length (flat l)), .agg [.int .i64 x.rep, .int .i64 x.seq]] (.v (.bool (hasX l x))) := by
  refine FnW.of_AW TryzT_ok 0 (fn := Tryz.f107) (by kernel_rfl) rfl (by kernel_rfl) rfl rfl rfl ?_
  refine AW_of h107 TryzT_ok (by kernel_rfl) ?_
  simp -dsimp
  refine ACallK_of (f164_ok _ _ ha) ?_
  simp -dsimp
  exact idx_has l

@[simp] def h151 : Hts := { dr := fun id => if id = 4 then [{}, {}, {}, {}, {}, {}] else [] }
theorem f151_ok (l : List GClash) (x : GClash) (ha : l.length ≤ 1073741824) : FnR Tryz.prog 151 [.v (.im l.length (flat l)), .agg [.str x.obj, .str x.key]] (.v (.int .i64 (idx (fun y => decide (y = x)) l))) := by
  refine FnW.of_AW TryzT_ok 0 (fn := Tryz.f151) (by kernel_rfl) rfl (by kernel_rfl) rfl rfl rfl ?_
  refine AW_of h151 TryzT_ok (by kernel_rfl) ?_
  simp -dsimp
  refine AWh_loop (fun i : Nat => i ≤ l.length ∧ ∀ j : Nat, j < i → decide (nth l j = x) = false) (fun i => mkE [(0, .c (.im l.length (flat l))), (3, .box 192 0), (7, .c (.int .i64 l.length)), (8, .c (.int .i64 i))] [(192, .box [.c (.str x.obj), .c (.str x.key)])]) (fun i => l.length - i) 0 (Wk_to [0, 3, 7, 8] [(192, 192)] rfl rfl (by simp)) (by simp) ?_
  rintro i ⟨hi, hall⟩
  refine AW_of h151 TryzT_ok (by kernel_rfl) ?_
  rcases Nat.lt_or_ge i l.length with h1 | h1
  · simp -dsimp [h1, ne_of_lt h1]
    try refine ⟨by omega, ?_⟩
    refine ⟨fun e0 e1 => ?_, fun he => ?_⟩
    · rw [idx_here h1 hall (by simp [GClash.ext_iff, e0, e1])]
    · refine Back_of (i + 1) [0, 3, 7, 8] [(192, 192)] rfl rfl (by simp; rw [wrap64 (by omega) (by omega)]) ⟨by omega, fun j hj => ?_⟩ (by omega)
      by_cases e3 : j = i
      · subst e3
        rw [decide_eq_false_iff_not]
        rintro rfl
        simp at he
      · exact hall j (by omega)
  · simp -dsimp [Nat.not_lt.2 h1]
    rw [idx_none (fun j hj => hall j (by omega))]
@[simp] def h82 : Hts := {  }
theorem f82_ok (l : List GClash) (x : GClash) (ha : l.length ≤ 1073741824) : FnR Tryz.prog 82 [.v (.im l.length (flat l)), .agg [.str x.obj, .str x.key]] (.v (.bool (hasX l x))) := by
  refine FnW.of_AW TryzT_ok 0 (fn := Tryz.f82) (by kernel_rfl) rfl (by kernel_rfl) rfl rfl rfl ?_
  refine AW_of h82 TryzT_ok (by kernel_rfl) ?_
  simp -dsimp
  refine ACallK_of (f151_ok _ _ ha) ?_
  simp -dsimp
  exact idx_has l

@[simp] def h58 : Hts := {  }
theorem f58_ok (s : GState) (x : GLive) (ha : s.lives.length ≤ 1073741824) : FnR Tryz.prog 58 [.agg [.im s.know.length (flat s.know), .im s.tallies.length (flat s.tallies), .im s.lives.length (flat s.lives), .im s.cs.length (flat s.cs)], .agg [.bool x.map, .str x.obj, .str x.key, .int .i64 x.val, .int .i64 x.dot.rep, .int .i64 x.dot.seq]] (.v (.bool (hasX s.lives x))) := by
  refine FnW.of_AW TryzT_ok 0 (fn := Tryz.f58) (by kernel_rfl) rfl (by kernel_rfl) rfl rfl rfl ?_
  refine AW_of h58 TryzT_ok (by kernel_rfl) ?_
  simp -dsimp
  refine ACallK_of (f106_ok _ _ ha) ?_
  simp -dsimp

@[simp] def h47 : Hts := { dr := fun id => if id = 4 then [{}, {}, {}, {}, {}, {}] else [] }
theorem f47_ok (l : List GLive) (x : GLive) (ha : l.length ≤ 1073741824) : FnR Tryz.prog 47 [.v (.im l.length (flat l)), .agg [.bool x.map, .str x.obj, .str x.key, .int .i64 x.val, .int .i64 x.dot.rep, .int .i64 x.dot.seq]] (.v (.bool (hasX l x))) := by
  refine FnW.of_AW TryzT_ok 0 (fn := Tryz.f47) (by kernel_rfl) rfl (by kernel_rfl) rfl rfl rfl ?_
  refine AW_of h47 TryzT_ok (by kernel_rfl) ?_
  simp -dsimp
  refine AWh_loop (fun i : Nat => i ≤ l.length ∧ ∀ j : Nat, j < i → ¬ nth l j = x) (fun i => mkE [(0, .c (.im l.length (flat l))), (3, .box 192 0), (5, .c (.int .i64 i))] [(192, .box [.c (.bool x.map), .c (.str x.obj), .c (.str x.key), .c (.int .i64 x.val), .c (.int .i64 x.dot.rep), .c (.int .i64 x.dot.seq)])]) (fun i => l.length - i) 0 (Wk_to [0, 3, 5] [(192, 192)] rfl rfl (by simp)) (by simp) ?_
  rintro i ⟨hi, hall⟩
  refine AW_of h47 TryzT_ok (by kernel_rfl) ?_
  rcases Nat.lt_or_ge i l.length with h1 | h1
  · simp -dsimp [h1, ne_of_lt h1]
    try refine ⟨by omega, ?_⟩
    refine ⟨fun e0 e1 e2 e3 e4 e5 => ?_, fun he => ?_⟩
    · have : x ∈ l := by
        have h2 : nth l i = x := by simp [GLive.ext_iff, GDot.ext_iff, e0, e1, e2, e3, e4, e5]
        exact h2 ▸ nth_mem h1
      simp [hasX, this]
    · refine Back_of (i + 1) [0, 3, 5] [(192, 192)] rfl rfl (by simp; rw [wrap64 (by omega) (by omega)]) ⟨by omega, fun j hj => ?_⟩ (by omega)
      by_cases e3 : j = i
      · subst e3
        rintro rfl
        simp at he
      · exact hall j (by omega)
  · simp -dsimp [Nat.not_lt.2 h1]
    have := not_mem_nth (l := l) (x := x) (fun j hj => hall j (by omega))
    simp [hasX, this]

@[simp] def h161 : Hts := { dr := fun id => if id = 4 then [{}, {}, {}, {}, {}, {}] else [] }
theorem f161_ok (l : List GDot) (x : GDot) (ha : l.length ≤ 1073741824) : FnR Tryz.prog 161 [.v (.im l.length (flat l)), .agg [.int .i64 x.rep, .int .i64 x.seq]] (.v (.bool (hasX l x))) := by
  refine FnW.of_AW TryzT_ok 0 (fn := Tryz.f161) (by kernel_rfl) rfl (by kernel_rfl) rfl rfl rfl ?_
  refine AW_of h161 TryzT_ok (by kernel_rfl) ?_
  simp -dsimp
  refine AWh_loop (fun i : Nat => i ≤ l.length ∧ ∀ j : Nat, j < i → ¬ nth l j = x) (fun i => mkE [(0, .c (.im l.length (flat l))), (3, .box 192 0), (5, .c (.int .i64 i))] [(192, .box [.c (.int .i64 x.rep), .c (.int .i64 x.seq)])]) (fun i => l.length - i) 0 (Wk_to [0, 3, 5] [(192, 192)] rfl rfl (by simp)) (by simp) ?_
  rintro i ⟨hi, hall⟩
  refine AW_of h161 TryzT_ok (by kernel_rfl) ?_
  rcases Nat.lt_or_ge i l.length with h1 | h1
  · simp -dsimp [h1, ne_of_lt h1]
    try refine ⟨by omega, ?_⟩
    refine ⟨fun e0 e1 => ?_, fun he => ?_⟩
    · have : x ∈ l := by
        have h2 : nth l i = x := by simp [GDot.ext_iff, e0, e1]
        exact h2 ▸ nth_mem h1
      simp [hasX, this]
    · refine Back_of (i + 1) [0, 3, 5] [(192, 192)] rfl rfl (by simp; rw [wrap64 (by omega) (by omega)]) ⟨by omega, fun j hj => ?_⟩ (by omega)
      by_cases e3 : j = i
      · subst e3
        rintro rfl
        simp at he
      · exact hall j (by omega)
  · simp -dsimp [Nat.not_lt.2 h1]
    have := not_mem_nth (l := l) (x := x) (fun j hj => hall j (by omega))
    simp [hasX, this]
end Am
