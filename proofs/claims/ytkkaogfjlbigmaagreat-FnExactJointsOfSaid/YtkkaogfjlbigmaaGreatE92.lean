/- Where two commits join: of both. No condition. -/
import Derived.Test.YtkkaogfjlbigmaaGreatT
import Derived.Test.YtkkaogfjlbigmaaGreatD
import Derived.Test.YtkkaogfjlbigmaaGreatE91
namespace Am
open Go Go.Proofs
open Cel (cells)
set_option maxRecDepth 100000
set_option linter.unusedSimpArgs false
set_option linter.unusedVariables false

/-- The places below i that fit, in order. -/
def markF (p : Nat → Bool) : Nat → List Int
  | 0 => []
  | i + 1 => if p i then markF p i ++ [(i : Int)] else markF p i
theorem markK_F (m : List Bool) : ∀ n, markK m n = markF (nth m) n
  | 0 => rfl
  | n + 1 => by rw [markK, markF, markK_F m n]
theorem markF_ext {p q : Nat → Bool} : ∀ n : Nat, (∀ i, i < n → p i = q i) → markF p n = markF q n
  | 0, _ => rfl
  | n + 1, h => by rw [markF, markF, markF_ext n (fun i hi => h i (by omega)), h n (by omega)]
theorem markF_mem {p : Nat → Bool} {y : Int} : ∀ {n : Nat}, y ∈ markF p n ↔ ∃ i : Nat, i < n ∧ p i = true ∧ y = i
  | 0 => by simp [markF]
  | n + 1 => by
    have ih := markF_mem (p := p) (y := y) (n := n)
    rw [markF]
    constructor
    · intro h
      have : y ∈ markF p n ∨ (p n = true ∧ y = n) := by
        split at h
        · rename_i hp
          rcases List.mem_append.1 h with h | h
          · exact Or.inl h
          · right; exact ⟨hp, by simpa using h⟩
        · exact Or.inl h
      rcases this with h | h
      · obtain ⟨i, h1, h2, h3⟩ := ih.1 h
        exact ⟨i, by omega, h2, h3⟩
      · exact ⟨n, by omega, h⟩
    · rintro ⟨i, h1, h2, h3⟩
      by_cases e : i = n
      · subst e; rw [if_pos h2]; simp [h3]
      · have := ih.2 ⟨i, by omega, h2, h3⟩
        split
        · simp [this]
        · exact this
theorem markF_filter (p : Nat → Bool) (q : Int → Bool) : ∀ n, (markF p n).filter q = markF (fun i => p i && q i) n
  | 0 => rfl
  | n + 1 => by
    rw [markF, markF]
    cases hp : p n
    · simp [markF_filter p q n]
    · cases hq : q n <;> simp [markF_filter p q n, hq]
theorem markF_len (p : Nat → Bool) : ∀ n, (markF p n).length ≤ n
  | 0 => Nat.le_refl _
  | n + 1 => by
    have := markF_len p n
    rw [markF]; split
    · simp; omega
    · omega

theorem upsL_mem {g : GGraph} (hu : upsLt g) {k : Nat} (h : k < g.commits.length) (x : Nat) : hasX (upsL g k) (x : Int) = (decide (x < g.commits.length) && nth (marksS g k) x) := by
  rw [Bool.eq_iff_iff, ← upsL_S hu h, markK_F]
  simp only [hasX, decide_eq_true_eq, Bool.and_eq_true]
  rw [markF_mem]
  constructor
  · rintro ⟨i, h1, h2, h3⟩
    have : x = i := by omega
    subst this; exact ⟨h1, h2⟩
  · rintro ⟨h1, h2⟩
    exact ⟨x, h1, h2, rfl⟩
theorem marksS_le {g : GGraph} (hu : upsLt g) {k : Nat} (h : k < g.commits.length) {x : Nat} (hx : nth (marksS g k) x = true) : x ≤ k := by
  rcases Nat.lt_or_ge k x with h1 | h1
  · rw [marksS_eq hu h, nth_append_right (by simp; omega), nth_false] at hx; cases hx
  · exact h1

/-- Both are behind it. -/
def bothU (g : GGraph) (a b : Nat) (i : Nat) : Bool := nth (marksS g a) i && nth (marksS g b) i
def bothL (g : GGraph) (a b : Nat) : List Bool := tab g.commits.length (bothU g a b)
/-- Those marked are struck out, up to k. -/
def clrK (m b : List Bool) : Nat → List Bool
  | 0 => m
  | k + 1 => if nth b k then (clrK m b k).set k false else clrK m b k
def topK (g : GGraph) (bs : List Bool) : Nat → List Bool
  | 0 => bs
  | i + 1 => if nth bs i then clrK (topK g bs i) (marksS g i) i else topK g bs i
@[simp] theorem clrK_len (m b : List Bool) : ∀ k, (clrK m b k).length = m.length
  | 0 => rfl
  | k + 1 => by rw [clrK]; split <;> simp [clrK_len m b k]
@[simp] theorem topK_len (g : GGraph) (bs : List Bool) : ∀ k, (topK g bs k).length = bs.length
  | 0 => rfl
  | k + 1 => by rw [topK]; split <;> simp [topK_len g bs k]
theorem clrK_get (m b : List Bool) (x : Nat) : ∀ k, nth (clrK m b k) x = (nth m x && !(decide (x < k) && nth b x))
  | 0 => by simp [clrK]
  | k + 1 => by
    rw [clrK]
    split
    · rename_i hb
      rw [nth_set, clrK_len, clrK_get m b x k]
      by_cases e : x = k
      · subst e
        by_cases h : x < m.length
        · simp [h, hb]
        · have : nth m x = false := nth_out (by omega)
          simp [h, this]
      · rw [if_neg (by omega)]
        have : decide (x < k + 1) = decide (x < k) := by rw [decide_eq_decide]; omega
        rw [this]
    · rename_i hb
      rw [clrK_get m b x k]
      by_cases e : x = k
      · subst e; simp [hb]
      · have : decide (x < k + 1) = decide (x < k) := by rw [decide_eq_decide]; omega
        rw [this]
theorem topK_get (g : GGraph) (bs : List Bool) (x : Nat) : ∀ i, nth (topK g bs i) x = (nth bs x && allB (fun j => !(nth bs j && decide (x < j) && nth (marksS g j) x)) i)
  | 0 => by simp [topK, allB]
  | i + 1 => by
    rw [topK, allB]
    split
    · rename_i hb
      rw [clrK_get, topK_get g bs x i]
      simp [hb, Bool.and_assoc]
    · rename_i hb
      rw [topK_get g bs x i]
      simp [hb]
/-- Where they join. -/
def joinP (g : GGraph) (a b : Nat) (x : Nat) : Bool := bothU g a b x && allB (fun j => !(bothU g a b j && decide (x < j) && nth (marksS g j) x)) g.commits.length
def joinL (g : GGraph) (a b : Nat) : List Int := markF (joinP g a b) g.commits.length
theorem joinL_S (g : GGraph) (a b : Nat) : markK (topK g (bothL g a b) g.commits.length) g.commits.length = joinL g a b := by
  rw [markK_F]
  apply markF_ext
  intro i hi
  rw [topK_get, joinP]
  congr 1
  · exact nth_tab _ hi
  · rw [Bool.eq_iff_iff, allB_iff, allB_iff]
    constructor
    · intro h j hj; rw [← h j hj, bothL, nth_tab _ hj]
    · intro h j hj; rw [← h j hj, bothL, nth_tab _ hj]

/-- Those of the one that the other has. -/
def inBoth (g : GGraph) (a b : Nat) : List Int := filK (fun o => hasX (upsL g b) o) [] (upsL g a) (upsL g a).length
theorem inBoth_eq {g : GGraph} (hu : upsLt g) {a b : Nat} (ha : a < g.commits.length) (hb : b < g.commits.length) : inBoth g a b = markF (bothU g a b) g.commits.length := by
  unfold inBoth
  rw [filK_filter _ _ _ (Nat.le_refl _), List.take_length, ← upsL_S hu ha, markK_F, markF_filter]
  apply markF_ext
  intro i hi
  rw [upsL_mem hu hb]
  simp [hi, bothU]
/-- Another of these is in front of it. -/
def offP (g : GGraph) (l : List Int) (k : Int) (j : Nat) : Bool := !(!decide (nth l j = k) && hasX (upsL g (nth l j).toNat) k)
def goodP (g : GGraph) (l : List Int) (k : Int) : Bool := allB (offP g l k) l.length
theorem joinL_M {g : GGraph} (hu : upsLt g) {a b : Nat} (ha : a < g.commits.length) (hb : b < g.commits.length) : filK (goodP g (inBoth g a b)) [] (inBoth g a b) (inBoth g a b).length = joinL g a b := by
  rw [filK_filter _ _ _ (Nat.le_refl _), List.take_length, inBoth_eq hu ha hb, markF_filter]
  apply markF_ext
  intro i hi
  rw [joinP]
  cases hbi : bothU g a b i
  · rfl
  rw [Bool.true_and, Bool.true_and, Bool.eq_iff_iff, goodP, allB_iff, allB_iff]
  constructor
  · intro h j hj
    cases hbj : bothU g a b j
    · rfl
    rcases Nat.lt_or_ge i j with h1 | h1
    · have hm : (j : Int) ∈ markF (bothU g a b) g.commits.length := markF_mem.2 ⟨j, hj, hbj, rfl⟩
      obtain ⟨x, hx, ex⟩ := List.mem_iff_getElem.1 hm
      have := h x hx
      rw [offP, nth_eq hx, ex, Int.toNat_natCast, upsL_mem hu hj] at this
      have e1 : decide ((j : Int) = (i : Int)) = false := by rw [decide_eq_false_iff_not]; omega
      simpa [e1, hi, h1] using this
    · have e1 : decide (i < j) = false := by rw [decide_eq_false_iff_not]; omega
      simp [e1]
  · intro h x hx
    have hm := nth_mem hx
    obtain ⟨j, hj, hbj, ej⟩ := markF_mem.1 hm
    rw [offP, ej, Int.toNat_natCast, upsL_mem hu hj]
    have := h j hj
    rw [hbj] at this
    cases hmm : nth (marksS g j) i
    · simp
    · have hle := marksS_le hu hj hmm
      rw [hmm] at this
      have e2 : ¬ i < j := by simpa using this
      have : i = j := by omega
      subst this
      simp

def jointsR (g : GGraph) (a b : Int) : List Int := if spIn a 0 (g.commits.length - 1) && spIn b 0 (g.commits.length - 1) && graphOk g then joinL g a.toNat b.toNat else []
theorem upsL_len (g : GGraph) (k : Nat) : (upsL g k).length ≤ k + 1 := markK_len _ _
theorem inBoth_len (g : GGraph) (a b : Nat) : (inBoth g a b).length ≤ a + 1 := by
  have := filK_len (fun o => hasX (upsL g b) o) [] (upsL g a) (upsL g a).length
  have := upsL_len g a
  unfold inBoth
  simp only [List.length_nil] at *
  omega
theorem inBoth_at {g : GGraph} (hu : upsLt g) {a b : Nat} (ha : a < g.commits.length) (hb : b < g.commits.length) {j : Nat} (h : j < (inBoth g a b).length) : ∃ o : Nat, o < g.commits.length ∧ nth (inBoth g a b) j = o := by
  have hm := nth_mem h
  rw [inBoth_eq hu ha hb] at hm
  obtain ⟨o, h1, _, h2⟩ := markF_mem.1 hm
  rw [inBoth_eq hu ha hb]
  exact ⟨o, h1, h2⟩

@[simp] def h27 : Hts := { merge := fun _ => false, mergeF := fun _ => false }
set_option maxHeartbeats 4000000 in
theorem f27_ok (g : GGraph) (hg : g.Ok) (a b : Int) : FnR Tryz.prog 27 [.agg [.im g.commits.length (flat g.commits), .int .i64 g.head], .v (.int .i64 a), .v (.int .i64 b)] (.v (.ow 3 1 (jointsR g a b).length (flat (jointsR g a b)))) := by
  have hgo := hg
  simp only [GGraph.Ok] at hg
  have hl : ∀ y, y ∈ g.commits → y.ups.length ≤ 1073741824 := fun y hy => by have := hg.2 y hy; simp only [GCommit.Ok] at this; exact this.1
  refine FnW.of_AW TryzT_ok 0 (fn := Tryz.f27) (by kernel_rfl) rfl (by kernel_rfl) rfl rfl rfl ?_; refine AW_of h27 TryzT_ok (by kernel_rfl) ?_
  simp -dsimp
  refine ACallK_of (f60_ok _ _ hg.1) ?_
  cases q1 : spIn a 0 (g.commits.length - 1)
  · simp -dsimp
    simp [jointsR, q1]
  simp -dsimp
  refine ACallK_of (f60_ok _ _ hg.1) ?_
  cases q2 : spIn b 0 (g.commits.length - 1)
  · simp -dsimp
    simp [jointsR, q2]
  simp -dsimp
  refine ACallK_of (f61_ok _ hgo) ?_
  cases q3 : graphOk g
  · simp -dsimp
    simp [jointsR, q3]
  have hk := q1
  simp only [spIn, Bool.and_eq_true, decide_eq_true_eq] at hk
  obtain ⟨n, rfl⟩ : ∃ n : Nat, a = n := ⟨a.toNat, by omega⟩
  have hk2 := q2
  simp only [spIn, Bool.and_eq_true, decide_eq_true_eq] at hk2
  obtain ⟨m, rfl⟩ : ∃ n : Nat, b = n := ⟨b.toNat, by omega⟩
  have hu := graphOk_ups q3
  have hn : n < g.commits.length := by omega
  have hm : m < g.commits.length := by omega
  have ln := upsL_len g n
  have lm := upsL_len g m
  simp -dsimp
  refine ACallK_of (f62_ok _ hu hg.1 hl m hm) ?_
  simp -dsimp
  refine ACallK_of (f62_ok _ hu hg.1 hl n hn) ?_
  simp -dsimp
  refine AWh_loop (fun i : Nat => i ≤ (upsL g n).length) (fun i => mkE [(3, .box 192 0), (7, .arr 1088), (8, .arr 2304), (9, .arr 2368), (40, .arr 2560), (41, .c (.int .i64 (upsL g n).length)), (42, .c (.int .i64 i))] [(192, .box [.c (.im g.commits.length (flat g.commits)), .c (.int .i64 g.head)]), (1088, .arr 0 3 1 0 []), (2304, .arr 0 3 1 (upsL g m).length (flat (upsL g m))), (2368, .arr 0 3 1 (filK (fun o => hasX (upsL g m) o) [] (upsL g n) i).length (flat (filK (fun o => hasX (upsL g m) o) [] (upsL g n) i))), (2560, .arr 0 3 1 (upsL g n).length (flat (upsL g n)))]) (fun i => (upsL g n).length - i) 0 (Wk_to [3, 7, 8, 9, 40, 41, 42] [(192, 192), (1088, 1088), (2304, 2304), (2368, 2368), (2560, 2560)] rfl rfl (by simp [filK])) (by simp) ?_
  rintro i hi
  have hfl := filK_len (fun o => hasX (upsL g m) o) [] (upsL g n) i
  simp only [List.length_nil] at hfl
  refine AW_of h27 TryzT_ok (by kernel_rfl) ?_
  rcases Nat.lt_or_ge i (upsL g n).length with h1 | h1
  · simp -dsimp [h1, ne_of_lt h1]
    repeat (first | refine ⟨by omega, ?_⟩ | refine ⟨by simp [capMax]; omega, ?_⟩ | refine ⟨⟨by omega, by omega⟩, ?_⟩)
    refine ACallK_of (f65_ok _ _ (by omega)) ?_
    cases q : hasX (upsL g m) (nth (upsL g n) i)
    · have hs : filK (fun o => hasX (upsL g m) o) [] (upsL g n) (i + 1) = filK (fun o => hasX (upsL g m) o) [] (upsL g n) i := by simp [filK, q]
      simp -dsimp
      exact Back_of (i + 1) [3, 7, 8, 9, 40, 41, 42] [(192, 192), (1088, 1088), (2304, 2304), (2368, 2368), (2560, 2560)] rfl rfl (by simp [hs]; rw [wrap64 (by omega) (by omega)]) (by omega) (by omega)
    · have hs : filK (fun o => hasX (upsL g m) o) [] (upsL g n) (i + 1) = filK (fun o => hasX (upsL g m) o) [] (upsL g n) i ++ [nth (upsL g n) i] := by simp [filK, q]
      simp -dsimp
      repeat (first | refine ⟨by omega, ?_⟩ | refine ⟨by simp [capMax]; omega, ?_⟩ | refine ⟨⟨by omega, by omega⟩, ?_⟩)
      exact Back_of (i + 1) [3, 7, 8, 9, 40, 41, 42] [(192, 192), (1088, 1088), (2304, 2304), (2368, 3328), (2560, 2560)] rfl rfl (by simp [hs]; rw [wrap64 (by omega) (by omega)]) (by omega) (by omega)
  obtain rfl : i = (upsL g n).length := by omega
  have hbl := inBoth_len g n m
  simp -dsimp
  refine AWh_loop (fun i : Nat => i ≤ (inBoth g n m).length) (fun i => mkE [(3, .box 192 0), (7, .arr 1088), (9, .arr 2368), (54, .arr 2368), (55, .c (.int .i64 (inBoth g n m).length)), (56, .c (.int .i64 i))] [(192, .box [.c (.im g.commits.length (flat g.commits)), .c (.int .i64 g.head)]), (1088, .arr 0 3 1 (filK (goodP g (inBoth g n m)) [] (inBoth g n m) i).length (flat (filK (goodP g (inBoth g n m)) [] (inBoth g n m) i))), (2368, .arr 0 3 1 (inBoth g n m).length (flat (inBoth g n m)))]) (fun i => (inBoth g n m).length - i) 0 (Wk_to [3, 7, 9, 54, 55, 56] [(192, 192), (1088, 1088), (2368, 2368)] rfl rfl (by simp [filK, inBoth])) (by simp) ?_
  clear hfl hi h1
  rintro i hi
  have hfl := filK_len (goodP g (inBoth g n m)) [] (inBoth g n m) i
  simp only [List.length_nil] at hfl
  refine AW_of h27 TryzT_ok (by kernel_rfl) ?_
  rcases Nat.lt_or_ge i (inBoth g n m).length with h1 | h1
  · simp -dsimp [h1, ne_of_lt h1]
    refine AWh_loop (fun j : Nat => j ≤ (inBoth g n m).length) (fun j => mkE [(3, .box 192 0), (7, .arr 1088), (9, .arr 2368), (13, .c (.int .i64 (nth (inBoth g n m) i))), (14, .c (.bool (!allB (offP g (inBoth g n m) (nth (inBoth g n m) i)) j))), (54, .arr 2368), (55, .c (.int .i64 (inBoth g n m).length)), (56, .c (.int .i64 i)), (60, .arr 2368), (61, .c (.int .i64 (inBoth g n m).length)), (62, .c (.int .i64 j))] [(192, .box [.c (.im g.commits.length (flat g.commits)), .c (.int .i64 g.head)]), (1088, .arr 0 3 1 (filK (goodP g (inBoth g n m)) [] (inBoth g n m) i).length (flat (filK (goodP g (inBoth g n m)) [] (inBoth g n m) i))), (2368, .arr 0 3 1 (inBoth g n m).length (flat (inBoth g n m)))]) (fun j => (inBoth g n m).length - j) 0 (Wk_to [3, 7, 9, 13, 14, 54, 55, 56, 60, 61, 62] [(192, 192), (1088, 1088), (2368, 2368)] rfl rfl (by simp [allB])) (by simp) ?_
    rintro j hj
    refine AW_of h27 TryzT_ok (by kernel_rfl) ?_
    rcases Nat.lt_or_ge j (inBoth g n m).length with p1 | p1
    · obtain ⟨o, ho, eo⟩ := inBoth_at hu hn hm p1
      have lo := upsL_len g o
      by_cases e : nth (inBoth g n m) j = nth (inBoth g n m) i
      · have b1 : (nth (inBoth g n m) j != nth (inBoth g n m) i) = false := by simp [e]
        have hof : offP g (inBoth g n m) (nth (inBoth g n m) i) j = true := by simp [offP, e]
        simp -dsimp [p1, ne_of_lt p1, b1]
        repeat (first | refine ⟨by omega, ?_⟩ | refine ⟨by simp [capMax]; omega, ?_⟩ | refine ⟨⟨by omega, by omega⟩, ?_⟩)
        exact Back_of (j + 1) [3, 7, 9, 13, 14, 54, 55, 56, 60, 61, 62] [(192, 192), (1088, 1088), (2368, 2368)] rfl rfl (by simp [allB, hof]; rw [wrap64 (by omega) (by omega)]) (by omega) (by omega)
      · have b1 : (nth (inBoth g n m) j != nth (inBoth g n m) i) = true := by simp [e]
        have hof : offP g (inBoth g n m) (nth (inBoth g n m) i) j = !hasX (upsL g o) (nth (inBoth g n m) i) := by
          have e' : ¬ (o : Int) = nth (inBoth g n m) i := by rw [← eo]; exact e
          simp [offP, eo, e']
        have b2 : (((o : Int) != nth (inBoth g n m) i)) = true := by rw [← eo]; exact b1
        simp -dsimp [p1, ne_of_lt p1, eo, b2]
        repeat (first | refine ⟨by omega, ?_⟩ | refine ⟨by simp [capMax]; omega, ?_⟩ | refine ⟨⟨by omega, by omega⟩, ?_⟩)
        refine ACallK_of (f62_ok _ hu hg.1 hl o ho) ?_
        simp -dsimp
        refine ACallK_of (f65_ok _ _ (by omega)) ?_
        cases q : hasX (upsL g o) (nth (inBoth g n m) i)
        · rw [q] at hof
          simp -dsimp
          repeat (first | refine ⟨by omega, ?_⟩ | refine ⟨by simp [capMax]; omega, ?_⟩ | refine ⟨⟨by omega, by omega⟩, ?_⟩)
          exact Back_of (j + 1) [3, 7, 9, 13, 14, 54, 55, 56, 60, 61, 62] [(192, 192), (1088, 1088), (2368, 2368)] rfl rfl (by simp [allB, hof]; rw [wrap64 (by omega) (by omega)]) (by omega) (by omega)
        · rw [q] at hof
          simp -dsimp
          repeat (first | refine ⟨by omega, ?_⟩ | refine ⟨by simp [capMax]; omega, ?_⟩ | refine ⟨⟨by omega, by omega⟩, ?_⟩)
          exact Back_of (j + 1) [3, 7, 9, 13, 14, 54, 55, 56, 60, 61, 62] [(192, 192), (1088, 1088), (2368, 2368)] rfl rfl (by simp [allB, hof]; rw [wrap64 (by omega) (by omega)]) (by omega) (by omega)
    · obtain rfl : j = (inBoth g n m).length := by omega
      have hgo2 : allB (offP g (inBoth g n m) (nth (inBoth g n m) i)) (inBoth g n m).length = goodP g (inBoth g n m) (nth (inBoth g n m) i) := rfl
      cases q : goodP g (inBoth g n m) (nth (inBoth g n m) i)
      · have hs : filK (goodP g (inBoth g n m)) [] (inBoth g n m) (i + 1) = filK (goodP g (inBoth g n m)) [] (inBoth g n m) i := by simp [filK, q]
        rw [q] at hgo2
        simp -dsimp [hgo2]
        exact Back_of (i + 1) [3, 7, 9, 54, 55, 56] [(192, 192), (1088, 1088), (2368, 2368)] rfl rfl (by simp [hs]; rw [wrap64 (by omega) (by omega)]) (by omega) (by omega)
      · have hs : filK (goodP g (inBoth g n m)) [] (inBoth g n m) (i + 1) = filK (goodP g (inBoth g n m)) [] (inBoth g n m) i ++ [nth (inBoth g n m) i] := by simp [filK, q]
        rw [q] at hgo2
        simp -dsimp [hgo2]
        repeat (first | refine ⟨by omega, ?_⟩ | refine ⟨by simp [capMax]; omega, ?_⟩ | refine ⟨⟨by omega, by omega⟩, ?_⟩)
        exact Back_of (i + 1) [3, 7, 9, 54, 55, 56] [(192, 192), (1088, 5248), (2368, 2368)] rfl rfl (by simp [hs]; rw [wrap64 (by omega) (by omega)]) (by omega) (by omega)
  obtain rfl : i = (inBoth g n m).length := by omega
  simp -dsimp
  simp [jointsR, q1, q2, q3, joinL_M hu hn hm]

@[simp] def h26 : Hts := { merge := fun _ => false, mergeF := fun _ => false }
set_option maxHeartbeats 4000000 in
theorem f26_ok (g : GGraph) (hg : g.Ok) (a b : Int) : FnR Tryz.prog 26 [.agg [.im g.commits.length (flat g.commits), .int .i64 g.head], .v (.int .i64 a), .v (.int .i64 b)] (.v (.ow 3 1 (jointsR g a b).length (flat (jointsR g a b)))) := by
  have hgo := hg
  simp only [GGraph.Ok] at hg
  have hl : ∀ y, y ∈ g.commits → y.ups.length ≤ 1073741824 := fun y hy => by have := hg.2 y hy; simp only [GCommit.Ok] at this; exact this.1
  have w0 : IntKind.i64.wrap ((g.commits.length : Int) - 1) = g.commits.length - 1 := wrap64 (by omega) (by omega)
  refine FnW.of_AW TryzT_ok 0 (fn := Tryz.f26) (by kernel_rfl) rfl (by kernel_rfl) rfl rfl rfl ?_; refine AW_of h26 TryzT_ok (by kernel_rfl) ?_
  simp -dsimp
  refine ACallK_of (f56_ok _ hgo) ?_
  cases q3 : graphOk g
  · simp -dsimp
    simp [jointsR, q3]
  simp -dsimp [w0]
  refine ACallK_of (f34_ok _ _ _) ?_
  cases q1 : spIn a 0 (g.commits.length - 1)
  · simp -dsimp
    simp [jointsR, q1]
  simp -dsimp [w0]
  refine ACallK_of (f34_ok _ _ _) ?_
  cases q2 : spIn b 0 (g.commits.length - 1)
  · simp -dsimp
    simp [jointsR, q2]
  have hk := q1
  simp only [spIn, Bool.and_eq_true, decide_eq_true_eq] at hk
  obtain ⟨n, rfl⟩ : ∃ n : Nat, a = n := ⟨a.toNat, by omega⟩
  have hk2 := q2
  simp only [spIn, Bool.and_eq_true, decide_eq_true_eq] at hk2
  obtain ⟨m, rfl⟩ : ∃ n : Nat, b = n := ⟨b.toNat, by omega⟩
  have hu := graphOk_ups q3
  have hn : n < g.commits.length := by omega
  have hm : m < g.commits.length := by omega
  simp -dsimp
  refine ACallK_of (f58_ok _ hu hg.1 hl n hn) ?_
  simp -dsimp
  refine ACallK_of (f58_ok _ hu hg.1 hl m hm) ?_
  simp -dsimp
  repeat (first | refine ⟨by omega, ?_⟩ | refine ⟨by simp [capMax]; omega, ?_⟩ | refine ⟨⟨by omega, by omega⟩, ?_⟩)
  have bl : (bothL g n m).length = g.commits.length := by simp [bothL]
  refine AWh_loop (fun i : Nat => i ≤ g.commits.length) (fun i => mkE [(3, .box 192 0), (7, .arr 2496), (8, .arr 2688), (9, .arr 2880), (10, .c (.int .i64 i))] [(192, .box [.c (.im g.commits.length (flat g.commits)), .c (.int .i64 g.head)]), (2496, .arr 0 4 1 g.commits.length (flat (marksS g n))), (2688, .arr 0 4 1 g.commits.length (flat (marksS g m))), (2880, .arr 0 4 1 g.commits.length (flat ((bothL g n m).take i ++ List.replicate ((bothL g n m).length - i) false)))]) (fun i => g.commits.length - i) 0 (Wk_to [3, 7, 8, 9, 10] [(192, 192), (2496, 2496), (2688, 2688), (2880, 2880)] rfl rfl (by simp [bl])) (by simp) ?_
  rintro i hi
  have tl : ((bothL g n m).take i ++ List.replicate ((bothL g n m).length - i) false).length = g.commits.length := by simp [bl]; omega
  refine AW_of h26 TryzT_ok (by kernel_rfl) ?_
  rcases Nat.lt_or_ge i g.commits.length with h1 | h1
  · have n1 : ¬ marksS g n = [] := ne_of_lt (i := i) (by simpa using h1)
    have n2 : ¬ marksS g m = [] := ne_of_lt (i := i) (by simpa using h1)
    have hb : nth (bothL g n m) i = (nth (marksS g n) i && nth (marksS g m) i) := nth_tab _ h1
    have hf := fill_step (bothL g n m) false (i := i) (by rw [bl]; exact h1)
    rw [hb] at hf
    generalize (bothL g n m).take i ++ List.replicate ((bothL g n m).length - i) false = ys at tl hf ⊢
    have n3 : ¬ ys = [] := ne_of_lt (i := i) (by rw [tl]; exact h1)
    cases q : nth (marksS g n) i
    · rw [q] at hf
      simp only [Bool.false_and] at hf
      simp -dsimp [h1, n1, n2, n3, q, tl]
      repeat (first | refine ⟨by omega, ?_⟩ | refine ⟨by simp [capMax]; omega, ?_⟩ | refine ⟨⟨by omega, by omega⟩, ?_⟩)
      exact Back_of (i + 1) [3, 7, 8, 9, 10] [(192, 192), (2496, 2496), (2688, 2688), (2880, 2880)] rfl rfl (by rw [← hf]; simp; rw [wrap64 (by omega) (by omega)]) (by omega) (by omega)
    · rw [q] at hf
      simp only [Bool.true_and] at hf
      simp -dsimp [h1, n1, n2, n3, q, tl]
      repeat (first | refine ⟨by omega, ?_⟩ | refine ⟨by simp [capMax]; omega, ?_⟩ | refine ⟨⟨by omega, by omega⟩, ?_⟩)
      exact Back_of (i + 1) [3, 7, 8, 9, 10] [(192, 192), (2496, 2496), (2688, 2688), (2880, 2880)] rfl rfl (by rw [← hf]; simp; rw [wrap64 (by omega) (by omega)]) (by omega) (by omega)
  obtain rfl : i = g.commits.length := by omega
  have hte : (bothL g n m).take g.commits.length = bothL g n m := List.take_of_length_le (by omega)
  simp -dsimp
  repeat (first | refine ⟨by omega, ?_⟩ | refine ⟨by simp [capMax]; omega, ?_⟩ | refine ⟨⟨by omega, by omega⟩, ?_⟩)
  refine AWh_loop (fun i : Nat => i ≤ g.commits.length) (fun i => mkE [(3, .box 192 0), (7, .arr 2496), (9, .arr 2880), (11, .arr 4288), (12, .c (.int .i64 i))] [(192, .box [.c (.im g.commits.length (flat g.commits)), .c (.int .i64 g.head)]), (2496, .arr 0 4 1 g.commits.length (flat (marksS g n))), (2880, .arr 0 4 1 g.commits.length (flat (bothL g n m))), (4288, .arr 0 4 1 g.commits.length (flat (topK g (bothL g n m) i)))]) (fun i => g.commits.length - i) 0 (Wk_to [3, 7, 9, 11, 12] [(192, 192), (2496, 2496), (2880, 2880), (4288, 4288)] rfl rfl (by simp [topK, hte, bl])) (by simp) ?_
  clear tl hi h1 hte
  rintro i hi
  have tl := topK_len g (bothL g n m) i
  rw [bl] at tl
  refine AW_of h26 TryzT_ok (by kernel_rfl) ?_
  rcases Nat.lt_or_ge i g.commits.length with h1 | h1
  · have n1 : ¬ bothL g n m = [] := ne_of_lt (i := i) (by rw [bl]; exact h1)
    cases q : nth (bothL g n m) i
    · simp -dsimp [h1, n1, q, bl]
      repeat (first | refine ⟨by omega, ?_⟩ | refine ⟨by simp [capMax]; omega, ?_⟩ | refine ⟨⟨by omega, by omega⟩, ?_⟩)
      exact Back_of (i + 1) [3, 7, 9, 11, 12] [(192, 192), (2496, 2496), (2880, 2880), (4288, 4288)] rfl rfl (by simp [topK, q]; rw [wrap64 (by omega) (by omega)]) (by omega) (by omega)
    · simp -dsimp [h1, n1, q, bl]
      repeat (first | refine ⟨by omega, ?_⟩ | refine ⟨by simp [capMax]; omega, ?_⟩ | refine ⟨⟨by omega, by omega⟩, ?_⟩)
      refine ACallK_of (f58_ok _ hu hg.1 hl i h1) ?_
      simp -dsimp
      refine AWh_loop (fun k : Nat => k ≤ i) (fun k => mkE [(3, .box 192 0), (7, .arr 2496), (9, .arr 2880), (11, .arr 4288), (12, .c (.int .i64 i)), (13, .arr 5184), (14, .c (.int .i64 k))] [(192, .box [.c (.im g.commits.length (flat g.commits)), .c (.int .i64 g.head)]), (2496, .arr 0 4 1 g.commits.length (flat (marksS g n))), (2880, .arr 0 4 1 g.commits.length (flat (bothL g n m))), (4288, .arr 0 4 1 g.commits.length (flat (clrK (topK g (bothL g n m) i) (marksS g i) k))), (5184, .arr 0 4 1 g.commits.length (flat (marksS g i)))]) (fun k => i - k) 0 (Wk_to [3, 7, 9, 11, 12, 13, 14] [(192, 192), (2496, 2496), (2880, 2880), (4288, 4288), (5184, 5184)] rfl rfl (by simp [clrK])) (by simp) ?_
      rintro k hk3
      have cl := clrK_len (topK g (bothL g n m) i) (marksS g i) k
      rw [tl] at cl
      refine AW_of h26 TryzT_ok (by kernel_rfl) ?_
      rcases Nat.lt_or_ge k i with p1 | p1
      · have p2 : k < g.commits.length := by omega
        have n2 : ¬ marksS g i = [] := ne_of_lt (i := i) (by simpa using h1)
        have n3 : ¬ clrK (topK g (bothL g n m) i) (marksS g i) k = [] := ne_of_lt (i := i) (by rw [cl]; exact h1)
        cases qk : nth (marksS g i) k
        · simp -dsimp [p1, p2, n2, n3, qk, cl]
          repeat (first | refine ⟨by omega, ?_⟩ | refine ⟨by simp [capMax]; omega, ?_⟩ | refine ⟨⟨by omega, by omega⟩, ?_⟩)
          exact Back_of (k + 1) [3, 7, 9, 11, 12, 13, 14] [(192, 192), (2496, 2496), (2880, 2880), (4288, 4288), (5184, 5184)] rfl rfl (by simp [clrK, qk]; rw [wrap64 (by omega) (by omega)]) (by omega) (by omega)
        · simp -dsimp [p1, p2, n2, n3, qk, cl]
          repeat (first | refine ⟨by omega, ?_⟩ | refine ⟨by simp [capMax]; omega, ?_⟩ | refine ⟨⟨by omega, by omega⟩, ?_⟩)
          exact Back_of (k + 1) [3, 7, 9, 11, 12, 13, 14] [(192, 192), (2496, 2496), (2880, 2880), (4288, 4288), (5184, 5184)] rfl rfl (by simp [clrK, qk]; rw [wrap64 (by omega) (by omega)]) (by omega) (by omega)
      · obtain rfl : k = i := by omega
        simp -dsimp
        exact Back_of (k + 1) [3, 7, 9, 11, 12] [(192, 192), (2496, 2496), (2880, 2880), (4288, 4288)] rfl rfl (by simp [topK, q]; rw [wrap64 (by omega) (by omega)]) (by omega) (by omega)
  obtain rfl : i = g.commits.length := by omega
  have h2 := f57_ok (topK g (bothL g n m) g.commits.length) (by rw [tl]; exact hg.1)
  rw [tl, joinL_S] at h2
  simp -dsimp
  refine ACallK_of (h2) ?_
  simp -dsimp
  simp [jointsR, q1, q2, q3]
end Am
