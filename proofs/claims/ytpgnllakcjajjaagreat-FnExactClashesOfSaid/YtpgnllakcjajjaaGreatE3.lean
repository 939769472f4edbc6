/- What is known, one in another; dots in order. No condition. -/
import Derived.Test.YtpgnllakcjajjaaGreatT
import Derived.Test.YtpgnllakcjajjaaGreatD
import Derived.Test.YtpgnllakcjajjaaGreatE2
import Derived.Test.YtpgnllakcjajjaaGreatAm29
namespace Am
open Go Go.Proofs
open Cel (cells)
set_option maxRecDepth 100000
set_option linter.unusedSimpArgs false
set_option linter.unusedVariables false

def knowOk (k : List Int) : Bool := decide (k.length = 3) && decide (∀ j : Nat, j < k.length → 0 ≤ nth k j ∧ nth k j ≤ 1000)
def dotOk (d : GDot) : Bool := spIn d.rep 0 2 && spIn d.seq 1 1000
def knows (k : List Int) (d : GDot) : Bool := knowOk k && dotOk d && decide (d.seq ≤ nth k d.rep.toNat)

@[simp] def h120 : Hts := { mergeF := fun f => f == 110 }
theorem f120_ok (k : List Int) (ha : k.length ≤ 1073741824) : FnR Tryz.prog 120 [.v (.im k.length (flat k))] (.v (.bool (knowOk k))) := by
  refine FnW.of_AW TryzT_ok 0 (fn := Tryz.f120) (by kernel_rfl) rfl (by kernel_rfl) rfl rfl rfl ?_
  refine AW_of h120 TryzT_ok (by kernel_rfl) ?_
  simp -dsimp
  refine AWh_loop (fun i : Nat => i ≤ k.length ∧ ∀ j : Nat, j < i → 0 ≤ nth k j ∧ nth k j ≤ 1000) (fun i => mkE [(0, .c (.im k.length (flat k))), (3, .c (.int .i64 i))] []) (fun i => k.length - i) 0 (Wk_to [0, 3] [] rfl rfl (by simp)) (by simp) ?_
  rintro i ⟨hi, hall⟩
  refine AW_of h120 TryzT_ok (by kernel_rfl) ?_
  rcases Nat.lt_or_ge i k.length with h1 | h1
  · simp -dsimp [h1, ne_of_lt h1]
    refine ACallK_of (f110_ok _ _ _) ?_
    simp -dsimp
    refine ⟨fun h => ?_, fun h => ?_⟩
    · simp only [knowOk, Bool.and_eq_false_iff, decide_eq_false_iff_not]
      refine .inr fun hh => ?_
      have := hh i h1
      simp [spIn] at h
      omega
    · simp [spIn] at h
      refine Back_of (i + 1) [0, 3] [] rfl rfl (by simp; rw [wrap64 (by omega) (by omega)]) ⟨by omega, fun j hj => ?_⟩ (by omega)
      by_cases e : j = i
      · subst e; exact h
      · exact hall j (by omega)
  · simp -dsimp [Nat.not_lt.2 h1]
    have : ∀ j : Nat, j < k.length → 0 ≤ nth k j ∧ nth k j ≤ 1000 := fun j hj => hall j (by omega)
    rw [Bool.eq_iff_iff]
    simp [knowOk]
    constructor
    · intro h; exact ⟨by omega, this⟩
    · intro h; omega

@[simp] def h111 : Hts := { mergeF := fun f => f == 110 }
theorem f111_ok (d : GDot) : FnR Tryz.prog 111 [.agg [.int .i64 d.rep, .int .i64 d.seq]] (.v (.bool (dotOk d))) := by
  refine FnW.of_AW TryzT_ok 0 (fn := Tryz.f111) (by kernel_rfl) rfl (by kernel_rfl) rfl rfl rfl ?_
  refine AW_of h111 TryzT_ok (by kernel_rfl) ?_
  simp -dsimp
  repeat' (first
    | (refine ACallK_of (f110_ok _ _ _) ?_; simp -dsimp)
    | refine And.intro ?_ ?_
    | intro _)
  all_goals first | assumption | rfl | trace_state

theorem dot_range {k : List Int} {d : GDot} (h1 : knowOk k = true) (h2 : dotOk d = true) : d.rep.toNat < k.length ∧ 0 ≤ d.rep ∧ d.rep < k.length := by
  simp [knowOk] at h1
  simp [dotOk, spIn] at h2
  omega

@[simp] def h46 : Hts := { mergeF := fun f => f == 111 || f == 120, dr := fun id => if id = 1 then [{}, { cr := true }, {}, {}, { cr := true }, {}, {}, {}, {}, {}, {}, {}, {}, {}, {}, {}, {}] else [] }
theorem f46_ok (k : List Int) (d : GDot) (ha : k.length ≤ 1073741824) : FnR Tryz.prog 46 [.v (.im k.length (flat k)), .agg [.int .i64 d.rep, .int .i64 d.seq]] (.v (.bool (knows k d))) := by
  refine FnW.of_AW TryzT_ok 0 (fn := Tryz.f46) (by kernel_rfl) rfl (by kernel_rfl) rfl rfl rfl ?_
  refine AW_of h46 TryzT_ok (by kernel_rfl) ?_
  by_cases hb : knowOk k = true ∧ dotOk d = true
  · obtain ⟨r1, r2, r3⟩ := dot_range hb.1 hb.2
    simp -dsimp
    refine ACallK_of (f120_ok _ ha) ?_
    simp -dsimp [hb.1]
    refine ACallK_of (f111_ok _) ?_
    simp -dsimp [hb.2, r1, ne_of_lt r1]
    exact ⟨⟨r2, by omega⟩, by simp [knows, hb.1, hb.2]⟩
  · have hf : (knowOk k && dotOk d) = false := by
      cases h1 : knowOk k <;> cases h2 : dotOk d <;> simp_all
    simp -dsimp
    refine ACallK_of (f120_ok _ ha) ?_
    simp -dsimp
    refine ACallK_of (f111_ok _) ?_
    simp -dsimp [hf]
    simp [knows, hf]
@[simp] def h130 : Hts := { mergeF := fun f => f == 167 }
theorem f130_ok (k : List Int) (ha : k.length ≤ 1073741824) : FnR Tryz.prog 130 [.v (.im k.length (flat k))] (.v (.bool (knowOk k))) := by
  refine FnW.of_AW TryzT_ok 0 (fn := Tryz.f130) (by kernel_rfl) rfl (by kernel_rfl) rfl rfl rfl ?_
  refine AW_of h130 TryzT_ok (by kernel_rfl) ?_
  simp -dsimp
  refine AWh_loop (fun i : Nat => i ≤ k.length ∧ ∀ j : Nat, j < i → 0 ≤ nth k j ∧ nth k j ≤ 1000) (fun i => mkE [(0, .c (.im k.length (flat k))), (5, .c (.im k.length (flat k))), (6, .c (.int .i64 k.length)), (7, .c (.int .i64 i))] []) (fun i => k.length - i) 0 (Wk_to [0, 5, 6, 7] [] rfl rfl (by simp)) (by simp) ?_
  rintro i ⟨hi, hall⟩
  refine AW_of h130 TryzT_ok (by kernel_rfl) ?_
  rcases Nat.lt_or_ge i k.length with h1 | h1
  · simp -dsimp [h1, ne_of_lt h1]
    refine ACallK_of (f167_ok _ _ _) ?_
    simp -dsimp
    refine ⟨fun h => ?_, fun h => ?_⟩
    · simp only [knowOk, Bool.and_eq_false_iff, decide_eq_false_iff_not]
      refine .inr fun hh => ?_
      have := hh i h1
      simp [spIn] at h
      omega
    · simp [spIn] at h
      refine Back_of (i + 1) [0, 5, 6, 7] [] rfl rfl (by simp; rw [wrap64 (by omega) (by omega)]) ⟨by omega, fun j hj => ?_⟩ (by omega)
      by_cases e : j = i
      · subst e; exact h
      · exact hall j (by omega)
  · simp -dsimp [Nat.not_lt.2 h1]
    have : ∀ j : Nat, j < k.length → 0 ≤ nth k j ∧ nth k j ≤ 1000 := fun j hj => hall j (by omega)
    rw [Bool.eq_iff_iff]
    simp [knowOk]
    constructor
    · intro h; exact ⟨by omega, this⟩
    · intro h; omega

@[simp] def h137 : Hts := { mergeF := fun f => f == 167 }
theorem f137_ok (d : GDot) : FnR Tryz.prog 137 [.agg [.int .i64 d.rep, .int .i64 d.seq]] (.v (.bool (dotOk d))) := by
  refine FnW.of_AW TryzT_ok 0 (fn := Tryz.f137) (by kernel_rfl) rfl (by kernel_rfl) rfl rfl rfl ?_
  refine AW_of h137 TryzT_ok (by kernel_rfl) ?_
  simp -dsimp
  repeat' (first
    | (refine ACallK_of (f167_ok _ _ _) ?_; simp -dsimp)
    | refine And.intro ?_ ?_
    | intro _)
  all_goals first | assumption | rfl | trace_state

@[simp] def h59 : Hts := { mergeF := fun f => f == 130 || f == 137, dr := fun id => if id = 1 then [{}, { cr := true }, {}, {}, { cr := true }, {}, {}, {}, {}, {}, {}, {}, {}, {}, {}, {}, {}] else [] }
theorem f59_ok (k : List Int) (d : GDot) (ha : k.length ≤ 1073741824) : FnR Tryz.prog 59 [.v (.im k.length (flat k)), .agg [.int .i64 d.rep, .int .i64 d.seq]] (.v (.bool (knows k d))) := by
  refine FnW.of_AW TryzT_ok 0 (fn := Tryz.f59) (by kernel_rfl) rfl (by kernel_rfl) rfl rfl rfl ?_
  refine AW_of h59 TryzT_ok (by kernel_rfl) ?_
  by_cases hb : knowOk k = true ∧ dotOk d = true
  · obtain ⟨r1, r2, r3⟩ := dot_range hb.1 hb.2
    simp -dsimp
    refine ACallK_of (f130_ok _ ha) ?_
    simp -dsimp [hb.1]
    refine ACallK_of (f137_ok _) ?_
    simp -dsimp [hb.2, r1, ne_of_lt r1]
    exact ⟨⟨r2, by omega⟩, by simp [knows, hb.1, hb.2]⟩
  · have hf : (knowOk k && dotOk d) = false := by
      cases h1 : knowOk k <;> cases h2 : dotOk d <;> simp_all
    simp -dsimp
    refine ACallK_of (f130_ok _ ha) ?_
    simp -dsimp
    refine ACallK_of (f137_ok _) ?_
    simp -dsimp [hf]
    simp [knows, hf]
def knowIn (a b : List Int) : Bool := knowOk a && knowOk b && decide (∀ j : Nat, j < a.length → nth a j ≤ nth b j)
def before (a b : GDot) : Bool := decide (a.rep < b.rep) || decide (a.rep = b.rep) && decide (a.seq < b.seq)

@[simp] def h100 : Hts := { mergeF := fun f => f == 120, dr := fun id => if id = 6 then [{}, {}, {}, {}, {}, {}, {}, {}, {}] else [] }
theorem f100_ok (a b : List Int) (ha : a.length ≤ 1073741824) (hb : b.length ≤ 1073741824) : FnR Tryz.prog 100 [.v (.im a.length (flat a)), .v (.im b.length (flat b))] (.v (.bool (knowIn a b))) := by
  refine FnW.of_AW TryzT_ok 0 (fn := Tryz.f100) (by kernel_rfl) rfl (by kernel_rfl) rfl rfl rfl ?_
  refine AW_of h100 TryzT_ok (by kernel_rfl) ?_
  simp -dsimp
  refine ACallK_of (f120_ok _ ha) ?_
  simp -dsimp
  refine ACallK_of (f120_ok _ hb) ?_
  simp -dsimp
  refine ⟨fun h => ?_, fun ka kb => ?_⟩
  · rcases h with h | h <;> simp [knowIn, h]
  have la : a.length = b.length := by
    simp [knowOk] at ka kb
    omega
  refine AWh_loop (fun i : Nat => i ≤ a.length ∧ ∀ j : Nat, j < i → nth a j ≤ nth b j) (fun i => mkE [(0, .c (.im a.length (flat a))), (1, .c (.im b.length (flat b))), (5, .c (.int .i64 i))] []) (fun i => a.length - i) 0 (Wk_to [0, 1, 5] [] rfl rfl (by simp)) (by simp) ?_
  rintro i ⟨hi, hall⟩
  refine AW_of h100 TryzT_ok (by kernel_rfl) ?_
  rcases Nat.lt_or_ge i a.length with h1 | h1
  · have h2 : i < b.length := by omega
    simp -dsimp [h1, h2, ne_of_lt h1, ne_of_lt h2]
    refine ⟨fun h => ?_, fun h => ?_⟩
    · have : decide (∀ j : Nat, j < a.length → nth a j ≤ nth b j) = false := by
        rw [decide_eq_false_iff_not]
        intro hh
        have := hh i h1
        omega
      simp only [knowIn, this, Bool.and_false]
    · refine Back_of (i + 1) [0, 1, 5] [] rfl rfl (by simp; rw [wrap64 (by omega) (by omega)]) ⟨by omega, fun j hj => ?_⟩ (by omega)
      by_cases e : j = i
      · subst e; exact h
      · exact hall j (by omega)
  · simp -dsimp [Nat.not_lt.2 h1]
    have : decide (∀ j : Nat, j < a.length → nth a j ≤ nth b j) = true := by
      rw [decide_eq_true_eq]
      exact fun j hj => hall j (by omega)
    simp only [knowIn, this, ka, kb, Bool.and_self]

@[simp] def h104 : Hts := { mergeF := fun f => f == 130 }
theorem f104_ok (a b : List Int) (ha : a.length ≤ 1073741824) (hb : b.length ≤ 1073741824) : FnR Tryz.prog 104 [.v (.im a.length (flat a)), .v (.im b.length (flat b))] (.v (.bool (knowIn a b))) := by
  refine FnW.of_AW TryzT_ok 0 (fn := Tryz.f104) (by kernel_rfl) rfl (by kernel_rfl) rfl rfl rfl ?_
  refine AW_of h104 TryzT_ok (by kernel_rfl) ?_
  simp -dsimp
  refine ACallK_of (f130_ok _ ha) ?_
  simp -dsimp
  refine ACallK_of (f130_ok _ hb) ?_
  simp -dsimp
  refine ⟨fun h => ?_, fun ka kb => ?_⟩
  · rcases h with h | h <;> simp [knowIn, h]
  have la : a.length = b.length := by
    simp [knowOk] at ka kb
    omega
  refine AWh_loop (fun i : Nat => i ≤ a.length ∧ ∀ j : Nat, j < i → nth a j ≤ nth b j) (fun i => mkE [(0, .c (.im a.length (flat a))), (1, .c (.im b.length (flat b))), (15, .c (.im a.length (flat a))), (16, .c (.int .i64 a.length)), (17, .c (.int .i64 i))] []) (fun i => a.length - i) 0 (Wk_to [0, 1, 15, 16, 17] [] rfl rfl (by simp)) (by simp) ?_
  rintro i ⟨hi, hall⟩
  refine AW_of h104 TryzT_ok (by kernel_rfl) ?_
  rcases Nat.lt_or_ge i a.length with h1 | h1
  · have h2 : i < b.length := by omega
    simp -dsimp [h1, h2, ne_of_lt h1, ne_of_lt h2]
    refine ⟨fun h => ?_, fun h => ?_⟩
    · have : decide (∀ j : Nat, j < a.length → nth a j ≤ nth b j) = false := by
        rw [decide_eq_false_iff_not]
        intro hh
        have := hh i h1
        omega
      simp only [knowIn, this, Bool.and_false]
    · refine Back_of (i + 1) [0, 1, 15, 16, 17] [] rfl rfl (by simp; rw [wrap64 (by omega) (by omega)]) ⟨by omega, fun j hj => ?_⟩ (by omega)
      by_cases e : j = i
      · subst e; exact h
      · exact hall j (by omega)
  · simp -dsimp [Nat.not_lt.2 h1]
    have : decide (∀ j : Nat, j < a.length → nth a j ≤ nth b j) = true := by
      rw [decide_eq_true_eq]
      exact fun j hj => hall j (by omega)
    simp only [knowIn, this, ka, kb, Bool.and_self]

@[simp] def h126 : Hts := {  }
theorem f126_ok (a b : GDot) : FnR Tryz.prog 126 [.agg [.int .i64 a.rep, .int .i64 a.seq], .agg [.int .i64 b.rep, .int .i64 b.seq]] (.v (.bool (before a b))) := by
  refine FnW.of_AW TryzT_ok 0 (fn := Tryz.f126) (by kernel_rfl) rfl (by kernel_rfl) rfl rfl rfl ?_
  refine AW_of h126 TryzT_ok (by kernel_rfl) ?_
  simp -dsimp
  all_goals (try (rw [Bool.eq_iff_iff]; simp [before]; done))
  all_goals (try grind [before])

def dotsOk (l : List GDot) : Bool := decide (l.length ≤ 120) && decide (∀ i : Nat, i < l.length → dotOk (nth l i) = true ∧ (0 < i → before (nth l (i - 1)) (nth l i) = true))
theorem dotsOk_false {l : List GDot} {i : Nat} (h1 : i < l.length) (h : ¬ (dotOk (nth l i) = true ∧ (0 < i → before (nth l (i - 1)) (nth l i) = true))) : dotsOk l = false := by
  simp only [dotsOk, Bool.and_eq_false_iff, decide_eq_false_iff_not]
  exact .inr fun hh => h (hh i h1)

@[simp] def h160 : Hts := { merge := fun t => !(t == 24 || t == 28 || t == 29 || t == 30 || t == 31), mergeF := fun f => f == 111 || f == 126, dr := fun id => if id = 4 then [{}, {}, {}, {}, { cr := true }, {}, {}, {}, {}, {}, {}, {}, {}, {}, {}, {}, {}, {}, {}, { cr := true }, {}, {}, {}] else [] }
theorem f160_ok (l : List GDot) (ha : l.length ≤ 1073741824) : FnR Tryz.prog 160 [.v (.im l.length (flat l))] (.v (.bool (dotsOk l))) := by
  refine FnW.of_AW TryzT_ok 0 (fn := Tryz.f160) (by kernel_rfl) rfl (by kernel_rfl) rfl rfl rfl ?_
  refine AW_of h160 TryzT_ok (by kernel_rfl) ?_
  simp -dsimp
  refine AWh_loop (fun i : Nat => i ≤ l.length ∧ ∀ j : Nat, j < i → dotOk (nth l j) = true ∧ (0 < j → before (nth l (j - 1)) (nth l j) = true)) (fun i => mkE [(0, .c (.im l.length (flat l))), (3, .c (.int .i64 i))] []) (fun i => l.length - i) 0 (Wk_to [0, 3] [] rfl rfl (by simp)) (by simp) ?_
  rintro i ⟨hi, hall⟩
  refine AW_of h160 TryzT_ok (by kernel_rfl) ?_
  rcases Nat.lt_or_ge i l.length with h1 | h1
  · simp -dsimp [h1, ne_of_lt h1]
    refine ⟨by omega, ?_⟩
    refine ACallK_of (f111_ok _) ?_
    cases hd : dotOk (nth l i) with
    | false =>
      simp -dsimp
      exact dotsOk_false h1 (by rw [hd]; simp)
    | true =>
      rcases Nat.eq_zero_or_pos i with h0 | h0
      · have hz : ¬ 0 < i := by omega
        simp -dsimp [hz]
        refine Back_of (i + 1) [0, 3] [] rfl rfl (by simp; rw [wrap64 (by omega) (by omega)]) ⟨by omega, fun j hj => ?_⟩ (by omega)
        obtain rfl : j = i := by omega
        exact ⟨hd, fun h => by omega⟩
      · have w : IntKind.i64.wrap ((i : Int) - 1) = i - 1 := wrap64 (by omega) (by omega)
        have t1 : ((i : Int) - 1).toNat = i - 1 := by omega
        have h3 : i - 1 < l.length := by omega
        simp -dsimp [h0, h1, h3, w, t1, ne_of_lt h1]
        refine ⟨⟨by omega, by omega⟩, by omega, by omega, ?_⟩
        refine ACallK_of (f126_ok _ _) ?_
        simp -dsimp
        refine ⟨fun h => ?_, fun h => ?_⟩
        · exact dotsOk_false h1 (by rw [h]; simp; intro _; omega)
        · refine Back_of (i + 1) [0, 3] [] rfl rfl (by simp; rw [wrap64 (by omega) (by omega)]) ⟨by omega, fun k hk => ?_⟩ (by omega)
          by_cases e : k = i
          · subst e
            exact ⟨hd, fun _ => h⟩
          · exact hall k (by omega)
  · simp -dsimp [Nat.not_lt.2 h1]
    have e : i = l.length := by omega
    subst e
    have : decide (∀ i : Nat, i < l.length → dotOk (nth l i) = true ∧ (0 < i → before (nth l (i - 1)) (nth l i) = true)) = true := by
      rw [decide_eq_true_eq]; exact hall
    simp only [dotsOk, this, Bool.and_true]
    rw [Bool.eq_iff_iff]
    simp
    omega
end Am
