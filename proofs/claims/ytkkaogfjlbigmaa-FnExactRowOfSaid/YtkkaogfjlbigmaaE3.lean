/- What is known, one in another; dots in order. No condition. -/
import Derived.Test.YtkkaogfjlbigmaaT
import Derived.Test.YtkkaogfjlbigmaaD
import Derived.Test.YtkkaogfjlbigmaaE2
import Derived.Test.YtkkaogfjlbigmaaAm29
namespace Am
open Go Go.Proofs
open Cel (cells)
set_option maxRecDepth 100000
set_option linter.unusedSimpArgs false
set_option linter.unusedVariables false

def knowOk (k : List Int) : Bool := decide (k.length = 3) && decide (∀ j : Nat, j < k.length → 0 ≤ nth k j ∧ nth k j ≤ 1000)
def dotOk (d : GDot) : Bool := spIn d.rep 0 2 && spIn d.seq 1 1000
def knows (k : List Int) (d : GDot) : Bool := knowOk k && dotOk d && decide (d.seq ≤ nth k d.rep.toNat)

@[simp] def h47 : Hts := { mergeF := fun f => f == 72 }
theorem f47_ok (k : List Int) (ha : k.length ≤ 1073741824) : FnR Try.prog 47 [.v (.im k.length (flat k))] (.v (.bool (knowOk k))) := by
  refine FnW.of_AW TryT_ok 0 (fn := Try.f47) (by kernel_rfl) rfl (by kernel_rfl) rfl rfl rfl ?_; refine AW_of h47 TryT_ok (by kernel_rfl) ?_
  simp -dsimp
  refine AWh_loop (fun i : Nat => i ≤ k.length ∧ ∀ j : Nat, j < i → 0 ≤ nth k j ∧ nth k j ≤ 1000) (fun i => mkE [(0, .c (.im k.length (flat k))), (3, .c (.int .i64 i))] []) (fun i => k.length - i) 0 (Wk_to [0, 3] [] rfl rfl (by simp)) (by simp) ?_
  rintro i ⟨hi, hall⟩
  refine AW_of h47 TryT_ok (by kernel_rfl) ?_
  rcases Nat.lt_or_ge i k.length with h1 | h1
  · simp -dsimp [h1, ne_of_lt h1]
    refine ACallK_of (f72_ok _ _ _) ?_
    simp -dsimp
    refine ⟨fun h => ?_, fun h => ?_⟩
    · simp only [knowOk, Bool.and_eq_false_iff, decide_eq_false_iff_not]
      refine .inr fun hh => ?_
      have := hh i h1
      simp [spIn] at h
      omega
    · simp [spIn] at h
      refine Back_of (i + 1) [0, 3] [] rfl rfl (by simp; rw [wrap64 (by omega) (by omega)]) ⟨by omega, fun j hj => ?_⟩ (by omega)
      by_cases e : j = i
      · subst e; exact h
      · exact hall j (by omega)
  · simp -dsimp [Nat.not_lt.2 h1]
    have : ∀ j : Nat, j < k.length → 0 ≤ nth k j ∧ nth k j ≤ 1000 := fun j hj => hall j (by omega)
    rw [Bool.eq_iff_iff]
    simp [knowOk]
    constructor
    · intro h; exact ⟨by omega, this⟩
    · intro h; omega

@[simp] def h74 : Hts := { mergeF := fun f => f == 72 }
theorem f74_ok (d : GDot) : FnR Try.prog 74 [.agg [.int .i64 d.rep, .int .i64 d.seq]] (.v (.bool (dotOk d))) := by
  refine FnW.of_AW TryT_ok 0 (fn := Try.f74) (by kernel_rfl) rfl (by kernel_rfl) rfl rfl rfl ?_; refine AW_of h74 TryT_ok (by kernel_rfl) ?_
  simp -dsimp
  repeat' (first
    | (refine ACallK_of (f72_ok _ _ _) ?_; simp -dsimp)
    | refine And.intro ?_ ?_
    | intro _)
  all_goals first | assumption | rfl | trace_state

theorem dot_range {k : List Int} {d : GDot} (h1 : knowOk k = true) (h2 : dotOk d = true) : d.rep.toNat < k.length ∧ 0 ≤ d.rep ∧ d.rep < k.length := by
  simp [knowOk] at h1
  simp [dotOk, spIn] at h2
  omega

@[simp] def h51 : Hts := { mergeF := fun f => f == 47 || f == 74, dr := fun id => if id = 1 then [{}, { cr := true }, {}, {}, { cr := true }, {}, {}, {}, {}, {}, {}, {}, {}, {}, {}, {}, {}] else [] }
theorem f51_ok (k : List Int) (d : GDot) (ha : k.length ≤ 1073741824) : FnR Try.prog 51 [.v (.im k.length (flat k)), .agg [.int .i64 d.rep, .int .i64 d.seq]] (.v (.bool (knows k d))) := by
  refine FnW.of_AW TryT_ok 0 (fn := Try.f51) (by kernel_rfl) rfl (by kernel_rfl) rfl rfl rfl ?_; refine AW_of h51 TryT_ok (by kernel_rfl) ?_
  by_cases hb : knowOk k = true ∧ dotOk d = true
  · obtain ⟨r1, r2, r3⟩ := dot_range hb.1 hb.2
    simp -dsimp
    refine ACallK_of (f47_ok _ ha) ?_
    simp -dsimp [hb.1]
    refine ACallK_of (f74_ok _) ?_
    simp -dsimp [hb.2, r1, ne_of_lt r1]
    exact ⟨⟨r2, by omega⟩, by simp [knows, hb.1, hb.2]⟩
  · have hf : (knowOk k && dotOk d) = false := by
      cases h1 : knowOk k <;> cases h2 : dotOk d <;> simp_all
    simp -dsimp
    refine ACallK_of (f47_ok _ ha) ?_
    simp -dsimp
    refine ACallK_of (f74_ok _) ?_
    simp -dsimp [hf]
    simp [knows, hf]
@[simp] def h61 : Hts := { mergeF := fun f => f == 34 }
theorem f61_ok (k : List Int) (ha : k.length ≤ 1073741824) : FnR Try.prog 61 [.v (.im k.length (flat k))] (.v (.bool (knowOk k))) := by
  refine FnW.of_AW TryT_ok 0 (fn := Try.f61) (by kernel_rfl) rfl (by kernel_rfl) rfl rfl rfl ?_; refine AW_of h61 TryT_ok (by kernel_rfl) ?_
  simp -dsimp
  refine AWh_loop (fun i : Nat => i ≤ k.length ∧ ∀ j : Nat, j < i → 0 ≤ nth k j ∧ nth k j ≤ 1000) (fun i => mkE [(0, .c (.im k.length (flat k))), (5, .c (.im k.length (flat k))), (6, .c (.int .i64 k.length)), (7, .c (.int .i64 i))] []) (fun i => k.length - i) 0 (Wk_to [0, 5, 6, 7] [] rfl rfl (by simp)) (by simp) ?_
  rintro i ⟨hi, hall⟩
  refine AW_of h61 TryT_ok (by kernel_rfl) ?_
  rcases Nat.lt_or_ge i k.length with h1 | h1
  · simp -dsimp [h1, ne_of_lt h1]
    refine ACallK_of (f34_ok _ _ _) ?_
    simp -dsimp
    refine ⟨fun h => ?_, fun h => ?_⟩
    · simp only [knowOk, Bool.and_eq_false_iff, decide_eq_false_iff_not]
      refine .inr fun hh => ?_
      have := hh i h1
      simp [spIn] at h
      omega
    · simp [spIn] at h
      refine Back_of (i + 1) [0, 5, 6, 7] [] rfl rfl (by simp; rw [wrap64 (by omega) (by omega)]) ⟨by omega, fun j hj => ?_⟩ (by omega)
      by_cases e : j = i
      · subst e; exact h
      · exact hall j (by omega)
  · simp -dsimp [Nat.not_lt.2 h1]
    have : ∀ j : Nat, j < k.length → 0 ≤ nth k j ∧ nth k j ≤ 1000 := fun j hj => hall j (by omega)
    rw [Bool.eq_iff_iff]
    simp [knowOk]
    constructor
    · intro h; exact ⟨by omega, this⟩
    · intro h; omega

@[simp] def h95 : Hts := { mergeF := fun f => f == 34 }
theorem f95_ok (d : GDot) : FnR Try.prog 95 [.agg [.int .i64 d.rep, .int .i64 d.seq]] (.v (.bool (dotOk d))) := by
  refine FnW.of_AW TryT_ok 0 (fn := Try.f95) (by kernel_rfl) rfl (by kernel_rfl) rfl rfl rfl ?_; refine AW_of h95 TryT_ok (by kernel_rfl) ?_
  simp -dsimp
  repeat' (first
    | (refine ACallK_of (f34_ok _ _ _) ?_; simp -dsimp)
    | refine And.intro ?_ ?_
    | intro _)
  all_goals first | assumption | rfl | trace_state

@[simp] def h82 : Hts := { mergeF := fun f => f == 61 || f == 95, dr := fun id => if id = 1 then [{}, { cr := true }, {}, {}, { cr := true }, {}, {}, {}, {}, {}, {}, {}, {}, {}, {}, {}, {}] else [] }
theorem f82_ok (k : List Int) (d : GDot) (ha : k.length ≤ 1073741824) : FnR Try.prog 82 [.v (.im k.length (flat k)), .agg [.int .i64 d.rep, .int .i64 d.seq]] (.v (.bool (knows k d))) := by
  refine FnW.of_AW TryT_ok 0 (fn := Try.f82) (by kernel_rfl) rfl (by kernel_rfl) rfl rfl rfl ?_; refine AW_of h82 TryT_ok (by kernel_rfl) ?_
  by_cases hb : knowOk k = true ∧ dotOk d = true
  · obtain ⟨r1, r2, r3⟩ := dot_range hb.1 hb.2
    simp -dsimp
    refine ACallK_of (f61_ok _ ha) ?_
    simp -dsimp [hb.1]
    refine ACallK_of (f95_ok _) ?_
    simp -dsimp [hb.2, r1, ne_of_lt r1]
    exact ⟨⟨r2, by omega⟩, by simp [knows, hb.1, hb.2]⟩
  · have hf : (knowOk k && dotOk d) = false := by
      cases h1 : knowOk k <;> cases h2 : dotOk d <;> simp_all
    simp -dsimp
    refine ACallK_of (f61_ok _ ha) ?_
    simp -dsimp
    refine ACallK_of (f95_ok _) ?_
    simp -dsimp [hf]
    simp [knows, hf]
def knowIn (a b : List Int) : Bool := knowOk a && knowOk b && decide (∀ j : Nat, j < a.length → nth a j ≤ nth b j)
def before (a b : GDot) : Bool := decide (a.rep < b.rep) || decide (a.rep = b.rep) && decide (a.seq < b.seq)

@[simp] def h75 : Hts := {  }
theorem f75_ok (a b : GDot) : FnR Try.prog 75 [.agg [.int .i64 a.rep, .int .i64 a.seq], .agg [.int .i64 b.rep, .int .i64 b.seq]] (.v (.bool (before a b))) := by
  refine FnW.of_AW TryT_ok 0 (fn := Try.f75) (by kernel_rfl) rfl (by kernel_rfl) rfl rfl rfl ?_; refine AW_of h75 TryT_ok (by kernel_rfl) ?_
  simp -dsimp
  all_goals (try (rw [Bool.eq_iff_iff]; simp [before]; done))
  all_goals (try grind [before])

def dotsOk (l : List GDot) : Bool := decide (l.length ≤ 120) && decide (∀ i : Nat, i < l.length → dotOk (nth l i) = true ∧ (0 < i → before (nth l (i - 1)) (nth l i) = true))
theorem dotsOk_false {l : List GDot} {i : Nat} (h1 : i < l.length) (h : ¬ (dotOk (nth l i) = true ∧ (0 < i → before (nth l (i - 1)) (nth l i) = true))) : dotsOk l = false := by
  simp only [dotsOk, Bool.and_eq_false_iff, decide_eq_false_iff_not]
  exact .inr fun hh => h (hh i h1)

end Am
