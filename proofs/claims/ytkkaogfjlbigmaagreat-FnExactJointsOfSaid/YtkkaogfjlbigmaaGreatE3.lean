/- What is known, one in another; dots in order. No condition. -/
import Derived.Test.YtkkaogfjlbigmaaGreatT
import Derived.Test.YtkkaogfjlbigmaaGreatD
import Derived.Test.YtkkaogfjlbigmaaGreatE2
import Derived.Test.YtkkaogfjlbigmaaGreatAm29
namespace Am
open Go Go.Proofs
open Cel (cells)
set_option maxRecDepth 100000
set_option linter.unusedSimpArgs false
set_option linter.unusedVariables false

def knowOk (k : List Int) : Bool := decide (k.length = 3) && decide (∀ j : Nat, j < k.length → 0 ≤ nth k j ∧ nth k j ≤ 1000)
def dotOk (d : GDot) : Bool := spIn d.rep 0 2 && spIn d.seq 1 1000
def knows (k : List Int) (d : GDot) : Bool := knowOk k && dotOk d && decide (d.seq ≤ nth k d.rep.toNat)

@[simp] def h69 : Hts := { mergeF := fun f => f == 34 }
theorem f69_ok (k : List Int) (ha : k.length ≤ 1073741824) : FnR Tryz.prog 69 [.v (.im k.length (flat k))] (.v (.bool (knowOk k))) := by
  refine FnW.of_AW TryzT_ok 0 (fn := Tryz.f69) (by kernel_rfl) rfl (by kernel_rfl) rfl rfl rfl ?_; refine AW_of h69 TryzT_ok (by kernel_rfl) ?_
  simp -dsimp
  refine AWh_loop (fun i : Nat => i ≤ k.length ∧ ∀ j : Nat, j < i → 0 ≤ nth k j ∧ nth k j ≤ 1000) (fun i => mkE [(0, .c (.im k.length (flat k))), (3, .c (.int .i64 i))] []) (fun i => k.length - i) 0 (Wk_to [0, 3] [] rfl rfl (by simp)) (by simp) ?_
  rintro i ⟨hi, hall⟩
  refine AW_of h69 TryzT_ok (by kernel_rfl) ?_
  rcases Nat.lt_or_ge i k.length with h1 | h1
  · simp -dsimp [h1, ne_of_lt h1]
    refine ACallK_of (f34_ok _ _ _) ?_
    simp -dsimp
    refine ⟨fun h => ?_, fun h => ?_⟩
    · simp only [knowOk, Bool.and_eq_false_iff, decide_eq_false_iff_not]
      refine .inr fun hh => ?_
      have := hh i h1
      simp [spIn] at h
      omega
    · simp [spIn] at h
      refine Back_of (i + 1) [0, 3] [] rfl rfl (by simp; rw [wrap64 (by omega) (by omega)]) ⟨by omega, fun j hj => ?_⟩ (by omega)
      by_cases e : j = i
      · subst e; exact h
      · exact hall j (by omega)
  · simp -dsimp [Nat.not_lt.2 h1]
    have : ∀ j : Nat, j < k.length → 0 ≤ nth k j ∧ nth k j ≤ 1000 := fun j hj => hall j (by omega)
    rw [Bool.eq_iff_iff]
    simp [knowOk]
    constructor
    · intro h; exact ⟨by omega, this⟩
    · intro h; omega

@[simp] def h36 : Hts := { mergeF := fun f => f == 34 }
theorem f36_ok (d : GDot) : FnR Tryz.prog 36 [.agg [.int .i64 d.rep, .int .i64 d.seq]] (.v (.bool (dotOk d))) := by
  refine FnW.of_AW TryzT_ok 0 (fn := Tryz.f36) (by kernel_rfl) rfl (by kernel_rfl) rfl rfl rfl ?_; refine AW_of h36 TryzT_ok (by kernel_rfl) ?_
  simp -dsimp
  repeat' (first
    | (refine ACallK_of (f34_ok _ _ _) ?_; simp -dsimp)
    | refine And.intro ?_ ?_
    | intro _)
  all_goals first | assumption | rfl | trace_state

theorem dot_range {k : List Int} {d : GDot} (h1 : knowOk k = true) (h2 : dotOk d = true) : d.rep.toNat < k.length ∧ 0 ≤ d.rep ∧ d.rep < k.length := by
  simp [knowOk] at h1
  simp [dotOk, spIn] at h2
  omega

@[simp] def h73 : Hts := { mergeF := fun f => f == 36 || f == 69, dr := fun id => if id = 1 then [{}, { cr := true }, {}, {}, { cr := true }, {}, {}, {}, {}, {}, {}, {}, {}, {}, {}, {}, {}] else [] }
theorem f73_ok (k : List Int) (d : GDot) (ha : k.length ≤ 1073741824) : FnR Tryz.prog 73 [.v (.im k.length (flat k)), .agg [.int .i64 d.rep, .int .i64 d.seq]] (.v (.bool (knows k d))) := by
  refine FnW.of_AW TryzT_ok 0 (fn := Tryz.f73) (by kernel_rfl) rfl (by kernel_rfl) rfl rfl rfl ?_; refine AW_of h73 TryzT_ok (by kernel_rfl) ?_
  by_cases hb : knowOk k = true ∧ dotOk d = true
  · obtain ⟨r1, r2, r3⟩ := dot_range hb.1 hb.2
    simp -dsimp
    refine ACallK_of (f69_ok _ ha) ?_
    simp -dsimp [hb.1]
    refine ACallK_of (f36_ok _) ?_
    simp -dsimp [hb.2, r1, ne_of_lt r1]
    exact ⟨⟨r2, by omega⟩, by simp [knows, hb.1, hb.2]⟩
  · have hf : (knowOk k && dotOk d) = false := by
      cases h1 : knowOk k <;> cases h2 : dotOk d <;> simp_all
    simp -dsimp
    refine ACallK_of (f69_ok _ ha) ?_
    simp -dsimp
    refine ACallK_of (f36_ok _) ?_
    simp -dsimp [hf]
    simp [knows, hf]
@[simp] def h80 : Hts := { mergeF := fun f => f == 44 }
theorem f80_ok (k : List Int) (ha : k.length ≤ 1073741824) : FnR Tryz.prog 80 [.v (.im k.length (flat k))] (.v (.bool (knowOk k))) := by
  refine FnW.of_AW TryzT_ok 0 (fn := Tryz.f80) (by kernel_rfl) rfl (by kernel_rfl) rfl rfl rfl ?_; refine AW_of h80 TryzT_ok (by kernel_rfl) ?_
  simp -dsimp
  refine AWh_loop (fun i : Nat => i ≤ k.length ∧ ∀ j : Nat, j < i → 0 ≤ nth k j ∧ nth k j ≤ 1000) (fun i => mkE [(0, .c (.im k.length (flat k))), (5, .c (.im k.length (flat k))), (6, .c (.int .i64 k.length)), (7, .c (.int .i64 i))] []) (fun i => k.length - i) 0 (Wk_to [0, 5, 6, 7] [] rfl rfl (by simp)) (by simp) ?_
  rintro i ⟨hi, hall⟩
  refine AW_of h80 TryzT_ok (by kernel_rfl) ?_
  rcases Nat.lt_or_ge i k.length with h1 | h1
  · simp -dsimp [h1, ne_of_lt h1]
    refine ACallK_of (f44_ok _ _ _) ?_
    simp -dsimp
    refine ⟨fun h => ?_, fun h => ?_⟩
    · simp only [knowOk, Bool.and_eq_false_iff, decide_eq_false_iff_not]
      refine .inr fun hh => ?_
      have := hh i h1
      simp [spIn] at h
      omega
    · simp [spIn] at h
      refine Back_of (i + 1) [0, 5, 6, 7] [] rfl rfl (by simp; rw [wrap64 (by omega) (by omega)]) ⟨by omega, fun j hj => ?_⟩ (by omega)
      by_cases e : j = i
      · subst e; exact h
      · exact hall j (by omega)
  · simp -dsimp [Nat.not_lt.2 h1]
    have : ∀ j : Nat, j < k.length → 0 ≤ nth k j ∧ nth k j ≤ 1000 := fun j hj => hall j (by omega)
    rw [Bool.eq_iff_iff]
    simp [knowOk]
    constructor
    · intro h; exact ⟨by omega, this⟩
    · intro h; omega

@[simp] def h87 : Hts := { mergeF := fun f => f == 44 }
theorem f87_ok (d : GDot) : FnR Tryz.prog 87 [.agg [.int .i64 d.rep, .int .i64 d.seq]] (.v (.bool (dotOk d))) := by
  refine FnW.of_AW TryzT_ok 0 (fn := Tryz.f87) (by kernel_rfl) rfl (by kernel_rfl) rfl rfl rfl ?_; refine AW_of h87 TryzT_ok (by kernel_rfl) ?_
  simp -dsimp
  repeat' (first
    | (refine ACallK_of (f44_ok _ _ _) ?_; simp -dsimp)
    | refine And.intro ?_ ?_
    | intro _)
  all_goals first | assumption | rfl | trace_state

@[simp] def h88 : Hts := { mergeF := fun f => f == 80 || f == 87, dr := fun id => if id = 1 then [{}, { cr := true }, {}, {}, { cr := true }, {}, {}, {}, {}, {}, {}, {}, {}, {}, {}, {}, {}] else [] }
theorem f88_ok (k : List Int) (d : GDot) (ha : k.length ≤ 1073741824) : FnR Tryz.prog 88 [.v (.im k.length (flat k)), .agg [.int .i64 d.rep, .int .i64 d.seq]] (.v (.bool (knows k d))) := by
  refine FnW.of_AW TryzT_ok 0 (fn := Tryz.f88) (by kernel_rfl) rfl (by kernel_rfl) rfl rfl rfl ?_; refine AW_of h88 TryzT_ok (by kernel_rfl) ?_
  by_cases hb : knowOk k = true ∧ dotOk d = true
  · obtain ⟨r1, r2, r3⟩ := dot_range hb.1 hb.2
    simp -dsimp
    refine ACallK_of (f80_ok _ ha) ?_
    simp -dsimp [hb.1]
    refine ACallK_of (f87_ok _) ?_
    simp -dsimp [hb.2, r1, ne_of_lt r1]
    exact ⟨⟨r2, by omega⟩, by simp [knows, hb.1, hb.2]⟩
  · have hf : (knowOk k && dotOk d) = false := by
      cases h1 : knowOk k <;> cases h2 : dotOk d <;> simp_all
    simp -dsimp
    refine ACallK_of (f80_ok _ ha) ?_
    simp -dsimp
    refine ACallK_of (f87_ok _) ?_
    simp -dsimp [hf]
    simp [knows, hf]
def knowIn (a b : List Int) : Bool := knowOk a && knowOk b && decide (∀ j : Nat, j < a.length → nth a j ≤ nth b j)
def before (a b : GDot) : Bool := decide (a.rep < b.rep) || decide (a.rep = b.rep) && decide (a.seq < b.seq)

@[simp] def h102 : Hts := {  }
theorem f102_ok (a b : GDot) : FnR Tryz.prog 102 [.agg [.int .i64 a.rep, .int .i64 a.seq], .agg [.int .i64 b.rep, .int .i64 b.seq]] (.v (.bool (before a b))) := by
  refine FnW.of_AW TryzT_ok 0 (fn := Tryz.f102) (by kernel_rfl) rfl (by kernel_rfl) rfl rfl rfl ?_; refine AW_of h102 TryzT_ok (by kernel_rfl) ?_
  simp -dsimp
  all_goals (try (rw [Bool.eq_iff_iff]; simp [before]; done))
  all_goals (try grind [before])

def dotsOk (l : List GDot) : Bool := decide (l.length ≤ 120) && decide (∀ i : Nat, i < l.length → dotOk (nth l i) = true ∧ (0 < i → before (nth l (i - 1)) (nth l i) = true))
theorem dotsOk_false {l : List GDot} {i : Nat} (h1 : i < l.length) (h : ¬ (dotOk (nth l i) = true ∧ (0 < i → before (nth l (i - 1)) (nth l i) = true))) : dotsOk l = false := by
  simp only [dotsOk, Bool.and_eq_false_iff, decide_eq_false_iff_not]
  exact .inr fun hh => h (hh i h1)

end Am
