/- What is the same; what is behind: of both. No condition. -/
import Derived.Test.YtblhppnhiaombaaGreatT
import Derived.Test.YtblhppnhiaombaaGreatD
import Derived.Test.YtblhppnhiaombaaGreatE57
import Derived.Test.YtblhppnhiaombaaGreatE21
import Derived.Test.YtblhppnhiaombaaGreatAm31
namespace Am
open Go Go.Proofs
open Cel (cells)
set_option maxRecDepth 100000
set_option linter.unusedSimpArgs false
set_option linter.unusedVariables false

theorem list_ne_nth {α : Type} [Cel α] {x y : List α} {i : Nat} (h : nth x i ≠ nth y i) : x ≠ y := fun e => h (by rw [e])
theorem state_eq {a b : GState} : decide (a = b) = (decide (a.know = b.know) && decide (a.tallies = b.tallies) && decide (a.lives = b.lives) && decide (a.cs = b.cs)) := by
  rw [Bool.eq_iff_iff]
  simp only [Bool.and_eq_true, decide_eq_true_eq]
  constructor
  · rintro rfl; exact ⟨⟨⟨rfl, rfl⟩, rfl⟩, rfl⟩
  · rintro ⟨⟨⟨h1, h2⟩, h3⟩, h4⟩; cases a; cases b; simp_all

@[simp] def h94 : Hts := { merge := fun _ => false, mergeF := fun _ => false }
set_option maxHeartbeats 2000000 in
theorem f94_ok (a b : GState) (ha : a.Ok) : FnR Tryz.prog 94 [.agg [.im a.know.length (flat a.know), .im a.tallies.length (flat a.tallies), .im a.lives.length (flat a.lives), .im a.cs.length (flat a.cs)], .agg [.im b.know.length (flat b.know), .im b.tallies.length (flat b.tallies), .im b.lives.length (flat b.lives), .im b.cs.length (flat b.cs)]] (.v (.bool (decide (a = b)))) := by
  simp only [GState.Ok] at ha
  obtain ⟨a0, a1, a2, a3, a4, a5, a6⟩ := ha
  rw [state_eq]
  refine FnW.of_AW TryzT_ok 0 (fn := Tryz.f94) (by kernel_rfl) rfl (by kernel_rfl) rfl rfl rfl ?_
  refine AW_of h94 TryzT_ok (by kernel_rfl) ?_
  simp -dsimp
  refine ACallK_of (f188_ok _ _ a0) ?_
  cases h0 : decide (a.know = b.know)
  · simp -dsimp
  simp -dsimp
  refine ACallK_of (f189_ok _ _ a1) ?_
  cases h1 : decide (a.tallies = b.tallies)
  · simp -dsimp
  simp -dsimp
  refine ACallK_of (f190_ok _ _ a3) ?_
  cases h2 : decide (a.lives = b.lives)
  · simp -dsimp
  simp -dsimp
  refine ACallK_of (f191_ok _ _ a5) ?_
  simp -dsimp

@[simp] def h90 : Hts := { merge := fun _ => false, mergeF := fun _ => false, dr := fun id => if id = 6 then [{}, {}, {}, {}, {}, {}, {}, {}, {}, {}, {}] else if id = 11 then [{}, {}, {}, {}, {}, {}, {}, {}, {}, {}, {}] else if id = 16 then [{}, {}, {}, {}, {}, {}, {}, {}, {}, {}, {}] else [] }
set_option maxHeartbeats 4000000 in
theorem f90_ok (a b : GState) (ha : a.Ok) : FnR Tryz.prog 90 [.agg [.im a.know.length (flat a.know), .im a.tallies.length (flat a.tallies), .im a.lives.length (flat a.lives), .im a.cs.length (flat a.cs)], .agg [.im b.know.length (flat b.know), .im b.tallies.length (flat b.tallies), .im b.lives.length (flat b.lives), .im b.cs.length (flat b.cs)]] (.v (.bool (decide (a = b)))) := by
  simp only [GState.Ok] at ha
  obtain ⟨a0, a1, a2, a3, a4, a5, a6⟩ := ha
  rw [state_eq]
  refine FnW.of_AW TryzT_ok 0 (fn := Tryz.f90) (by kernel_rfl) rfl (by kernel_rfl) rfl rfl rfl ?_
  refine AW_of h90 TryzT_ok (by kernel_rfl) ?_
  simp -dsimp
  refine ACallK_of (f185_ok _ _ a0) ?_
  by_cases h0 : a.know = b.know
  case neg => simp -dsimp [h0]
  by_cases l1 : (a.tallies.length : Int) = b.tallies.length
  case neg =>
    have hne : a.tallies ≠ b.tallies := fun e => l1 (by rw [e])
    have b1 : ((a.tallies.length : Int) != (b.tallies.length : Int)) = true := by simp [l1]
    simp -dsimp [h0, b1, hne]
  have b1 : ((a.tallies.length : Int) != (b.tallies.length : Int)) = false := by simp [l1]
  replace l1 : a.tallies.length = b.tallies.length := by omega
  by_cases l2 : (a.lives.length : Int) = b.lives.length
  case neg =>
    have hne : a.lives ≠ b.lives := fun e => l2 (by rw [e])
    have b2 : ((a.lives.length : Int) != (b.lives.length : Int)) = true := by simp [l2]
    simp -dsimp [h0, b1, b2, hne]
  have b2 : ((a.lives.length : Int) != (b.lives.length : Int)) = false := by simp [l2]
  replace l2 : a.lives.length = b.lives.length := by omega
  by_cases l3 : (a.cs.length : Int) = b.cs.length
  case neg =>
    have hne : a.cs ≠ b.cs := fun e => l3 (by rw [e])
    have b3 : ((a.cs.length : Int) != (b.cs.length : Int)) = true := by simp [l3]
    simp -dsimp [h0, b1, b2, b3, hne]
  have b3 : ((a.cs.length : Int) != (b.cs.length : Int)) = false := by simp [l3]
  replace l3 : a.cs.length = b.cs.length := by omega
  simp -dsimp [h0, b1, b2, b3]
  refine AWh_loop (fun i : Nat => i ≤ a.tallies.length ∧ ∀ j : Nat, j < i → nth a.tallies j = nth b.tallies j) (fun i => mkE [(2, .box 128 0), (3, .box 192 0), (5, .c (.int .i64 i))] [(128, .box [.c (.im a.know.length (flat a.know)), .c (.im a.tallies.length (flat a.tallies)), .c (.im a.lives.length (flat a.lives)), .c (.im a.cs.length (flat a.cs))]), (192, .box [.c (.im b.know.length (flat b.know)), .c (.im b.tallies.length (flat b.tallies)), .c (.im b.lives.length (flat b.lives)), .c (.im b.cs.length (flat b.cs))])]) (fun i => a.tallies.length - i) 0 (Wk_to [2, 3, 5] [(128, 128), (192, 192)] rfl rfl (by simp [h0])) (by simp) ?_
  rintro i ⟨hi, hall⟩
  refine AW_of h90 TryzT_ok (by kernel_rfl) ?_
  rcases Nat.lt_or_ge i a.tallies.length with g1 | g1
  · have g2 : i < b.tallies.length := by omega
    simp -dsimp [g1, g2, ne_of_lt g1, ne_of_lt g2]
    refine ⟨by omega, by omega, ?_⟩
    refine ⟨fun h => ?_, ?_⟩
    · have hne : a.tallies ≠ b.tallies := list_ne_nth (i := i) (fun e => by rw [e] at h; simp at h)
      simp [hne]
    intros
    refine Back_of (i + 1) [2, 3, 5] [(128, 128), (192, 192)] rfl rfl (by simp; rw [wrap64 (by omega) (by omega)]) ⟨by omega, fun j hj => ?_⟩ (by omega)
    by_cases e : j = i
    · subst e
      apply GTally.ext <;> first | assumption | (apply GDot.ext <;> assumption)
    · exact hall j (by omega)
  obtain rfl : i = a.tallies.length := by omega
  have q1 : a.tallies = b.tallies := list_eq_of_nth l1 (fun j hj => hall j (by omega))
  clear hi hall g1
  simp -dsimp
  refine AWh_loop (fun i : Nat => i ≤ a.lives.length ∧ ∀ j : Nat, j < i → nth a.lives j = nth b.lives j) (fun i => mkE [(2, .box 128 0), (3, .box 192 0), (6, .c (.int .i64 i))] [(128, .box [.c (.im a.know.length (flat a.know)), .c (.im a.tallies.length (flat a.tallies)), .c (.im a.lives.length (flat a.lives)), .c (.im a.cs.length (flat a.cs))]), (192, .box [.c (.im b.know.length (flat b.know)), .c (.im b.tallies.length (flat b.tallies)), .c (.im b.lives.length (flat b.lives)), .c (.im b.cs.length (flat b.cs))])]) (fun i => a.lives.length - i) 0 (Wk_to [2, 3, 6] [(128, 128), (192, 192)] rfl rfl (by simp [h0])) (by simp) ?_
  rintro i ⟨hi, hall⟩
  refine AW_of h90 TryzT_ok (by kernel_rfl) ?_
  rcases Nat.lt_or_ge i a.lives.length with g1 | g1
  · have g2 : i < b.lives.length := by omega
    simp -dsimp [g1, g2, ne_of_lt g1, ne_of_lt g2]
    refine ⟨by omega, by omega, ?_⟩
    refine ⟨fun h => ?_, ?_⟩
    · have hne : a.lives ≠ b.lives := list_ne_nth (i := i) (fun e => by rw [e] at h; simp at h)
      simp [hne]
    intros
    refine Back_of (i + 1) [2, 3, 6] [(128, 128), (192, 192)] rfl rfl (by simp; rw [wrap64 (by omega) (by omega)]) ⟨by omega, fun j hj => ?_⟩ (by omega)
    by_cases e : j = i
    · subst e
      apply GLive.ext <;> first | assumption | (apply GDot.ext <;> assumption)
    · exact hall j (by omega)
  obtain rfl : i = a.lives.length := by omega
  have q2 : a.lives = b.lives := list_eq_of_nth l2 (fun j hj => hall j (by omega))
  clear hi hall g1
  simp -dsimp
  refine AWh_loop (fun i : Nat => i ≤ a.cs.length ∧ ∀ j : Nat, j < i → nth a.cs j = nth b.cs j) (fun i => mkE [(2, .box 128 0), (3, .box 192 0), (7, .c (.int .i64 i))] [(128, .box [.c (.im a.know.length (flat a.know)), .c (.im a.tallies.length (flat a.tallies)), .c (.im a.lives.length (flat a.lives)), .c (.im a.cs.length (flat a.cs))]), (192, .box [.c (.im b.know.length (flat b.know)), .c (.im b.tallies.length (flat b.tallies)), .c (.im b.lives.length (flat b.lives)), .c (.im b.cs.length (flat b.cs))])]) (fun i => a.cs.length - i) 0 (Wk_to [2, 3, 7] [(128, 128), (192, 192)] rfl rfl (by simp [h0])) (by simp) ?_
  rintro i ⟨hi, hall⟩
  refine AW_of h90 TryzT_ok (by kernel_rfl) ?_
  rcases Nat.lt_or_ge i a.cs.length with g1 | g1
  · have g2 : i < b.cs.length := by omega
    simp -dsimp [g1, g2, ne_of_lt g1, ne_of_lt g2]
    refine ⟨by omega, by omega, ?_⟩
    refine ⟨fun h => ?_, ?_⟩
    · have hne : a.cs ≠ b.cs := list_ne_nth (i := i) (fun e => by rw [e] at h; simp at h)
      simp [hne]
    intros
    refine Back_of (i + 1) [2, 3, 7] [(128, 128), (192, 192)] rfl rfl (by simp; rw [wrap64 (by omega) (by omega)]) ⟨by omega, fun j hj => ?_⟩ (by omega)
    by_cases e : j = i
    · subst e
      apply GCell.ext <;> first | assumption | (apply GDot.ext <;> assumption)
    · exact hall j (by omega)
  obtain rfl : i = a.cs.length := by omega
  have q3 : a.cs = b.cs := list_eq_of_nth l3 (fun j hj => hall j (by omega))
  clear hi hall g1
  simp -dsimp
  simp [h0, q1, q2, q3]
end Am
