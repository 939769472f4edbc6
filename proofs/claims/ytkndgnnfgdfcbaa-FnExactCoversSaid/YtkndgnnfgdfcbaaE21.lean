/- What is the same; acts that are right. No condition. -/
import Derived.Test.YtkndgnnfgdfcbaaT
import Derived.Test.YtkndgnnfgdfcbaaD
import Derived.Test.YtkndgnnfgdfcbaaE2
import Derived.Test.YtkndgnnfgdfcbaaE3
import Derived.Test.YtkndgnnfgdfcbaaAm31
namespace Am
open Go Go.Proofs
open Cel (cells)
set_option maxRecDepth 100000
set_option linter.unusedSimpArgs false
set_option linter.unusedVariables false

@[simp] def h130 : Hts := { dr := fun id => if id = 6 then [{}, {}, {}, {}, {}, {}, {}, {}, {}] else [] }
theorem f130_ok (a b : List Int) (ha : a.length ≤ 1073741824) : FnR Try.prog 130 [.v (.im a.length (flat a)), .v (.im b.length (flat b))] (.v (.bool (decide (a = b)))) := by
  refine FnW.of_AW TryT_ok 0 (fn := Try.f130) (by kernel_rfl) rfl (by kernel_rfl) rfl rfl rfl ?_
  refine AW_of h130 TryT_ok (by kernel_rfl) ?_
  simp -dsimp
  refine ⟨fun h e => h (by rw [e]), fun hl => ?_⟩
  replace hl : a.length = b.length := by omega
  refine AWh_loop (fun i : Nat => i ≤ a.length ∧ ∀ j : Nat, j < i → nth a j = nth b j) (fun i => mkE [(0, .c (.im a.length (flat a))), (1, .c (.im b.length (flat b))), (12, .c (.int .i64 a.length)), (13, .c (.int .i64 i))] []) (fun i => a.length - i) 0 (Wk_to [0, 1, 12, 13] [] rfl rfl (by simp)) (by simp) ?_
  rintro i ⟨hi, hall⟩
  refine AW_of h130 TryT_ok (by kernel_rfl) ?_
  rcases Nat.lt_or_ge i a.length with h1 | h1
  · have h2 : i < b.length := by omega
    simp -dsimp [h1, h2, ne_of_lt h1, ne_of_lt h2]
    refine ⟨fun h => ?_, ?_⟩
    · rintro rfl
      simp at h
    intros
    refine Back_of (i + 1) [0, 1, 12, 13] [] rfl rfl (by simp; rw [wrap64 (by omega) (by omega)]) ⟨by omega, fun j hj => ?_⟩ (by omega)
    by_cases e : j = i
    · subst e
      first | assumption | (apply Int.ext <;> first | assumption | (apply GDot.ext <;> assumption))
    · exact hall j (by omega)
  · simp -dsimp [Nat.not_lt.2 h1]
    exact list_eq_of_nth hl (fun j hj => hall j (by omega))

@[simp] def h133 : Hts := { dr := fun id => if id = 6 then [{}, {}, {}, {}, {}, {}, {}, {}, {}] else [] }
theorem f133_ok (a b : List GTally) (ha : a.length ≤ 1073741824) : FnR Try.prog 133 [.v (.im a.length (flat a)), .v (.im b.length (flat b))] (.v (.bool (decide (a = b)))) := by
  refine FnW.of_AW TryT_ok 0 (fn := Try.f133) (by kernel_rfl) rfl (by kernel_rfl) rfl rfl rfl ?_
  refine AW_of h133 TryT_ok (by kernel_rfl) ?_
  simp -dsimp
  refine ⟨fun h e => h (by rw [e]), fun hl => ?_⟩
  replace hl : a.length = b.length := by omega
  refine AWh_loop (fun i : Nat => i ≤ a.length ∧ ∀ j : Nat, j < i → nth a j = nth b j) (fun i => mkE [(0, .c (.im a.length (flat a))), (1, .c (.im b.length (flat b))), (12, .c (.int .i64 a.length)), (13, .c (.int .i64 i))] []) (fun i => a.length - i) 0 (Wk_to [0, 1, 12, 13] [] rfl rfl (by simp)) (by simp) ?_
  rintro i ⟨hi, hall⟩
  refine AW_of h133 TryT_ok (by kernel_rfl) ?_
  rcases Nat.lt_or_ge i a.length with h1 | h1
  · have h2 : i < b.length := by omega
    simp -dsimp [h1, h2, ne_of_lt h1, ne_of_lt h2]
    refine ⟨by omega, by omega, ?_⟩
    refine ⟨fun h => ?_, ?_⟩
    · rintro rfl
      simp at h
    intros
    refine Back_of (i + 1) [0, 1, 12, 13] [] rfl rfl (by simp; rw [wrap64 (by omega) (by omega)]) ⟨by omega, fun j hj => ?_⟩ (by omega)
    by_cases e : j = i
    · subst e
      first | assumption | (apply GTally.ext <;> first | assumption | (apply GDot.ext <;> assumption))
    · exact hall j (by omega)
  · simp -dsimp [Nat.not_lt.2 h1]
    exact list_eq_of_nth hl (fun j hj => hall j (by omega))

@[simp] def h134 : Hts := { dr := fun id => if id = 6 then [{}, {}, {}, {}, {}, {}, {}, {}, {}] else [] }
theorem f134_ok (a b : List GLive) (ha : a.length ≤ 1073741824) : FnR Try.prog 134 [.v (.im a.length (flat a)), .v (.im b.length (flat b))] (.v (.bool (decide (a = b)))) := by
  refine FnW.of_AW TryT_ok 0 (fn := Try.f134) (by kernel_rfl) rfl (by kernel_rfl) rfl rfl rfl ?_
  refine AW_of h134 TryT_ok (by kernel_rfl) ?_
  simp -dsimp
  refine ⟨fun h e => h (by rw [e]), fun hl => ?_⟩
  replace hl : a.length = b.length := by omega
  refine AWh_loop (fun i : Nat => i ≤ a.length ∧ ∀ j : Nat, j < i → nth a j = nth b j) (fun i => mkE [(0, .c (.im a.length (flat a))), (1, .c (.im b.length (flat b))), (12, .c (.int .i64 a.length)), (13, .c (.int .i64 i))] []) (fun i => a.length - i) 0 (Wk_to [0, 1, 12, 13] [] rfl rfl (by simp)) (by simp) ?_
  rintro i ⟨hi, hall⟩
  refine AW_of h134 TryT_ok (by kernel_rfl) ?_
  rcases Nat.lt_or_ge i a.length with h1 | h1
  · have h2 : i < b.length := by omega
    simp -dsimp [h1, h2, ne_of_lt h1, ne_of_lt h2]
    refine ⟨by omega, by omega, ?_⟩
    refine ⟨fun h => ?_, ?_⟩
    · rintro rfl
      simp at h
    intros
    refine Back_of (i + 1) [0, 1, 12, 13] [] rfl rfl (by simp; rw [wrap64 (by omega) (by omega)]) ⟨by omega, fun j hj => ?_⟩ (by omega)
    by_cases e : j = i
    · subst e
      first | assumption | (apply GLive.ext <;> first | assumption | (apply GDot.ext <;> assumption))
    · exact hall j (by omega)
  · simp -dsimp [Nat.not_lt.2 h1]
    exact list_eq_of_nth hl (fun j hj => hall j (by omega))

@[simp] def h135 : Hts := { dr := fun id => if id = 6 then [{}, {}, {}, {}, {}, {}, {}, {}, {}] else [] }
theorem f135_ok (a b : List GDot) (ha : a.length ≤ 1073741824) : FnR Try.prog 135 [.v (.im a.length (flat a)), .v (.im b.length (flat b))] (.v (.bool (decide (a = b)))) := by
  refine FnW.of_AW TryT_ok 0 (fn := Try.f135) (by kernel_rfl) rfl (by kernel_rfl) rfl rfl rfl ?_
  refine AW_of h135 TryT_ok (by kernel_rfl) ?_
  simp -dsimp
  refine ⟨fun h e => h (by rw [e]), fun hl => ?_⟩
  replace hl : a.length = b.length := by omega
  refine AWh_loop (fun i : Nat => i ≤ a.length ∧ ∀ j : Nat, j < i → nth a j = nth b j) (fun i => mkE [(0, .c (.im a.length (flat a))), (1, .c (.im b.length (flat b))), (12, .c (.int .i64 a.length)), (13, .c (.int .i64 i))] []) (fun i => a.length - i) 0 (Wk_to [0, 1, 12, 13] [] rfl rfl (by simp)) (by simp) ?_
  rintro i ⟨hi, hall⟩
  refine AW_of h135 TryT_ok (by kernel_rfl) ?_
  rcases Nat.lt_or_ge i a.length with h1 | h1
  · have h2 : i < b.length := by omega
    simp -dsimp [h1, h2, ne_of_lt h1, ne_of_lt h2]
    refine ⟨by omega, by omega, ?_⟩
    refine ⟨fun h => ?_, ?_⟩
    · rintro rfl
      simp at h
    intros
    refine Back_of (i + 1) [0, 1, 12, 13] [] rfl rfl (by simp; rw [wrap64 (by omega) (by omega)]) ⟨by omega, fun j hj => ?_⟩ (by omega)
    by_cases e : j = i
    · subst e
      first | assumption | (apply GDot.ext <;> first | assumption | (apply GDot.ext <;> assumption))
    · exact hall j (by omega)
  · simp -dsimp [Nat.not_lt.2 h1]
    exact list_eq_of_nth hl (fun j hj => hall j (by omega))

@[simp] def h136 : Hts := { dr := fun id => if id = 6 then [{}, {}, {}, {}, {}, {}, {}, {}, {}] else [] }
theorem f136_ok (a b : List GCell) (ha : a.length ≤ 1073741824) : FnR Try.prog 136 [.v (.im a.length (flat a)), .v (.im b.length (flat b))] (.v (.bool (decide (a = b)))) := by
  refine FnW.of_AW TryT_ok 0 (fn := Try.f136) (by kernel_rfl) rfl (by kernel_rfl) rfl rfl rfl ?_
  refine AW_of h136 TryT_ok (by kernel_rfl) ?_
  simp -dsimp
  refine ⟨fun h e => h (by rw [e]), fun hl => ?_⟩
  replace hl : a.length = b.length := by omega
  refine AWh_loop (fun i : Nat => i ≤ a.length ∧ ∀ j : Nat, j < i → nth a j = nth b j) (fun i => mkE [(0, .c (.im a.length (flat a))), (1, .c (.im b.length (flat b))), (12, .c (.int .i64 a.length)), (13, .c (.int .i64 i))] []) (fun i => a.length - i) 0 (Wk_to [0, 1, 12, 13] [] rfl rfl (by simp)) (by simp) ?_
  rintro i ⟨hi, hall⟩
  refine AW_of h136 TryT_ok (by kernel_rfl) ?_
  rcases Nat.lt_or_ge i a.length with h1 | h1
  · have h2 : i < b.length := by omega
    simp -dsimp [h1, h2, ne_of_lt h1, ne_of_lt h2]
    refine ⟨by omega, by omega, ?_⟩
    refine ⟨fun h => ?_, ?_⟩
    · rintro rfl
      simp at h
    intros
    refine Back_of (i + 1) [0, 1, 12, 13] [] rfl rfl (by simp; rw [wrap64 (by omega) (by omega)]) ⟨by omega, fun j hj => ?_⟩ (by omega)
    by_cases e : j = i
    · subst e
      first | assumption | (apply GCell.ext <;> first | assumption | (apply GDot.ext <;> assumption))
    · exact hall j (by omega)
  · simp -dsimp [Nat.not_lt.2 h1]
    exact list_eq_of_nth hl (fun j hj => hall j (by omega))

@[simp] def h82 : Hts := { mergeF := fun _ => true }
set_option maxHeartbeats 1000000 in
theorem f82_ok (a b : GAct) (h : a.Ok) : FnR Try.prog 82 [.agg [.int .i64 a.dot.rep, .int .i64 a.dot.seq, .int .i64 a.time, .im a.knew.length (flat a.knew), .int .i64 a.kind, .str a.obj, .str a.key, .int .i64 a.val, .int .i64 a.ref.rep, .int .i64 a.ref.seq], .agg [.int .i64 b.dot.rep, .int .i64 b.dot.seq, .int .i64 b.time, .im b.knew.length (flat b.knew), .int .i64 b.kind, .str b.obj, .str b.key, .int .i64 b.val, .int .i64 b.ref.rep, .int .i64 b.ref.seq]] (.v (.bool (decide (a = b)))) := by
  simp only [GAct.Ok] at h
  obtain ⟨o0, o1, o2⟩ := h
  refine FnW.of_AW TryT_ok 0 (fn := Try.f82) (by kernel_rfl) rfl (by kernel_rfl) rfl rfl rfl ?_
  refine AW_of h82 TryT_ok (by kernel_rfl) ?_
  simp -dsimp
  refine ACallK_of (f130_ok _ _ o0) ?_
  simp -dsimp
  rw [Bool.eq_iff_iff]
  simp [GAct.ext_iff, GDot.ext_iff]
  grind

@[simp] def h84 : Hts := { mergeF := fun _ => true }
set_option maxHeartbeats 1000000 in
theorem f84_ok (a b : GDelta) (h : a.Ok) : FnR Try.prog 84 [.agg [.im a.base.length (flat a.base), .im a.know.length (flat a.know), .im a.tallies.length (flat a.tallies), .im a.lives.length (flat a.lives), .im a.dead.length (flat a.dead), .im a.cs.length (flat a.cs)], .agg [.im b.base.length (flat b.base), .im b.know.length (flat b.know), .im b.tallies.length (flat b.tallies), .im b.lives.length (flat b.lives), .im b.dead.length (flat b.dead), .im b.cs.length (flat b.cs)]] (.v (.bool (decide (a = b)))) := by
  simp only [GDelta.Ok] at h
  obtain ⟨o0, o1, o2, o3, o4, o5, o6, o7, o8⟩ := h
  refine FnW.of_AW TryT_ok 0 (fn := Try.f84) (by kernel_rfl) rfl (by kernel_rfl) rfl rfl rfl ?_
  refine AW_of h84 TryT_ok (by kernel_rfl) ?_
  simp -dsimp
  refine ACallK_of (f130_ok _ _ o0) ?_
  simp -dsimp
  refine ACallK_of (f130_ok _ _ o1) ?_
  simp -dsimp
  refine ACallK_of (f133_ok _ _ o2) ?_
  simp -dsimp
  refine ACallK_of (f134_ok _ _ o4) ?_
  simp -dsimp
  refine ACallK_of (f135_ok _ _ o6) ?_
  simp -dsimp
  refine ACallK_of (f136_ok _ _ o7) ?_
  simp -dsimp
  rw [Bool.eq_iff_iff]
  simp [GDelta.ext_iff]
  try grind
end Am
