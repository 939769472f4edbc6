/- What is the same; acts that are right. No condition. -/
import Derived.Test.YtkkaogfjlbigmaaGreatT
import Derived.Test.YtkkaogfjlbigmaaGreatD
import Derived.Test.YtkkaogfjlbigmaaGreatE2
import Derived.Test.YtkkaogfjlbigmaaGreatE3
import Derived.Test.YtkkaogfjlbigmaaGreatAm31
namespace Am
open Go Go.Proofs
open Cel (cells)
set_option maxRecDepth 100000
set_option linter.unusedSimpArgs false
set_option linter.unusedVariables false

@[simp] def h143 : Hts := { dr := fun id => if id = 6 then [{}, {}, {}, {}, {}, {}, {}, {}, {}] else [] }
theorem f143_ok (a b : List Int) (ha : a.length ≤ 1073741824) : FnR Tryz.prog 143 [.v (.im a.length (flat a)), .v (.im b.length (flat b))] (.v (.bool (decide (a = b)))) := by
  refine FnW.of_AW TryzT_ok 0 (fn := Tryz.f143) (by kernel_rfl) rfl (by kernel_rfl) rfl rfl rfl ?_; refine AW_of h143 TryzT_ok (by kernel_rfl) ?_
  simp -dsimp
  refine ⟨fun h e => h (by rw [e]), fun hl => ?_⟩
  replace hl : a.length = b.length := by omega
  refine AWh_loop (fun i : Nat => i ≤ a.length ∧ ∀ j : Nat, j < i → nth a j = nth b j) (fun i => mkE [(0, .c (.im a.length (flat a))), (1, .c (.im b.length (flat b))), (12, .c (.int .i64 a.length)), (13, .c (.int .i64 i))] []) (fun i => a.length - i) 0 (Wk_to [0, 1, 12, 13] [] rfl rfl (by simp)) (by simp) ?_
  rintro i ⟨hi, hall⟩
  refine AW_of h143 TryzT_ok (by kernel_rfl) ?_
  rcases Nat.lt_or_ge i a.length with h1 | h1
  · have h2 : i < b.length := by omega
    simp -dsimp [h1, h2, ne_of_lt h1, ne_of_lt h2]
    refine ⟨fun h => ?_, ?_⟩
    · rintro rfl
      simp at h
    intros
    refine Back_of (i + 1) [0, 1, 12, 13] [] rfl rfl (by simp; rw [wrap64 (by omega) (by omega)]) ⟨by omega, fun j hj => ?_⟩ (by omega)
    by_cases e : j = i
    · subst e
      first | assumption | (apply Int.ext <;> first | assumption | (apply GDot.ext <;> assumption))
    · exact hall j (by omega)
  · simp -dsimp [Nat.not_lt.2 h1]
    exact list_eq_of_nth hl (fun j hj => hall j (by omega))

@[simp] def h144 : Hts := { dr := fun id => if id = 6 then [{}, {}, {}, {}, {}, {}, {}, {}, {}] else [] }
theorem f144_ok (a b : List GTally) (ha : a.length ≤ 1073741824) : FnR Tryz.prog 144 [.v (.im a.length (flat a)), .v (.im b.length (flat b))] (.v (.bool (decide (a = b)))) := by
  refine FnW.of_AW TryzT_ok 0 (fn := Tryz.f144) (by kernel_rfl) rfl (by kernel_rfl) rfl rfl rfl ?_; refine AW_of h144 TryzT_ok (by kernel_rfl) ?_
  simp -dsimp
  refine ⟨fun h e => h (by rw [e]), fun hl => ?_⟩
  replace hl : a.length = b.length := by omega
  refine AWh_loop (fun i : Nat => i ≤ a.length ∧ ∀ j : Nat, j < i → nth a j = nth b j) (fun i => mkE [(0, .c (.im a.length (flat a))), (1, .c (.im b.length (flat b))), (12, .c (.int .i64 a.length)), (13, .c (.int .i64 i))] []) (fun i => a.length - i) 0 (Wk_to [0, 1, 12, 13] [] rfl rfl (by simp)) (by simp) ?_
  rintro i ⟨hi, hall⟩
  refine AW_of h144 TryzT_ok (by kernel_rfl) ?_
  rcases Nat.lt_or_ge i a.length with h1 | h1
  · have h2 : i < b.length := by omega
    simp -dsimp [h1, h2, ne_of_lt h1, ne_of_lt h2]
    refine ⟨by omega, by omega, ?_⟩
    refine ⟨fun h => ?_, ?_⟩
    · rintro rfl
      simp at h
    intros
    refine Back_of (i + 1) [0, 1, 12, 13] [] rfl rfl (by simp; rw [wrap64 (by omega) (by omega)]) ⟨by omega, fun j hj => ?_⟩ (by omega)
    by_cases e : j = i
    · subst e
      first | assumption | (apply GTally.ext <;> first | assumption | (apply GDot.ext <;> assumption))
    · exact hall j (by omega)
  · simp -dsimp [Nat.not_lt.2 h1]
    exact list_eq_of_nth hl (fun j hj => hall j (by omega))

@[simp] def h145 : Hts := { dr := fun id => if id = 6 then [{}, {}, {}, {}, {}, {}, {}, {}, {}] else [] }
theorem f145_ok (a b : List GLive) (ha : a.length ≤ 1073741824) : FnR Tryz.prog 145 [.v (.im a.length (flat a)), .v (.im b.length (flat b))] (.v (.bool (decide (a = b)))) := by
  refine FnW.of_AW TryzT_ok 0 (fn := Tryz.f145) (by kernel_rfl) rfl (by kernel_rfl) rfl rfl rfl ?_; refine AW_of h145 TryzT_ok (by kernel_rfl) ?_
  simp -dsimp
  refine ⟨fun h e => h (by rw [e]), fun hl => ?_⟩
  replace hl : a.length = b.length := by omega
  refine AWh_loop (fun i : Nat => i ≤ a.length ∧ ∀ j : Nat, j < i → nth a j = nth b j) (fun i => mkE [(0, .c (.im a.length (flat a))), (1, .c (.im b.length (flat b))), (12, .c (.int .i64 a.length)), (13, .c (.int .i64 i))] []) (fun i => a.length - i) 0 (Wk_to [0, 1, 12, 13] [] rfl rfl (by simp)) (by simp) ?_
  rintro i ⟨hi, hall⟩
  refine AW_of h145 TryzT_ok (by kernel_rfl) ?_
  rcases Nat.lt_or_ge i a.length with h1 | h1
  · have h2 : i < b.length := by omega
    simp -dsimp [h1, h2, ne_of_lt h1, ne_of_lt h2]
    refine ⟨by omega, by omega, ?_⟩
    refine ⟨fun h => ?_, ?_⟩
    · rintro rfl
      simp at h
    intros
    refine Back_of (i + 1) [0, 1, 12, 13] [] rfl rfl (by simp; rw [wrap64 (by omega) (by omega)]) ⟨by omega, fun j hj => ?_⟩ (by omega)
    by_cases e : j = i
    · subst e
      first | assumption | (apply GLive.ext <;> first | assumption | (apply GDot.ext <;> assumption))
    · exact hall j (by omega)
  · simp -dsimp [Nat.not_lt.2 h1]
    exact list_eq_of_nth hl (fun j hj => hall j (by omega))

@[simp] def h146 : Hts := { dr := fun id => if id = 6 then [{}, {}, {}, {}, {}, {}, {}, {}, {}] else [] }
theorem f146_ok (a b : List GCell) (ha : a.length ≤ 1073741824) : FnR Tryz.prog 146 [.v (.im a.length (flat a)), .v (.im b.length (flat b))] (.v (.bool (decide (a = b)))) := by
  refine FnW.of_AW TryzT_ok 0 (fn := Tryz.f146) (by kernel_rfl) rfl (by kernel_rfl) rfl rfl rfl ?_; refine AW_of h146 TryzT_ok (by kernel_rfl) ?_
  simp -dsimp
  refine ⟨fun h e => h (by rw [e]), fun hl => ?_⟩
  replace hl : a.length = b.length := by omega
  refine AWh_loop (fun i : Nat => i ≤ a.length ∧ ∀ j : Nat, j < i → nth a j = nth b j) (fun i => mkE [(0, .c (.im a.length (flat a))), (1, .c (.im b.length (flat b))), (12, .c (.int .i64 a.length)), (13, .c (.int .i64 i))] []) (fun i => a.length - i) 0 (Wk_to [0, 1, 12, 13] [] rfl rfl (by simp)) (by simp) ?_
  rintro i ⟨hi, hall⟩
  refine AW_of h146 TryzT_ok (by kernel_rfl) ?_
  rcases Nat.lt_or_ge i a.length with h1 | h1
  · have h2 : i < b.length := by omega
    simp -dsimp [h1, h2, ne_of_lt h1, ne_of_lt h2]
    refine ⟨by omega, by omega, ?_⟩
    refine ⟨fun h => ?_, ?_⟩
    · rintro rfl
      simp at h
    intros
    refine Back_of (i + 1) [0, 1, 12, 13] [] rfl rfl (by simp; rw [wrap64 (by omega) (by omega)]) ⟨by omega, fun j hj => ?_⟩ (by omega)
    by_cases e : j = i
    · subst e
      first | assumption | (apply GCell.ext <;> first | assumption | (apply GDot.ext <;> assumption))
    · exact hall j (by omega)
  · simp -dsimp [Nat.not_lt.2 h1]
    exact list_eq_of_nth hl (fun j hj => hall j (by omega))

@[simp] def h126 : Hts := { dr := fun id => if id = 6 then [{}, {}, {}, {}, {}, {}, {}, {}, {}] else [] }
theorem f126_ok (a b : List Int) (ha : a.length ≤ 1073741824) : FnR Tryz.prog 126 [.v (.im a.length (flat a)), .v (.im b.length (flat b))] (.v (.bool (decide (a = b)))) := by
  refine FnW.of_AW TryzT_ok 0 (fn := Tryz.f126) (by kernel_rfl) rfl (by kernel_rfl) rfl rfl rfl ?_; refine AW_of h126 TryzT_ok (by kernel_rfl) ?_
  simp -dsimp
  refine ⟨fun h e => h (by rw [e]), fun hl => ?_⟩
  replace hl : a.length = b.length := by omega
  refine AWh_loop (fun i : Nat => i ≤ a.length ∧ ∀ j : Nat, j < i → nth a j = nth b j) (fun i => mkE [(0, .c (.im a.length (flat a))), (1, .c (.im b.length (flat b))), (5, .c (.int .i64 i))] []) (fun i => a.length - i) 0 (Wk_to [0, 1, 5] [] rfl rfl (by simp)) (by simp) ?_
  rintro i ⟨hi, hall⟩
  refine AW_of h126 TryzT_ok (by kernel_rfl) ?_
  rcases Nat.lt_or_ge i a.length with h1 | h1
  · have h2 : i < b.length := by omega
    simp -dsimp [h1, h2, ne_of_lt h1, ne_of_lt h2]
    refine ⟨fun h => ?_, ?_⟩
    · rintro rfl
      simp at h
    intros
    refine Back_of (i + 1) [0, 1, 5] [] rfl rfl (by simp; rw [wrap64 (by omega) (by omega)]) ⟨by omega, fun j hj => ?_⟩ (by omega)
    by_cases e : j = i
    · subst e
      first | assumption | (apply Int.ext <;> first | assumption | (apply GDot.ext <;> assumption))
    · exact hall j (by omega)
  · simp -dsimp [Nat.not_lt.2 h1]
    exact list_eq_of_nth hl (fun j hj => hall j (by omega))
end Am
