/- The law harness: what is alike, what is copied, how large it is. No condition. -/
import Derived.Test.YtkjakhalkbiikaaT
import Derived.Test.YtkjakhalkbiikaaD
namespace Am
open Go Go.Proofs
open Cel (cells)
set_option maxRecDepth 100000
set_option maxHeartbeats 4000000
set_option linter.unusedSimpArgs false
set_option linter.unusedVariables false

@[simp] def h75 : Hts := { dr := fun id => if id = 6 then [{}, {}, {}, {}, {}, {}, {}, {}, {}] else [] }
theorem f75_ok (a b : List Int) (ha : a.length ≤ 1073741824) : FnR Try.prog 75 [.v (.im a.length (flat a)), .v (.im b.length (flat b))] (.v (.bool (decide (a = b)))) := by
  refine FnW.of_AW TryT_ok 0 (fn := Try.f75) (by kernel_rfl) rfl (by kernel_rfl) rfl rfl rfl ?_
  refine AW_of h75 TryT_ok (by kernel_rfl) ?_
  simp -dsimp
  refine ⟨fun h e => h (by rw [e]), fun hl => ?_⟩
  replace hl : a.length = b.length := by omega
  refine AWh_loop (fun i : Nat => i ≤ a.length ∧ ∀ j : Nat, j < i → nth a j = nth b j) (fun i => mkE [(0, .c (.im a.length (flat a))), (1, .c (.im b.length (flat b))), (5, .c (.int .i64 i))] []) (fun i => a.length - i) 0 (Wk_to [0, 1, 5] [] rfl rfl (by simp)) (by simp) ?_
  rintro i ⟨hi, hall⟩
  refine AW_of h75 TryT_ok (by kernel_rfl) ?_
  rcases Nat.lt_or_ge i a.length with h1 | h1
  · have h2 : i < b.length := by omega
    simp -dsimp [h1, h2, ne_of_lt h1, ne_of_lt h2]
    refine ⟨fun h e => h (by rw [e]), fun h => ?_⟩
    refine Back_of (i + 1) [0, 1, 5] [] rfl rfl (by simp; rw [wrap64 (by omega) (by omega)]) ⟨by omega, fun j hj => ?_⟩ (by omega)
    by_cases e : j = i
    · subst e; exact h
    · exact hall j (by omega)
  · simp -dsimp [Nat.not_lt.2 h1]
    exact list_eq_of_nth hl (fun j hj => hall j (by omega))

@[simp] def h96 : Hts := {  }
theorem f96_ok (a : List Int) (ha : a.length ≤ 1073741824) : FnR Try.prog 96 [.v (.im a.length (flat a))] (.v (.ow 3 1 a.length (flat a))) := by
  refine FnW.of_AW TryT_ok 0 (fn := Try.f96) (by kernel_rfl) rfl (by kernel_rfl) rfl rfl rfl ?_
  refine AW_of h96 TryT_ok (by kernel_rfl) ?_
  simp -dsimp
  refine ⟨by simp [capMax]; omega, ?_⟩
  refine AWh_loop (fun i : Nat => i ≤ a.length) (fun i => mkE [(0, .c (.im a.length (flat a))), (3, .arr 448), (4, .c (.int .i64 i))] [(448, .arr 0 3 1 a.length (flat (a.take i ++ List.replicate (a.length - i) 0)))]) (fun i => a.length - i) 0 (Wk_to [0, 3, 4] [(448, 448)] rfl rfl (by simp)) (by simp) ?_
  rintro i hi
  refine AW_of h96 TryT_ok (by kernel_rfl) ?_
  rcases Nat.lt_or_ge i a.length with h1 | h1
  · have h2 : i < min i a.length + (a.length - i) := by omega
    simp -dsimp [h1, ne_of_lt h1, h2]
    first | refine ⟨by omega, ?_⟩ | skip
    refine Back_of (i + 1) [0, 3, 4] [(448, 448)] rfl rfl ?_ (by omega) (by omega)
    simp -dsimp
    rw [wrap64 (by omega) (by omega), ← fill_step a 0 h1]
    try rfl
  · simp -dsimp [Nat.not_lt.2 h1]
    have : i = a.length := by omega
    subst this
    simp

@[simp] def h85 : Hts := {  }
theorem f85_ok (a : List Int) (l : Int) (ha : a.length ≤ 9223372036854775807) (h0 : 0 ≤ l) (h1 : l ≤ 1048576) : FnR Try.prog 85 [.v (.im a.length (flat a)), .v (.int .i64 l)] (.v (.int .i64 (szLen a l))) := by
  refine FnW.of_AW TryT_ok 0 (fn := Try.f85) (by kernel_rfl) rfl (by kernel_rfl) rfl rfl rfl ?_
  refine AW_of h85 TryT_ok (by kernel_rfl) ?_
  simp -dsimp
  rw [wrap64 (x := l - ↑a.length) (by omega) (by omega)]
  refine ⟨fun h => ?_, fun h => ?_⟩
  · rw [szLen, szq_neg h]
  · rw [szLen, szq_go h]

@[simp] def h46 : Hts := { dr := fun id => if id = 6 then [{}, {}, {}, {}, {}, {}, {}, {}, {}] else [] }
theorem f46_ok (a b : List ByteArray) (ha : a.length ≤ 1073741824) : FnR Try.prog 46 [.v (.im a.length (flat a)), .v (.im b.length (flat b))] (.v (.bool (decide (a = b)))) := by
  refine FnW.of_AW TryT_ok 0 (fn := Try.f46) (by kernel_rfl) rfl (by kernel_rfl) rfl rfl rfl ?_
  refine AW_of h46 TryT_ok (by kernel_rfl) ?_
  simp -dsimp
  refine ⟨fun h e => h (by rw [e]), fun hl => ?_⟩
  replace hl : a.length = b.length := by omega
  refine AWh_loop (fun i : Nat => i ≤ a.length ∧ ∀ j : Nat, j < i → nth a j = nth b j) (fun i => mkE [(0, .c (.im a.length (flat a))), (1, .c (.im b.length (flat b))), (5, .c (.int .i64 i))] []) (fun i => a.length - i) 0 (Wk_to [0, 1, 5] [] rfl rfl (by simp)) (by simp) ?_
  rintro i ⟨hi, hall⟩
  refine AW_of h46 TryT_ok (by kernel_rfl) ?_
  rcases Nat.lt_or_ge i a.length with h1 | h1
  · have h2 : i < b.length := by omega
    simp -dsimp [h1, h2, ne_of_lt h1, ne_of_lt h2]
    refine ⟨fun h e => h (by rw [e]), fun h => ?_⟩
    refine Back_of (i + 1) [0, 1, 5] [] rfl rfl (by simp; rw [wrap64 (by omega) (by omega)]) ⟨by omega, fun j hj => ?_⟩ (by omega)
    by_cases e : j = i
    · subst e; exact h
    · exact hall j (by omega)
  · simp -dsimp [Nat.not_lt.2 h1]
    exact list_eq_of_nth hl (fun j hj => hall j (by omega))

@[simp] def h66 : Hts := {  }
theorem f66_ok (a b : GDot) : FnR Try.prog 66 [.agg [.int .i64 a.rep, .int .i64 a.seq], .agg [.int .i64 b.rep, .int .i64 b.seq]] (.v (.bool (decide (a = b)))) := by
  refine FnW.of_AW TryT_ok 0 (fn := Try.f66) (by kernel_rfl) rfl (by kernel_rfl) rfl rfl rfl ?_
  refine AW_of h66 TryT_ok (by kernel_rfl) ?_
  simp -dsimp
  repeat' (first
    | refine And.intro ?_ ?_
    | intro _)
  all_goals first | assumption | (apply GDot.ext <;> assumption) | (subst_vars; simp_all; done) | grind

@[simp] def h56 : Hts := { dr := fun id => if id = 6 then [{}, {}, {}, {}, {}, {}, {}, {}, { cr := true }, {}] else [] }
theorem f56_ok (a b : List GDot) (ha : a.length ≤ 1073741824) : FnR Try.prog 56 [.v (.im a.length (flat a)), .v (.im b.length (flat b))] (.v (.bool (decide (a = b)))) := by
  refine FnW.of_AW TryT_ok 0 (fn := Try.f56) (by kernel_rfl) rfl (by kernel_rfl) rfl rfl rfl ?_
  refine AW_of h56 TryT_ok (by kernel_rfl) ?_
  simp -dsimp
  refine ⟨fun h e => h (by rw [e]), fun hl => ?_⟩
  replace hl : a.length = b.length := by omega
  refine AWh_loop (fun i : Nat => i ≤ a.length ∧ ∀ j : Nat, j < i → nth a j = nth b j) (fun i => mkE [(0, .c (.im a.length (flat a))), (1, .c (.im b.length (flat b))), (5, .c (.int .i64 i))] []) (fun i => a.length - i) 0 (Wk_to [0, 1, 5] [] rfl rfl (by simp)) (by simp) ?_
  rintro i ⟨hi, hall⟩
  refine AW_of h56 TryT_ok (by kernel_rfl) ?_
  rcases Nat.lt_or_ge i a.length with h1 | h1
  · have h2 : i < b.length := by omega
    simp -dsimp [h1, h2, ne_of_lt h1, ne_of_lt h2]
    first | refine ⟨by omega, by omega, ?_⟩ | skip
    refine ACallK_of (f66_ok _ _) ?_
    simp -dsimp
    refine ⟨fun h e => h (by rw [e]), fun h => ?_⟩
    refine Back_of (i + 1) [0, 1, 5] [] rfl rfl (by simp; rw [wrap64 (by omega) (by omega)]) ⟨by omega, fun j hj => ?_⟩ (by omega)
    by_cases e : j = i
    · subst e; exact h
    · exact hall j (by omega)
  · simp -dsimp [Nat.not_lt.2 h1]
    exact list_eq_of_nth hl (fun j hj => hall j (by omega))

@[simp] def h25 : Hts := {  }
theorem f25_ok (a : GDot) : FnR Try.prog 25 [.agg [.int .i64 a.rep, .int .i64 a.seq]] (.agg [.int .i64 a.rep, .int .i64 a.seq]) := by
  refine FnW.of_AW TryT_ok 0 (fn := Try.f25) (by kernel_rfl) rfl (by kernel_rfl) rfl rfl rfl ?_
  refine AW_of h25 TryT_ok (by kernel_rfl) ?_
  simp -dsimp

@[simp] def h99 : Hts := {  }
theorem f99_ok (a : List GDot) (ha : a.length ≤ 1073741824) : FnR Try.prog 99 [.v (.im a.length (flat a))] (.v (.ow 37 2 a.length (flat a))) := by
  refine FnW.of_AW TryT_ok 0 (fn := Try.f99) (by kernel_rfl) rfl (by kernel_rfl) rfl rfl rfl ?_
  refine AW_of h99 TryT_ok (by kernel_rfl) ?_
  simp -dsimp
  refine ⟨by simp [capMax]; omega, ?_⟩
  refine AWh_loop (fun i : Nat => i ≤ a.length) (fun i => mkE [(0, .c (.im a.length (flat a))), (3, .arr 448), (4, .c (.int .i64 i))] [(448, .arr 0 37 2 a.length (flat (a.take i ++ List.replicate (a.length - i) ⟨0, 0⟩)))]) (fun i => a.length - i) 0 (Wk_to [0, 3, 4] [(448, 448)] rfl rfl (by simp)) (by simp) ?_
  rintro i hi
  refine AW_of h99 TryT_ok (by kernel_rfl) ?_
  rcases Nat.lt_or_ge i a.length with h1 | h1
  · have h2 : i < min i a.length + (a.length - i) := by omega
    simp -dsimp [h1, ne_of_lt h1, h2]
    first | refine ⟨by omega, ?_⟩ | skip
    refine ACallK_of (f25_ok _) ?_
    simp -dsimp [h1, h2]
    first | refine ⟨by omega, ?_⟩ | skip
    refine Back_of (i + 1) [0, 3, 4] [(448, 448)] rfl rfl ?_ (by omega) (by omega)
    simp -dsimp
    rw [wrap64 (by omega) (by omega), ← fill_step a ⟨0, 0⟩ h1]
    try rfl
  · simp -dsimp [Nat.not_lt.2 h1]
    have : i = a.length := by omega
    subst this
    simp

@[simp] def h88 : Hts := {  }
theorem f88_ok (a : List GDot) (l : Int) (ha : a.length ≤ 9223372036854775807) (h0 : 0 ≤ l) (h1 : l ≤ 1048576) : FnR Try.prog 88 [.v (.im a.length (flat a)), .v (.int .i64 l)] (.v (.int .i64 (szLen a l))) := by
  refine FnW.of_AW TryT_ok 0 (fn := Try.f88) (by kernel_rfl) rfl (by kernel_rfl) rfl rfl rfl ?_
  refine AW_of h88 TryT_ok (by kernel_rfl) ?_
  simp -dsimp
  rw [wrap64 (x := l - ↑a.length) (by omega) (by omega)]
  refine ⟨fun h => ?_, fun h => ?_⟩
  · rw [szLen, szq_neg h]
  · rw [szLen, szq_go h]

@[simp] def h186 : Hts := {  }
theorem f186_ok (a b : GTally) : FnR Try.prog 186 [.agg [.str a.obj, .int .i64 a.rep, .int .i64 a.sum], .agg [.str b.obj, .int .i64 b.rep, .int .i64 b.sum]] (.v (.bool (decide (a = b)))) := by
  refine FnW.of_AW TryT_ok 0 (fn := Try.f186) (by kernel_rfl) rfl (by kernel_rfl) rfl rfl rfl ?_
  refine AW_of h186 TryT_ok (by kernel_rfl) ?_
  simp -dsimp
  repeat' (first
    | refine And.intro ?_ ?_
    | intro _)
  all_goals first | assumption | (apply GTally.ext <;> assumption) | (subst_vars; simp_all; done) | grind

@[simp] def h108 : Hts := { dr := fun id => if id = 6 then [{}, {}, {}, {}, {}, {}, {}, {}, { cr := true }, {}] else [] }
theorem f108_ok (a b : List GTally) (ha : a.length ≤ 1073741824) : FnR Try.prog 108 [.v (.im a.length (flat a)), .v (.im b.length (flat b))] (.v (.bool (decide (a = b)))) := by
  refine FnW.of_AW TryT_ok 0 (fn := Try.f108) (by kernel_rfl) rfl (by kernel_rfl) rfl rfl rfl ?_
  refine AW_of h108 TryT_ok (by kernel_rfl) ?_
  simp -dsimp
  refine ⟨fun h e => h (by rw [e]), fun hl => ?_⟩
  replace hl : a.length = b.length := by omega
  refine AWh_loop (fun i : Nat => i ≤ a.length ∧ ∀ j : Nat, j < i → nth a j = nth b j) (fun i => mkE [(0, .c (.im a.length (flat a))), (1, .c (.im b.length (flat b))), (5, .c (.int .i64 i))] []) (fun i => a.length - i) 0 (Wk_to [0, 1, 5] [] rfl rfl (by simp)) (by simp) ?_
  rintro i ⟨hi, hall⟩
  refine AW_of h108 TryT_ok (by kernel_rfl) ?_
  rcases Nat.lt_or_ge i a.length with h1 | h1
  · have h2 : i < b.length := by omega
    simp -dsimp [h1, h2, ne_of_lt h1, ne_of_lt h2]
    first | refine ⟨by omega, by omega, ?_⟩ | skip
    refine ACallK_of (f186_ok _ _) ?_
    simp -dsimp
    refine ⟨fun h e => h (by rw [e]), fun h => ?_⟩
    refine Back_of (i + 1) [0, 1, 5] [] rfl rfl (by simp; rw [wrap64 (by omega) (by omega)]) ⟨by omega, fun j hj => ?_⟩ (by omega)
    by_cases e : j = i
    · subst e; exact h
    · exact hall j (by omega)
  · simp -dsimp [Nat.not_lt.2 h1]
    exact list_eq_of_nth hl (fun j hj => hall j (by omega))

@[simp] def h178 : Hts := {  }
theorem f178_ok (a : GTally) : FnR Try.prog 178 [.agg [.str a.obj, .int .i64 a.rep, .int .i64 a.sum]] (.agg [.str a.obj, .int .i64 a.rep, .int .i64 a.sum]) := by
  refine FnW.of_AW TryT_ok 0 (fn := Try.f178) (by kernel_rfl) rfl (by kernel_rfl) rfl rfl rfl ?_
  refine AW_of h178 TryT_ok (by kernel_rfl) ?_
  simp -dsimp

@[simp] def h97 : Hts := {  }
theorem f97_ok (a : List GTally) (ha : a.length ≤ 1073741824) : FnR Try.prog 97 [.v (.im a.length (flat a))] (.v (.ow 198 3 a.length (flat a))) := by
  refine FnW.of_AW TryT_ok 0 (fn := Try.f97) (by kernel_rfl) rfl (by kernel_rfl) rfl rfl rfl ?_
  refine AW_of h97 TryT_ok (by kernel_rfl) ?_
  simp -dsimp
  refine ⟨by simp [capMax]; omega, ?_⟩
  refine AWh_loop (fun i : Nat => i ≤ a.length) (fun i => mkE [(0, .c (.im a.length (flat a))), (3, .arr 448), (4, .c (.int .i64 i))] [(448, .arr 0 198 3 a.length (flat (a.take i ++ List.replicate (a.length - i) ⟨⟨#[]⟩, 0, 0⟩)))]) (fun i => a.length - i) 0 (Wk_to [0, 3, 4] [(448, 448)] rfl rfl (by simp)) (by simp) ?_
  rintro i hi
  refine AW_of h97 TryT_ok (by kernel_rfl) ?_
  rcases Nat.lt_or_ge i a.length with h1 | h1
  · have h2 : i < min i a.length + (a.length - i) := by omega
    simp -dsimp [h1, ne_of_lt h1, h2]
    first | refine ⟨by omega, ?_⟩ | skip
    refine ACallK_of (f178_ok _) ?_
    simp -dsimp [h1, h2]
    first | refine ⟨by omega, ?_⟩ | skip
    refine Back_of (i + 1) [0, 3, 4] [(448, 448)] rfl rfl ?_ (by omega) (by omega)
    simp -dsimp
    rw [wrap64 (by omega) (by omega), ← fill_step a ⟨⟨#[]⟩, 0, 0⟩ h1]
    try rfl
  · simp -dsimp [Nat.not_lt.2 h1]
    have : i = a.length := by omega
    subst this
    simp

@[simp] def h170 : Hts := {  }
theorem f170_ok (a : GTally) (l : Int) (hf : a.Fit) (h0 : 0 ≤ l) (h1 : l ≤ 1048576) : FnR Try.prog 170 [.agg [.str a.obj, .int .i64 a.rep, .int .i64 a.sum], .v (.int .i64 l)] (.v (.int .i64 (a.sz l))) := by
  simp only [GTally.Fit] at hf
  refine FnW.of_AW TryT_ok 0 (fn := Try.f170) (by kernel_rfl) rfl (by kernel_rfl) rfl rfl rfl ?_
  refine AW_of h170 TryT_ok (by kernel_rfl) ?_
  simp -dsimp
  rw [wrap64 (x := l - ↑a.obj.size) (by omega) (by omega)]
  refine ⟨fun n0 => ?_, fun p0 => ?_⟩
  · rw [GTally.sz, szq_neg n0]
  rw [GTally.sz, szq_go p0]

@[simp] def h86 : Hts := {  }
theorem f86_ok (a : List GTally) (l : Int) (ha : a.length ≤ 9223372036854775807) (hf : ∀ x, x ∈ a → x.Fit) (h0 : 0 ≤ l) (h1 : l ≤ 1048576) : FnR Try.prog 86 [.v (.im a.length (flat a)), .v (.int .i64 l)] (.v (.int .i64 (szS GTally.sz a l))) := by
  refine FnW.of_AW TryT_ok 0 (fn := Try.f86) (by kernel_rfl) rfl (by kernel_rfl) rfl rfl rfl ?_
  refine AW_of h86 TryT_ok (by kernel_rfl) ?_
  simp -dsimp
  rw [wrap64 (x := l - ↑a.length) (by omega) (by omega)]
  refine ⟨fun h => ?_, fun h => ?_⟩
  · rw [szS, szq_neg h]
  rw [szS, szq_go h]
  refine AWh_loop (fun s : Nat × Int => s.1 ≤ a.length ∧ 0 ≤ s.2 ∧ s.2 ≤ 1048576 ∧ szGo GTally.sz (a.drop s.1) s.2 = szGo GTally.sz a (l - a.length)) (fun s => mkE [(0, .c (.im a.length (flat a))), (1, .c (.int .i64 s.2)), (5, .c (.int .i64 s.1))] []) (fun s => a.length - s.1) (0, l - a.length) (Wk_to [0, 1, 5] [] rfl rfl (by simp)) ⟨by simp, h, by simp; omega, by simp⟩ ?_
  rintro ⟨i, m⟩ ⟨hi, hm0, hm1, hinv⟩
  simp only at hi hm0 hm1 hinv
  refine AW_of h86 TryT_ok (by kernel_rfl) ?_
  rcases Nat.lt_or_ge i a.length with h3 | h3
  · simp -dsimp [h3, ne_of_lt h3]
    first | refine ⟨by omega, ?_⟩ | skip
    refine ACallK_of (f170_ok _ _ (hf _ (nth_mem h3)) (by assumption) (by omega)) ?_
    simp -dsimp
    rw [szGo_drop h3] at hinv
    have hle := GTally.sz_le (nth a i) m hm0
    refine ⟨fun hn => ?_, fun hp => ?_⟩
    · rw [← hinv, szq_neg hn]
    · rw [szq_go hp] at hinv
      refine Back_of (i + 1, GTally.sz (nth a i) m) [0, 1, 5] [] rfl rfl (by simp; rw [wrap64 (by omega) (by omega)]) ⟨by simp; omega, hp, by simp; omega, hinv⟩ (by simp; omega)
  · have : i = a.length := by omega
    subst this
    simp -dsimp
    rw [← hinv, List.drop_of_length_le (Nat.le_refl _)]
    rfl

@[simp] def h187 : Hts := {  }
theorem f187_ok (a b : GLive) : FnR Try.prog 187 [.agg [.bool a.map, .str a.obj, .str a.key, .int .i64 a.val, .int .i64 a.dot.rep, .int .i64 a.dot.seq], .agg [.bool b.map, .str b.obj, .str b.key, .int .i64 b.val, .int .i64 b.dot.rep, .int .i64 b.dot.seq]] (.v (.bool (decide (a = b)))) := by
  refine FnW.of_AW TryT_ok 0 (fn := Try.f187) (by kernel_rfl) rfl (by kernel_rfl) rfl rfl rfl ?_
  refine AW_of h187 TryT_ok (by kernel_rfl) ?_
  simp -dsimp
  repeat' (first
    | (refine ACallK_of (f66_ok _ _) ?_; simp -dsimp)
    | refine And.intro ?_ ?_
    | intro _)
  all_goals first | assumption | (apply GLive.ext <;> assumption) | (subst_vars; simp_all; done) | grind

@[simp] def h109 : Hts := { dr := fun id => if id = 6 then [{}, {}, {}, {}, {}, {}, {}, {}, { cr := true }, {}] else [] }
theorem f109_ok (a b : List GLive) (ha : a.length ≤ 1073741824) : FnR Try.prog 109 [.v (.im a.length (flat a)), .v (.im b.length (flat b))] (.v (.bool (decide (a = b)))) := by
  refine FnW.of_AW TryT_ok 0 (fn := Try.f109) (by kernel_rfl) rfl (by kernel_rfl) rfl rfl rfl ?_
  refine AW_of h109 TryT_ok (by kernel_rfl) ?_
  simp -dsimp
  refine ⟨fun h e => h (by rw [e]), fun hl => ?_⟩
  replace hl : a.length = b.length := by omega
  refine AWh_loop (fun i : Nat => i ≤ a.length ∧ ∀ j : Nat, j < i → nth a j = nth b j) (fun i => mkE [(0, .c (.im a.length (flat a))), (1, .c (.im b.length (flat b))), (5, .c (.int .i64 i))] []) (fun i => a.length - i) 0 (Wk_to [0, 1, 5] [] rfl rfl (by simp)) (by simp) ?_
  rintro i ⟨hi, hall⟩
  refine AW_of h109 TryT_ok (by kernel_rfl) ?_
  rcases Nat.lt_or_ge i a.length with h1 | h1
  · have h2 : i < b.length := by omega
    simp -dsimp [h1, h2, ne_of_lt h1, ne_of_lt h2]
    first | refine ⟨by omega, by omega, ?_⟩ | skip
    refine ACallK_of (f187_ok _ _) ?_
    simp -dsimp
    refine ⟨fun h e => h (by rw [e]), fun h => ?_⟩
    refine Back_of (i + 1) [0, 1, 5] [] rfl rfl (by simp; rw [wrap64 (by omega) (by omega)]) ⟨by omega, fun j hj => ?_⟩ (by omega)
    by_cases e : j = i
    · subst e; exact h
    · exact hall j (by omega)
  · simp -dsimp [Nat.not_lt.2 h1]
    exact list_eq_of_nth hl (fun j hj => hall j (by omega))

@[simp] def h179 : Hts := {  }
theorem f179_ok (a : GLive) : FnR Try.prog 179 [.agg [.bool a.map, .str a.obj, .str a.key, .int .i64 a.val, .int .i64 a.dot.rep, .int .i64 a.dot.seq]] (.agg [.bool a.map, .str a.obj, .str a.key, .int .i64 a.val, .int .i64 a.dot.rep, .int .i64 a.dot.seq]) := by
  refine FnW.of_AW TryT_ok 0 (fn := Try.f179) (by kernel_rfl) rfl (by kernel_rfl) rfl rfl rfl ?_
  refine AW_of h179 TryT_ok (by kernel_rfl) ?_
  simp -dsimp
  repeat' (first
    | (refine ACallK_of (f25_ok _) ?_; simp -dsimp)
    | refine And.intro ?_ ?_)

@[simp] def h98 : Hts := {  }
theorem f98_ok (a : List GLive) (ha : a.length ≤ 1073741824) : FnR Try.prog 98 [.v (.im a.length (flat a))] (.v (.ow 130 6 a.length (flat a))) := by
  refine FnW.of_AW TryT_ok 0 (fn := Try.f98) (by kernel_rfl) rfl (by kernel_rfl) rfl rfl rfl ?_
  refine AW_of h98 TryT_ok (by kernel_rfl) ?_
  simp -dsimp
  refine ⟨by simp [capMax]; omega, ?_⟩
  refine AWh_loop (fun i : Nat => i ≤ a.length) (fun i => mkE [(0, .c (.im a.length (flat a))), (3, .arr 448), (4, .c (.int .i64 i))] [(448, .arr 0 130 6 a.length (flat (a.take i ++ List.replicate (a.length - i) ⟨false, ⟨#[]⟩, ⟨#[]⟩, 0, ⟨0, 0⟩⟩)))]) (fun i => a.length - i) 0 (Wk_to [0, 3, 4] [(448, 448)] rfl rfl (by simp)) (by simp) ?_
  rintro i hi
  refine AW_of h98 TryT_ok (by kernel_rfl) ?_
  rcases Nat.lt_or_ge i a.length with h1 | h1
  · have h2 : i < min i a.length + (a.length - i) := by omega
    simp -dsimp [h1, ne_of_lt h1, h2]
    first | refine ⟨by omega, ?_⟩ | skip
    refine ACallK_of (f179_ok _) ?_
    simp -dsimp [h1, h2]
    first | refine ⟨by omega, ?_⟩ | skip
    refine Back_of (i + 1) [0, 3, 4] [(448, 448)] rfl rfl ?_ (by omega) (by omega)
    simp -dsimp
    rw [wrap64 (by omega) (by omega), ← fill_step a ⟨false, ⟨#[]⟩, ⟨#[]⟩, 0, ⟨0, 0⟩⟩ h1]
    try rfl
  · simp -dsimp [Nat.not_lt.2 h1]
    have : i = a.length := by omega
    subst this
    simp

@[simp] def h171 : Hts := {  }
theorem f171_ok (a : GLive) (l : Int) (hf : a.Fit) (h0 : 0 ≤ l) (h1 : l ≤ 1048576) : FnR Try.prog 171 [.agg [.bool a.map, .str a.obj, .str a.key, .int .i64 a.val, .int .i64 a.dot.rep, .int .i64 a.dot.seq], .v (.int .i64 l)] (.v (.int .i64 (a.sz l))) := by
  simp only [GLive.Fit] at hf
  obtain ⟨o0, o1⟩ := hf
  refine FnW.of_AW TryT_ok 0 (fn := Try.f171) (by kernel_rfl) rfl (by kernel_rfl) rfl rfl rfl ?_
  refine AW_of h171 TryT_ok (by kernel_rfl) ?_
  simp -dsimp
  rw [wrap64 (x := l - ↑a.obj.size) (by omega) (by omega)]
  refine ⟨fun n0 => ?_, fun p0 => ?_⟩
  · rw [GLive.sz, szq_neg n0]
  rw [wrap64 (x := l - ↑a.obj.size - ↑a.key.size) (by omega) (by omega)]
  refine ⟨fun n1 => ?_, fun p1 => ?_⟩
  · rw [GLive.sz, szq_go p0, szq_neg n1]
  rw [GLive.sz, szq_go p0, szq_go p1]

@[simp] def h87 : Hts := {  }
theorem f87_ok (a : List GLive) (l : Int) (ha : a.length ≤ 9223372036854775807) (hf : ∀ x, x ∈ a → x.Fit) (h0 : 0 ≤ l) (h1 : l ≤ 1048576) : FnR Try.prog 87 [.v (.im a.length (flat a)), .v (.int .i64 l)] (.v (.int .i64 (szS GLive.sz a l))) := by
  refine FnW.of_AW TryT_ok 0 (fn := Try.f87) (by kernel_rfl) rfl (by kernel_rfl) rfl rfl rfl ?_
  refine AW_of h87 TryT_ok (by kernel_rfl) ?_
  simp -dsimp
  rw [wrap64 (x := l - ↑a.length) (by omega) (by omega)]
  refine ⟨fun h => ?_, fun h => ?_⟩
  · rw [szS, szq_neg h]
  rw [szS, szq_go h]
  refine AWh_loop (fun s : Nat × Int => s.1 ≤ a.length ∧ 0 ≤ s.2 ∧ s.2 ≤ 1048576 ∧ szGo GLive.sz (a.drop s.1) s.2 = szGo GLive.sz a (l - a.length)) (fun s => mkE [(0, .c (.im a.length (flat a))), (1, .c (.int .i64 s.2)), (5, .c (.int .i64 s.1))] []) (fun s => a.length - s.1) (0, l - a.length) (Wk_to [0, 1, 5] [] rfl rfl (by simp)) ⟨by simp, h, by simp; omega, by simp⟩ ?_
  rintro ⟨i, m⟩ ⟨hi, hm0, hm1, hinv⟩
  simp only at hi hm0 hm1 hinv
  refine AW_of h87 TryT_ok (by kernel_rfl) ?_
  rcases Nat.lt_or_ge i a.length with h3 | h3
  · simp -dsimp [h3, ne_of_lt h3]
    first | refine ⟨by omega, ?_⟩ | skip
    refine ACallK_of (f171_ok _ _ (hf _ (nth_mem h3)) (by assumption) (by omega)) ?_
    simp -dsimp
    rw [szGo_drop h3] at hinv
    have hle := GLive.sz_le (nth a i) m hm0
    refine ⟨fun hn => ?_, fun hp => ?_⟩
    · rw [← hinv, szq_neg hn]
    · rw [szq_go hp] at hinv
      refine Back_of (i + 1, GLive.sz (nth a i) m) [0, 1, 5] [] rfl rfl (by simp; rw [wrap64 (by omega) (by omega)]) ⟨by simp; omega, hp, by simp; omega, hinv⟩ (by simp; omega)
  · have : i = a.length := by omega
    subst this
    simp -dsimp
    rw [← hinv, List.drop_of_length_le (Nat.le_refl _)]
    rfl

@[simp] def h188 : Hts := {  }
theorem f188_ok (a b : GCell) : FnR Try.prog 188 [.agg [.str a.obj, .int .i64 a.dot.rep, .int .i64 a.dot.seq, .int .i64 a.time, .int .i64 a.ref.rep, .int .i64 a.ref.seq, .int .i64 a.val, .bool a.gone], .agg [.str b.obj, .int .i64 b.dot.rep, .int .i64 b.dot.seq, .int .i64 b.time, .int .i64 b.ref.rep, .int .i64 b.ref.seq, .int .i64 b.val, .bool b.gone]] (.v (.bool (decide (a = b)))) := by
  refine FnW.of_AW TryT_ok 0 (fn := Try.f188) (by kernel_rfl) rfl (by kernel_rfl) rfl rfl rfl ?_
  refine AW_of h188 TryT_ok (by kernel_rfl) ?_
  simp -dsimp
  repeat' (first
    | (refine ACallK_of (f66_ok _ _) ?_; simp -dsimp)
    | refine And.intro ?_ ?_
    | intro _)
  all_goals first | assumption | (apply GCell.ext <;> assumption) | (subst_vars; simp_all; done) | grind

@[simp] def h110 : Hts := { dr := fun id => if id = 6 then [{}, {}, {}, {}, {}, {}, {}, {}, { cr := true }, {}] else [] }
theorem f110_ok (a b : List GCell) (ha : a.length ≤ 1073741824) : FnR Try.prog 110 [.v (.im a.length (flat a)), .v (.im b.length (flat b))] (.v (.bool (decide (a = b)))) := by
  refine FnW.of_AW TryT_ok 0 (fn := Try.f110) (by kernel_rfl) rfl (by kernel_rfl) rfl rfl rfl ?_
  refine AW_of h110 TryT_ok (by kernel_rfl) ?_
  simp -dsimp
  refine ⟨fun h e => h (by rw [e]), fun hl => ?_⟩
  replace hl : a.length = b.length := by omega
  refine AWh_loop (fun i : Nat => i ≤ a.length ∧ ∀ j : Nat, j < i → nth a j = nth b j) (fun i => mkE [(0, .c (.im a.length (flat a))), (1, .c (.im b.length (flat b))), (5, .c (.int .i64 i))] []) (fun i => a.length - i) 0 (Wk_to [0, 1, 5] [] rfl rfl (by simp)) (by simp) ?_
  rintro i ⟨hi, hall⟩
  refine AW_of h110 TryT_ok (by kernel_rfl) ?_
  rcases Nat.lt_or_ge i a.length with h1 | h1
  · have h2 : i < b.length := by omega
    simp -dsimp [h1, h2, ne_of_lt h1, ne_of_lt h2]
    first | refine ⟨by omega, by omega, ?_⟩ | skip
    refine ACallK_of (f188_ok _ _) ?_
    simp -dsimp
    refine ⟨fun h e => h (by rw [e]), fun h => ?_⟩
    refine Back_of (i + 1) [0, 1, 5] [] rfl rfl (by simp; rw [wrap64 (by omega) (by omega)]) ⟨by omega, fun j hj => ?_⟩ (by omega)
    by_cases e : j = i
    · subst e; exact h
    · exact hall j (by omega)
  · simp -dsimp [Nat.not_lt.2 h1]
    exact list_eq_of_nth hl (fun j hj => hall j (by omega))

@[simp] def h180 : Hts := {  }
theorem f180_ok (a : GCell) : FnR Try.prog 180 [.agg [.str a.obj, .int .i64 a.dot.rep, .int .i64 a.dot.seq, .int .i64 a.time, .int .i64 a.ref.rep, .int .i64 a.ref.seq, .int .i64 a.val, .bool a.gone]] (.agg [.str a.obj, .int .i64 a.dot.rep, .int .i64 a.dot.seq, .int .i64 a.time, .int .i64 a.ref.rep, .int .i64 a.ref.seq, .int .i64 a.val, .bool a.gone]) := by
  refine FnW.of_AW TryT_ok 0 (fn := Try.f180) (by kernel_rfl) rfl (by kernel_rfl) rfl rfl rfl ?_
  refine AW_of h180 TryT_ok (by kernel_rfl) ?_
  simp -dsimp
  repeat' (first
    | (refine ACallK_of (f25_ok _) ?_; simp -dsimp)
    | refine And.intro ?_ ?_)

@[simp] def h100 : Hts := {  }
theorem f100_ok (a : List GCell) (ha : a.length ≤ 1073741824) : FnR Try.prog 100 [.v (.im a.length (flat a))] (.v (.ow 132 8 a.length (flat a))) := by
  refine FnW.of_AW TryT_ok 0 (fn := Try.f100) (by kernel_rfl) rfl (by kernel_rfl) rfl rfl rfl ?_
  refine AW_of h100 TryT_ok (by kernel_rfl) ?_
  simp -dsimp
  refine ⟨by simp [capMax]; omega, ?_⟩
  refine AWh_loop (fun i : Nat => i ≤ a.length) (fun i => mkE [(0, .c (.im a.length (flat a))), (3, .arr 448), (4, .c (.int .i64 i))] [(448, .arr 0 132 8 a.length (flat (a.take i ++ List.replicate (a.length - i) ⟨⟨#[]⟩, ⟨0, 0⟩, 0, ⟨0, 0⟩, 0, false⟩)))]) (fun i => a.length - i) 0 (Wk_to [0, 3, 4] [(448, 448)] rfl rfl (by simp)) (by simp) ?_
  rintro i hi
  refine AW_of h100 TryT_ok (by kernel_rfl) ?_
  rcases Nat.lt_or_ge i a.length with h1 | h1
  · have h2 : i < min i a.length + (a.length - i) := by omega
    simp -dsimp [h1, ne_of_lt h1, h2]
    first | refine ⟨by omega, ?_⟩ | skip
    refine ACallK_of (f180_ok _) ?_
    simp -dsimp [h1, h2]
    first | refine ⟨by omega, ?_⟩ | skip
    refine Back_of (i + 1) [0, 3, 4] [(448, 448)] rfl rfl ?_ (by omega) (by omega)
    simp -dsimp
    rw [wrap64 (by omega) (by omega), ← fill_step a ⟨⟨#[]⟩, ⟨0, 0⟩, 0, ⟨0, 0⟩, 0, false⟩ h1]
    try rfl
  · simp -dsimp [Nat.not_lt.2 h1]
    have : i = a.length := by omega
    subst this
    simp

@[simp] def h172 : Hts := {  }
theorem f172_ok (a : GCell) (l : Int) (hf : a.Fit) (h0 : 0 ≤ l) (h1 : l ≤ 1048576) : FnR Try.prog 172 [.agg [.str a.obj, .int .i64 a.dot.rep, .int .i64 a.dot.seq, .int .i64 a.time, .int .i64 a.ref.rep, .int .i64 a.ref.seq, .int .i64 a.val, .bool a.gone], .v (.int .i64 l)] (.v (.int .i64 (a.sz l))) := by
  simp only [GCell.Fit] at hf
  refine FnW.of_AW TryT_ok 0 (fn := Try.f172) (by kernel_rfl) rfl (by kernel_rfl) rfl rfl rfl ?_
  refine AW_of h172 TryT_ok (by kernel_rfl) ?_
  simp -dsimp
  rw [wrap64 (x := l - ↑a.obj.size) (by omega) (by omega)]
  refine ⟨fun n0 => ?_, fun p0 => ?_⟩
  · rw [GCell.sz, szq_neg n0]
  rw [GCell.sz, szq_go p0]

@[simp] def h89 : Hts := {  }
theorem f89_ok (a : List GCell) (l : Int) (ha : a.length ≤ 9223372036854775807) (hf : ∀ x, x ∈ a → x.Fit) (h0 : 0 ≤ l) (h1 : l ≤ 1048576) : FnR Try.prog 89 [.v (.im a.length (flat a)), .v (.int .i64 l)] (.v (.int .i64 (szS GCell.sz a l))) := by
  refine FnW.of_AW TryT_ok 0 (fn := Try.f89) (by kernel_rfl) rfl (by kernel_rfl) rfl rfl rfl ?_
  refine AW_of h89 TryT_ok (by kernel_rfl) ?_
  simp -dsimp
  rw [wrap64 (x := l - ↑a.length) (by omega) (by omega)]
  refine ⟨fun h => ?_, fun h => ?_⟩
  · rw [szS, szq_neg h]
  rw [szS, szq_go h]
  refine AWh_loop (fun s : Nat × Int => s.1 ≤ a.length ∧ 0 ≤ s.2 ∧ s.2 ≤ 1048576 ∧ szGo GCell.sz (a.drop s.1) s.2 = szGo GCell.sz a (l - a.length)) (fun s => mkE [(0, .c (.im a.length (flat a))), (1, .c (.int .i64 s.2)), (5, .c (.int .i64 s.1))] []) (fun s => a.length - s.1) (0, l - a.length) (Wk_to [0, 1, 5] [] rfl rfl (by simp)) ⟨by simp, h, by simp; omega, by simp⟩ ?_
  rintro ⟨i, m⟩ ⟨hi, hm0, hm1, hinv⟩
  simp only at hi hm0 hm1 hinv
  refine AW_of h89 TryT_ok (by kernel_rfl) ?_
  rcases Nat.lt_or_ge i a.length with h3 | h3
  · simp -dsimp [h3, ne_of_lt h3]
    first | refine ⟨by omega, ?_⟩ | skip
    refine ACallK_of (f172_ok _ _ (hf _ (nth_mem h3)) (by assumption) (by omega)) ?_
    simp -dsimp
    rw [szGo_drop h3] at hinv
    have hle := GCell.sz_le (nth a i) m hm0
    refine ⟨fun hn => ?_, fun hp => ?_⟩
    · rw [← hinv, szq_neg hn]
    · rw [szq_go hp] at hinv
      refine Back_of (i + 1, GCell.sz (nth a i) m) [0, 1, 5] [] rfl rfl (by simp; rw [wrap64 (by omega) (by omega)]) ⟨by simp; omega, hp, by simp; omega, hinv⟩ (by simp; omega)
  · have : i = a.length := by omega
    subst this
    simp -dsimp
    rw [← hinv, List.drop_of_length_le (Nat.le_refl _)]
    rfl

@[simp] def h143 : Hts := {  }
theorem f143_ok (a b : GAct) (h : a.Ok) : FnR Try.prog 143 [.agg [.int .i64 a.dot.rep, .int .i64 a.dot.seq, .int .i64 a.time, .im a.knew.length (flat a.knew), .int .i64 a.kind, .str a.obj, .str a.key, .int .i64 a.val, .int .i64 a.ref.rep, .int .i64 a.ref.seq], .agg [.int .i64 b.dot.rep, .int .i64 b.dot.seq, .int .i64 b.time, .im b.knew.length (flat b.knew), .int .i64 b.kind, .str b.obj, .str b.key, .int .i64 b.val, .int .i64 b.ref.rep, .int .i64 b.ref.seq]] (.v (.bool (decide (a = b)))) := by
  simp only [GAct.Ok] at h
  obtain ⟨o0, o1, o2⟩ := h
  refine FnW.of_AW TryT_ok 0 (fn := Try.f143) (by kernel_rfl) rfl (by kernel_rfl) rfl rfl rfl ?_
  refine AW_of h143 TryT_ok (by kernel_rfl) ?_
  simp -dsimp
  repeat' (first
    | (refine ACallK_of (f66_ok _ _) ?_; simp -dsimp)
    | (refine ACallK_of (f75_ok _ _ (by assumption)) ?_; simp -dsimp)
    | refine And.intro ?_ ?_
    | intro _)
  all_goals first | assumption | (apply GAct.ext <;> assumption) | (subst_vars; simp_all; done) | grind

@[simp] def h140 : Hts := {  }
theorem f140_ok (a : GAct) (h : a.Ok) : FnR Try.prog 140 [.agg [.int .i64 a.dot.rep, .int .i64 a.dot.seq, .int .i64 a.time, .im a.knew.length (flat a.knew), .int .i64 a.kind, .str a.obj, .str a.key, .int .i64 a.val, .int .i64 a.ref.rep, .int .i64 a.ref.seq]] (.agg [.int .i64 a.dot.rep, .int .i64 a.dot.seq, .int .i64 a.time, .ow 3 1 a.knew.length (flat a.knew), .int .i64 a.kind, .str a.obj, .str a.key, .int .i64 a.val, .int .i64 a.ref.rep, .int .i64 a.ref.seq]) := by
  simp only [GAct.Ok] at h
  obtain ⟨o0, o1, o2⟩ := h
  refine FnW.of_AW TryT_ok 0 (fn := Try.f140) (by kernel_rfl) rfl (by kernel_rfl) rfl rfl rfl ?_
  refine AW_of h140 TryT_ok (by kernel_rfl) ?_
  simp -dsimp
  repeat' (first
    | (refine ACallK_of (f25_ok _) ?_; simp -dsimp)
    | (refine ACallK_of (f96_ok _ (by assumption)) ?_; simp -dsimp)
    | refine And.intro ?_ ?_)

@[simp] def h137 : Hts := {  }
theorem f137_ok (a : GAct) (l : Int) (hf : a.Fit) (h0 : 0 ≤ l) (h1 : l ≤ 1048576) : FnR Try.prog 137 [.agg [.int .i64 a.dot.rep, .int .i64 a.dot.seq, .int .i64 a.time, .im a.knew.length (flat a.knew), .int .i64 a.kind, .str a.obj, .str a.key, .int .i64 a.val, .int .i64 a.ref.rep, .int .i64 a.ref.seq], .v (.int .i64 l)] (.v (.int .i64 (a.sz l))) := by
  simp only [GAct.Fit] at hf
  obtain ⟨o0, o1, o2⟩ := hf
  refine FnW.of_AW TryT_ok 0 (fn := Try.f137) (by kernel_rfl) rfl (by kernel_rfl) rfl rfl rfl ?_
  refine AW_of h137 TryT_ok (by kernel_rfl) ?_
  simp -dsimp
  refine ACallK_of (f85_ok _ _ (by assumption) (by assumption) (by omega)) ?_
  simp -dsimp
  have q0 := szLen_le a.knew _ h0
  refine ⟨fun n0 => ?_, fun p0 => ?_⟩
  · rw [GAct.sz, szq_neg n0]
  rw [wrap64 (x := szLen a.knew (l) - ↑a.obj.size) (by omega) (by omega)]
  refine ⟨fun n1 => ?_, fun p1 => ?_⟩
  · rw [GAct.sz, szq_go p0, szq_neg n1]
  rw [wrap64 (x := szLen a.knew (l) - ↑a.obj.size - ↑a.key.size) (by omega) (by omega)]
  refine ⟨fun n2 => ?_, fun p2 => ?_⟩
  · rw [GAct.sz, szq_go p0, szq_go p1, szq_neg n2]
  rw [GAct.sz, szq_go p0, szq_go p1, szq_go p2]

@[simp] def h41 : Hts := {  }
theorem f41_ok (a b : GState) (h : a.Ok) : FnR Try.prog 41 [.agg [.im a.know.length (flat a.know), .im a.tallies.length (flat a.tallies), .im a.lives.length (flat a.lives), .im a.cs.length (flat a.cs)], .agg [.im b.know.length (flat b.know), .im b.tallies.length (flat b.tallies), .im b.lives.length (flat b.lives), .im b.cs.length (flat b.cs)]] (.v (.bool (decide (a = b)))) := by
  simp only [GState.Ok] at h
  obtain ⟨o0, o1, o2, o3, o4, o5, o6⟩ := h
  refine FnW.of_AW TryT_ok 0 (fn := Try.f41) (by kernel_rfl) rfl (by kernel_rfl) rfl rfl rfl ?_
  refine AW_of h41 TryT_ok (by kernel_rfl) ?_
  simp -dsimp
  repeat' (first
    | (refine ACallK_of (f75_ok _ _ (by assumption)) ?_; simp -dsimp)
    | (refine ACallK_of (f108_ok _ _ (by assumption)) ?_; simp -dsimp)
    | (refine ACallK_of (f109_ok _ _ (by assumption)) ?_; simp -dsimp)
    | (refine ACallK_of (f110_ok _ _ (by assumption)) ?_; simp -dsimp)
    | refine And.intro ?_ ?_
    | intro _)
  all_goals first | assumption | (apply GState.ext <;> assumption) | (subst_vars; simp_all; done) | grind

@[simp] def h39 : Hts := {  }
theorem f39_ok (a : GState) (h : a.Ok) : FnR Try.prog 39 [.agg [.im a.know.length (flat a.know), .im a.tallies.length (flat a.tallies), .im a.lives.length (flat a.lives), .im a.cs.length (flat a.cs)]] (.agg [.ow 3 1 a.know.length (flat a.know), .ow 198 3 a.tallies.length (flat a.tallies), .ow 130 6 a.lives.length (flat a.lives), .ow 132 8 a.cs.length (flat a.cs)]) := by
  simp only [GState.Ok] at h
  obtain ⟨o0, o1, o2, o3, o4, o5, o6⟩ := h
  refine FnW.of_AW TryT_ok 0 (fn := Try.f39) (by kernel_rfl) rfl (by kernel_rfl) rfl rfl rfl ?_
  refine AW_of h39 TryT_ok (by kernel_rfl) ?_
  simp -dsimp
  repeat' (first
    | (refine ACallK_of (f96_ok _ (by assumption)) ?_; simp -dsimp)
    | (refine ACallK_of (f97_ok _ (by assumption)) ?_; simp -dsimp)
    | (refine ACallK_of (f98_ok _ (by assumption)) ?_; simp -dsimp)
    | (refine ACallK_of (f100_ok _ (by assumption)) ?_; simp -dsimp)
    | refine And.intro ?_ ?_)

@[simp] def h37 : Hts := {  }
theorem f37_ok (a : GState) (l : Int) (hf : a.Fit) (h0 : 0 ≤ l) (h1 : l ≤ 1048576) : FnR Try.prog 37 [.agg [.im a.know.length (flat a.know), .im a.tallies.length (flat a.tallies), .im a.lives.length (flat a.lives), .im a.cs.length (flat a.cs)], .v (.int .i64 l)] (.v (.int .i64 (a.sz l))) := by
  simp only [GState.Fit] at hf
  obtain ⟨o0, o1, o2, o3, o4, o5, o6⟩ := hf
  refine FnW.of_AW TryT_ok 0 (fn := Try.f37) (by kernel_rfl) rfl (by kernel_rfl) rfl rfl rfl ?_
  refine AW_of h37 TryT_ok (by kernel_rfl) ?_
  simp -dsimp
  refine ACallK_of (f85_ok _ _ (by assumption) (by assumption) (by omega)) ?_
  simp -dsimp
  have q0 := szLen_le a.know _ h0
  refine ⟨fun n0 => ?_, fun p0 => ?_⟩
  · rw [GState.sz, szq_neg n0]
  refine ACallK_of (f86_ok _ _ (by assumption) (by assumption) (by assumption) (by omega)) ?_
  simp -dsimp
  have q1 := szS_le GTally.sz_le a.tallies _ p0
  refine ⟨fun n1 => ?_, fun p1 => ?_⟩
  · rw [GState.sz, szq_go p0, szq_neg n1]
  refine ACallK_of (f87_ok _ _ (by assumption) (by assumption) (by assumption) (by omega)) ?_
  simp -dsimp
  have q2 := szS_le GLive.sz_le a.lives _ p1
  refine ⟨fun n2 => ?_, fun p2 => ?_⟩
  · rw [GState.sz, szq_go p0, szq_go p1, szq_neg n2]
  refine ACallK_of (f89_ok _ _ (by assumption) (by assumption) (by assumption) (by omega)) ?_
  simp -dsimp
  have q3 := szS_le GCell.sz_le a.cs _ p2
  refine ⟨fun n3 => ?_, fun p3 => ?_⟩
  · rw [GState.sz, szq_go p0, szq_go p1, szq_go p2, szq_neg n3]
  rw [GState.sz, szq_go p0, szq_go p1, szq_go p2, szq_go p3]

@[simp] def h31 : Hts := {  }
theorem f31_ok (a b : GDelta) (h : a.Ok) : FnR Try.prog 31 [.agg [.im a.base.length (flat a.base), .im a.know.length (flat a.know), .im a.tallies.length (flat a.tallies), .im a.lives.length (flat a.lives), .im a.dead.length (flat a.dead), .im a.cs.length (flat a.cs)], .agg [.im b.base.length (flat b.base), .im b.know.length (flat b.know), .im b.tallies.length (flat b.tallies), .im b.lives.length (flat b.lives), .im b.dead.length (flat b.dead), .im b.cs.length (flat b.cs)]] (.v (.bool (decide (a = b)))) := by
  simp only [GDelta.Ok] at h
  obtain ⟨o0, o1, o2, o3, o4, o5, o6, o7, o8⟩ := h
  refine FnW.of_AW TryT_ok 0 (fn := Try.f31) (by kernel_rfl) rfl (by kernel_rfl) rfl rfl rfl ?_
  refine AW_of h31 TryT_ok (by kernel_rfl) ?_
  simp -dsimp
  repeat' (first
    | (refine ACallK_of (f75_ok _ _ (by assumption)) ?_; simp -dsimp)
    | (refine ACallK_of (f108_ok _ _ (by assumption)) ?_; simp -dsimp)
    | (refine ACallK_of (f109_ok _ _ (by assumption)) ?_; simp -dsimp)
    | (refine ACallK_of (f56_ok _ _ (by assumption)) ?_; simp -dsimp)
    | (refine ACallK_of (f110_ok _ _ (by assumption)) ?_; simp -dsimp)
    | refine And.intro ?_ ?_
    | intro _)
  all_goals first | assumption | (apply GDelta.ext <;> assumption) | (subst_vars; simp_all; done) | grind

@[simp] def h29 : Hts := {  }
theorem f29_ok (a : GDelta) (h : a.Ok) : FnR Try.prog 29 [.agg [.im a.base.length (flat a.base), .im a.know.length (flat a.know), .im a.tallies.length (flat a.tallies), .im a.lives.length (flat a.lives), .im a.dead.length (flat a.dead), .im a.cs.length (flat a.cs)]] (.agg [.ow 3 1 a.base.length (flat a.base), .ow 3 1 a.know.length (flat a.know), .ow 198 3 a.tallies.length (flat a.tallies), .ow 130 6 a.lives.length (flat a.lives), .ow 37 2 a.dead.length (flat a.dead), .ow 132 8 a.cs.length (flat a.cs)]) := by
  simp only [GDelta.Ok] at h
  obtain ⟨o0, o1, o2, o3, o4, o5, o6, o7, o8⟩ := h
  refine FnW.of_AW TryT_ok 0 (fn := Try.f29) (by kernel_rfl) rfl (by kernel_rfl) rfl rfl rfl ?_
  refine AW_of h29 TryT_ok (by kernel_rfl) ?_
  simp -dsimp
  repeat' (first
    | (refine ACallK_of (f96_ok _ (by assumption)) ?_; simp -dsimp)
    | (refine ACallK_of (f97_ok _ (by assumption)) ?_; simp -dsimp)
    | (refine ACallK_of (f98_ok _ (by assumption)) ?_; simp -dsimp)
    | (refine ACallK_of (f99_ok _ (by assumption)) ?_; simp -dsimp)
    | (refine ACallK_of (f100_ok _ (by assumption)) ?_; simp -dsimp)
    | refine And.intro ?_ ?_)

@[simp] def h27 : Hts := {  }
theorem f27_ok (a : GDelta) (l : Int) (hf : a.Fit) (h0 : 0 ≤ l) (h1 : l ≤ 1048576) : FnR Try.prog 27 [.agg [.im a.base.length (flat a.base), .im a.know.length (flat a.know), .im a.tallies.length (flat a.tallies), .im a.lives.length (flat a.lives), .im a.dead.length (flat a.dead), .im a.cs.length (flat a.cs)], .v (.int .i64 l)] (.v (.int .i64 (a.sz l))) := by
  simp only [GDelta.Fit] at hf
  obtain ⟨o0, o1, o2, o3, o4, o5, o6, o7, o8⟩ := hf
  refine FnW.of_AW TryT_ok 0 (fn := Try.f27) (by kernel_rfl) rfl (by kernel_rfl) rfl rfl rfl ?_
  refine AW_of h27 TryT_ok (by kernel_rfl) ?_
  simp -dsimp
  refine ACallK_of (f85_ok _ _ (by assumption) (by assumption) (by omega)) ?_
  simp -dsimp
  have q0 := szLen_le a.base _ h0
  refine ⟨fun n0 => ?_, fun p0 => ?_⟩
  · rw [GDelta.sz, szq_neg n0]
  refine ACallK_of (f85_ok _ _ (by assumption) (by assumption) (by omega)) ?_
  simp -dsimp
  have q1 := szLen_le a.know _ p0
  refine ⟨fun n1 => ?_, fun p1 => ?_⟩
  · rw [GDelta.sz, szq_go p0, szq_neg n1]
  refine ACallK_of (f86_ok _ _ (by assumption) (by assumption) (by assumption) (by omega)) ?_
  simp -dsimp
  have q2 := szS_le GTally.sz_le a.tallies _ p1
  refine ⟨fun n2 => ?_, fun p2 => ?_⟩
  · rw [GDelta.sz, szq_go p0, szq_go p1, szq_neg n2]
  refine ACallK_of (f87_ok _ _ (by assumption) (by assumption) (by assumption) (by omega)) ?_
  simp -dsimp
  have q3 := szS_le GLive.sz_le a.lives _ p2
  refine ⟨fun n3 => ?_, fun p3 => ?_⟩
  · rw [GDelta.sz, szq_go p0, szq_go p1, szq_go p2, szq_neg n3]
  refine ACallK_of (f88_ok _ _ (by assumption) (by assumption) (by omega)) ?_
  simp -dsimp
  have q4 := szLen_le a.dead _ p3
  refine ⟨fun n4 => ?_, fun p4 => ?_⟩
  · rw [GDelta.sz, szq_go p0, szq_go p1, szq_go p2, szq_go p3, szq_neg n4]
  refine ACallK_of (f89_ok _ _ (by assumption) (by assumption) (by assumption) (by omega)) ?_
  simp -dsimp
  have q5 := szS_le GCell.sz_le a.cs _ p4
  refine ⟨fun n5 => ?_, fun p5 => ?_⟩
  · rw [GDelta.sz, szq_go p0, szq_go p1, szq_go p2, szq_go p3, szq_go p4, szq_neg n5]
  rw [GDelta.sz, szq_go p0, szq_go p1, szq_go p2, szq_go p3, szq_go p4, szq_go p5]

@[simp] def h167 : Hts := {  }
theorem f167_ok (a b : GCommit) (h : a.Ok) : FnR Try.prog 167 [.agg [.int .i64 a.id.rep, .int .i64 a.id.seq, .im a.ups.length (flat a.ups), .im a.state.know.length (flat a.state.know), .im a.state.tallies.length (flat a.state.tallies), .im a.state.lives.length (flat a.state.lives), .im a.state.cs.length (flat a.state.cs)], .agg [.int .i64 b.id.rep, .int .i64 b.id.seq, .im b.ups.length (flat b.ups), .im b.state.know.length (flat b.state.know), .im b.state.tallies.length (flat b.state.tallies), .im b.state.lives.length (flat b.state.lives), .im b.state.cs.length (flat b.state.cs)]] (.v (.bool (decide (a = b)))) := by
  simp only [GCommit.Ok] at h
  obtain ⟨o0, o1⟩ := h
  refine FnW.of_AW TryT_ok 0 (fn := Try.f167) (by kernel_rfl) rfl (by kernel_rfl) rfl rfl rfl ?_
  refine AW_of h167 TryT_ok (by kernel_rfl) ?_
  simp -dsimp
  repeat' (first
    | (refine ACallK_of (f66_ok _ _) ?_; simp -dsimp)
    | (refine ACallK_of (f75_ok _ _ (by assumption)) ?_; simp -dsimp)
    | (refine ACallK_of (f41_ok _ _ (by assumption)) ?_; simp -dsimp)
    | refine And.intro ?_ ?_
    | intro _)
  all_goals first | assumption | (apply GCommit.ext <;> assumption) | (subst_vars; simp_all; done) | grind

@[simp] def h78 : Hts := { dr := fun id => if id = 6 then [{}, {}, {}, {}, {}, {}, {}, {}, { cr := true }, {}] else [] }
theorem f78_ok (a b : List GCommit) (ha : a.length ≤ 1073741824) (he : ∀ x, x ∈ a → x.Ok) : FnR Try.prog 78 [.v (.im a.length (flat a)), .v (.im b.length (flat b))] (.v (.bool (decide (a = b)))) := by
  refine FnW.of_AW TryT_ok 0 (fn := Try.f78) (by kernel_rfl) rfl (by kernel_rfl) rfl rfl rfl ?_
  refine AW_of h78 TryT_ok (by kernel_rfl) ?_
  simp -dsimp
  refine ⟨fun h e => h (by rw [e]), fun hl => ?_⟩
  replace hl : a.length = b.length := by omega
  refine AWh_loop (fun i : Nat => i ≤ a.length ∧ ∀ j : Nat, j < i → nth a j = nth b j) (fun i => mkE [(0, .c (.im a.length (flat a))), (1, .c (.im b.length (flat b))), (5, .c (.int .i64 i))] []) (fun i => a.length - i) 0 (Wk_to [0, 1, 5] [] rfl rfl (by simp)) (by simp) ?_
  rintro i ⟨hi, hall⟩
  refine AW_of h78 TryT_ok (by kernel_rfl) ?_
  rcases Nat.lt_or_ge i a.length with h1 | h1
  · have h2 : i < b.length := by omega
    simp -dsimp [h1, h2, ne_of_lt h1, ne_of_lt h2]
    first | refine ⟨by omega, by omega, ?_⟩ | skip
    refine ACallK_of (f167_ok _ _ (he _ (nth_mem h1))) ?_
    simp -dsimp
    refine ⟨fun h e => h (by rw [e]), fun h => ?_⟩
    refine Back_of (i + 1) [0, 1, 5] [] rfl rfl (by simp; rw [wrap64 (by omega) (by omega)]) ⟨by omega, fun j hj => ?_⟩ (by omega)
    by_cases e : j = i
    · subst e; exact h
    · exact hall j (by omega)
  · simp -dsimp [Nat.not_lt.2 h1]
    exact list_eq_of_nth hl (fun j hj => hall j (by omega))

@[simp] def h169 : Hts := {  }
theorem f169_ok (a : GCommit) (h : a.Ok) : FnR Try.prog 169 [.agg [.int .i64 a.id.rep, .int .i64 a.id.seq, .im a.ups.length (flat a.ups), .im a.state.know.length (flat a.state.know), .im a.state.tallies.length (flat a.state.tallies), .im a.state.lives.length (flat a.state.lives), .im a.state.cs.length (flat a.state.cs)]] (.agg [.int .i64 a.id.rep, .int .i64 a.id.seq, .ow 3 1 a.ups.length (flat a.ups), .ow 3 1 a.state.know.length (flat a.state.know), .ow 198 3 a.state.tallies.length (flat a.state.tallies), .ow 130 6 a.state.lives.length (flat a.state.lives), .ow 132 8 a.state.cs.length (flat a.state.cs)]) := by
  simp only [GCommit.Ok] at h
  obtain ⟨o0, o1⟩ := h
  refine FnW.of_AW TryT_ok 0 (fn := Try.f169) (by kernel_rfl) rfl (by kernel_rfl) rfl rfl rfl ?_
  refine AW_of h169 TryT_ok (by kernel_rfl) ?_
  simp -dsimp
  repeat' (first
    | (refine ACallK_of (f25_ok _) ?_; simp -dsimp)
    | (refine ACallK_of (f96_ok _ (by assumption)) ?_; simp -dsimp)
    | (refine ACallK_of (f39_ok _ (by assumption)) ?_; simp -dsimp)
    | refine And.intro ?_ ?_)

@[simp] def h82 : Hts := {  }
theorem f82_ok (a : List GCommit) (ha : a.length ≤ 1073741824) (he : ∀ x, x ∈ a → x.Ok) : FnR Try.prog 82 [.v (.im a.length (flat a))] (.v (.ow 116 7 a.length (flatO a))) := by
  refine FnW.of_AW TryT_ok 0 (fn := Try.f82) (by kernel_rfl) rfl (by kernel_rfl) rfl rfl rfl ?_
  refine AW_of h82 TryT_ok (by kernel_rfl) ?_
  simp -dsimp
  refine ⟨by simp [capMax]; omega, ?_⟩
  refine AWh_loop (fun i : Nat => i ≤ a.length) (fun i => mkE [(0, .c (.im a.length (flat a))), (3, .arr 448), (4, .c (.int .i64 i))] [(448, .arr 0 116 7 a.length (flatO (a.take i) ++ flat (List.replicate (a.length - i) (⟨⟨0, 0⟩, [], ⟨[], [], [], []⟩⟩ : GCommit))))]) (fun i => a.length - i) 0 (Wk_to [0, 3, 4] [(448, 448)] rfl rfl (by simp [commit_rep, flatO_nil])) (by simp) ?_
  rintro i hi
  refine AW_of h82 TryT_ok (by kernel_rfl) ?_
  rcases Nat.lt_or_ge i a.length with h1 | h1
  · have hs : a.take (i + 1) = a.take i ++ [nth a i] := by rw [List.take_add_one, List.getElem?_eq_getElem h1, nth_eq h1]; rfl
    simp -dsimp [h1, ne_of_lt h1]
    first | refine ⟨by omega, ?_⟩ | skip
    refine ACallK_of (f169_ok _ (he _ (nth_mem h1))) ?_
    simp -dsimp [h1]
    first | refine ⟨by omega, ?_⟩ | skip
    refine Back_of (i + 1) [0, 3, 4] [(448, 448)] rfl rfl ?_ (by omega) (by omega)
    simp -dsimp
    rw [wrap64 (by omega) (by omega), hs]
  · simp -dsimp [Nat.not_lt.2 h1]
    have : i = a.length := by omega
    subst this
    simp

@[simp] def h168 : Hts := {  }
theorem f168_ok (a : GCommit) (l : Int) (hf : a.Fit) (h0 : 0 ≤ l) (h1 : l ≤ 1048576) : FnR Try.prog 168 [.agg [.int .i64 a.id.rep, .int .i64 a.id.seq, .im a.ups.length (flat a.ups), .im a.state.know.length (flat a.state.know), .im a.state.tallies.length (flat a.state.tallies), .im a.state.lives.length (flat a.state.lives), .im a.state.cs.length (flat a.state.cs)], .v (.int .i64 l)] (.v (.int .i64 (a.sz l))) := by
  simp only [GCommit.Fit] at hf
  obtain ⟨o0, o1⟩ := hf
  refine FnW.of_AW TryT_ok 0 (fn := Try.f168) (by kernel_rfl) rfl (by kernel_rfl) rfl rfl rfl ?_
  refine AW_of h168 TryT_ok (by kernel_rfl) ?_
  simp -dsimp
  refine ACallK_of (f85_ok _ _ (by assumption) (by assumption) (by omega)) ?_
  simp -dsimp
  have q0 := szLen_le a.ups _ h0
  refine ⟨fun n0 => ?_, fun p0 => ?_⟩
  · rw [GCommit.sz, szq_neg n0]
  refine ACallK_of (f37_ok _ _ (by assumption) (by assumption) (by omega)) ?_
  simp -dsimp
  have q1 := GState.sz_le a.state _ p0
  refine ⟨fun n1 => ?_, fun p1 => ?_⟩
  · rw [GCommit.sz, szq_go p0, szq_neg n1]
  rw [GCommit.sz, szq_go p0, szq_go p1]

@[simp] def h81 : Hts := {  }
theorem f81_ok (a : List GCommit) (l : Int) (ha : a.length ≤ 9223372036854775807) (hf : ∀ x, x ∈ a → x.Fit) (h0 : 0 ≤ l) (h1 : l ≤ 1048576) : FnR Try.prog 81 [.v (.im a.length (flat a)), .v (.int .i64 l)] (.v (.int .i64 (szS GCommit.sz a l))) := by
  refine FnW.of_AW TryT_ok 0 (fn := Try.f81) (by kernel_rfl) rfl (by kernel_rfl) rfl rfl rfl ?_
  refine AW_of h81 TryT_ok (by kernel_rfl) ?_
  simp -dsimp
  rw [wrap64 (x := l - ↑a.length) (by omega) (by omega)]
  refine ⟨fun h => ?_, fun h => ?_⟩
  · rw [szS, szq_neg h]
  rw [szS, szq_go h]
  refine AWh_loop (fun s : Nat × Int => s.1 ≤ a.length ∧ 0 ≤ s.2 ∧ s.2 ≤ 1048576 ∧ szGo GCommit.sz (a.drop s.1) s.2 = szGo GCommit.sz a (l - a.length)) (fun s => mkE [(0, .c (.im a.length (flat a))), (1, .c (.int .i64 s.2)), (5, .c (.int .i64 s.1))] []) (fun s => a.length - s.1) (0, l - a.length) (Wk_to [0, 1, 5] [] rfl rfl (by simp)) ⟨by simp, h, by simp; omega, by simp⟩ ?_
  rintro ⟨i, m⟩ ⟨hi, hm0, hm1, hinv⟩
  simp only at hi hm0 hm1 hinv
  refine AW_of h81 TryT_ok (by kernel_rfl) ?_
  rcases Nat.lt_or_ge i a.length with h3 | h3
  · simp -dsimp [h3, ne_of_lt h3]
    first | refine ⟨by omega, ?_⟩ | skip
    refine ACallK_of (f168_ok _ _ (hf _ (nth_mem h3)) (by assumption) (by omega)) ?_
    simp -dsimp
    rw [szGo_drop h3] at hinv
    have hle := GCommit.sz_le (nth a i) m hm0
    refine ⟨fun hn => ?_, fun hp => ?_⟩
    · rw [← hinv, szq_neg hn]
    · rw [szq_go hp] at hinv
      refine Back_of (i + 1, GCommit.sz (nth a i) m) [0, 1, 5] [] rfl rfl (by simp; rw [wrap64 (by omega) (by omega)]) ⟨by simp; omega, hp, by simp; omega, hinv⟩ (by simp; omega)
  · have : i = a.length := by omega
    subst this
    simp -dsimp
    rw [← hinv, List.drop_of_length_le (Nat.le_refl _)]
    rfl

@[simp] def h19 : Hts := {  }
theorem f19_ok (a b : GGraph) (h : a.Ok) : FnR Try.prog 19 [.agg [.im a.commits.length (flat a.commits), .int .i64 a.head], .agg [.im b.commits.length (flat b.commits), .int .i64 b.head]] (.v (.bool (decide (a = b)))) := by
  simp only [GGraph.Ok] at h
  obtain ⟨o0, o1⟩ := h
  refine FnW.of_AW TryT_ok 0 (fn := Try.f19) (by kernel_rfl) rfl (by kernel_rfl) rfl rfl rfl ?_
  refine AW_of h19 TryT_ok (by kernel_rfl) ?_
  simp -dsimp
  repeat' (first
    | (refine ACallK_of (f78_ok _ _ (by assumption) (by assumption)) ?_; simp -dsimp)
    | refine And.intro ?_ ?_
    | intro _)
  all_goals first | assumption | (apply GGraph.ext <;> assumption) | (subst_vars; simp_all; done) | grind

@[simp] def h24 : Hts := {  }
theorem f24_ok (a : GGraph) (h : a.Ok) : FnR Try.prog 24 [.agg [.im a.commits.length (flat a.commits), .int .i64 a.head]] (.agg [.ow 116 7 a.commits.length (flatO a.commits), .int .i64 a.head]) := by
  simp only [GGraph.Ok] at h
  obtain ⟨o0, o1⟩ := h
  refine FnW.of_AW TryT_ok 0 (fn := Try.f24) (by kernel_rfl) rfl (by kernel_rfl) rfl rfl rfl ?_
  refine AW_of h24 TryT_ok (by kernel_rfl) ?_
  simp -dsimp
  repeat' (first
    | (refine ACallK_of (f82_ok _ (by assumption) (by assumption)) ?_; simp -dsimp)
    | refine And.intro ?_ ?_)

@[simp] def h22 : Hts := {  }
theorem f22_ok (a : GGraph) (l : Int) (hf : a.Fit) (h0 : 0 ≤ l) (h1 : l ≤ 1048576) : FnR Try.prog 22 [.agg [.im a.commits.length (flat a.commits), .int .i64 a.head], .v (.int .i64 l)] (.v (.int .i64 (a.sz l))) := by
  simp only [GGraph.Fit] at hf
  obtain ⟨o0, o1⟩ := hf
  refine FnW.of_AW TryT_ok 0 (fn := Try.f22) (by kernel_rfl) rfl (by kernel_rfl) rfl rfl rfl ?_
  refine AW_of h22 TryT_ok (by kernel_rfl) ?_
  simp -dsimp
  refine ACallK_of (f81_ok _ _ (by assumption) (by assumption) (by assumption) (by omega)) ?_
  simp -dsimp
  have q0 := szS_le GCommit.sz_le a.commits _ h0
  refine ⟨fun n0 => ?_, fun p0 => ?_⟩
  · rw [GGraph.sz, szq_neg n0]
  rw [GGraph.sz, szq_go p0]

@[simp] def h57 : Hts := {  }
theorem f57_ok (a b : GUnit) (h : a.Ok) : FnR Try.prog 57 [.agg [.bool a.batch, .int .i64 a.act.dot.rep, .int .i64 a.act.dot.seq, .int .i64 a.act.time, .im a.act.knew.length (flat a.act.knew), .int .i64 a.act.kind, .str a.act.obj, .str a.act.key, .int .i64 a.act.val, .int .i64 a.act.ref.rep, .int .i64 a.act.ref.seq, .im a.delta.base.length (flat a.delta.base), .im a.delta.know.length (flat a.delta.know), .im a.delta.tallies.length (flat a.delta.tallies), .im a.delta.lives.length (flat a.delta.lives), .im a.delta.dead.length (flat a.delta.dead), .im a.delta.cs.length (flat a.delta.cs)], .agg [.bool b.batch, .int .i64 b.act.dot.rep, .int .i64 b.act.dot.seq, .int .i64 b.act.time, .im b.act.knew.length (flat b.act.knew), .int .i64 b.act.kind, .str b.act.obj, .str b.act.key, .int .i64 b.act.val, .int .i64 b.act.ref.rep, .int .i64 b.act.ref.seq, .im b.delta.base.length (flat b.delta.base), .im b.delta.know.length (flat b.delta.know), .im b.delta.tallies.length (flat b.delta.tallies), .im b.delta.lives.length (flat b.delta.lives), .im b.delta.dead.length (flat b.delta.dead), .im b.delta.cs.length (flat b.delta.cs)]] (.v (.bool (decide (a = b)))) := by
  simp only [GUnit.Ok] at h
  obtain ⟨o0, o1⟩ := h
  refine FnW.of_AW TryT_ok 0 (fn := Try.f57) (by kernel_rfl) rfl (by kernel_rfl) rfl rfl rfl ?_
  refine AW_of h57 TryT_ok (by kernel_rfl) ?_
  simp -dsimp
  repeat' (first
    | (refine ACallK_of (f143_ok _ _ (by assumption)) ?_; simp -dsimp)
    | (refine ACallK_of (f31_ok _ _ (by assumption)) ?_; simp -dsimp)
    | refine And.intro ?_ ?_
    | intro _)
  all_goals first | assumption | (apply GUnit.ext <;> assumption) | (subst_vars; simp_all; done) | grind

@[simp] def h113 : Hts := { dr := fun id => if id = 6 then [{}, {}, {}, {}, {}, {}, {}, {}, { cr := true }, {}] else [] }
theorem f113_ok (a b : List GUnit) (ha : a.length ≤ 1073741824) (he : ∀ x, x ∈ a → x.Ok) : FnR Try.prog 113 [.v (.im a.length (flat a)), .v (.im b.length (flat b))] (.v (.bool (decide (a = b)))) := by
  refine FnW.of_AW TryT_ok 0 (fn := Try.f113) (by kernel_rfl) rfl (by kernel_rfl) rfl rfl rfl ?_
  refine AW_of h113 TryT_ok (by kernel_rfl) ?_
  simp -dsimp
  refine ⟨fun h e => h (by rw [e]), fun hl => ?_⟩
  replace hl : a.length = b.length := by omega
  refine AWh_loop (fun i : Nat => i ≤ a.length ∧ ∀ j : Nat, j < i → nth a j = nth b j) (fun i => mkE [(0, .c (.im a.length (flat a))), (1, .c (.im b.length (flat b))), (5, .c (.int .i64 i))] []) (fun i => a.length - i) 0 (Wk_to [0, 1, 5] [] rfl rfl (by simp)) (by simp) ?_
  rintro i ⟨hi, hall⟩
  refine AW_of h113 TryT_ok (by kernel_rfl) ?_
  rcases Nat.lt_or_ge i a.length with h1 | h1
  · have h2 : i < b.length := by omega
    simp -dsimp [h1, h2, ne_of_lt h1, ne_of_lt h2]
    first | refine ⟨by omega, by omega, ?_⟩ | skip
    refine ACallK_of (f57_ok _ _ (he _ (nth_mem h1))) ?_
    simp -dsimp
    refine ⟨fun h e => h (by rw [e]), fun h => ?_⟩
    refine Back_of (i + 1) [0, 1, 5] [] rfl rfl (by simp; rw [wrap64 (by omega) (by omega)]) ⟨by omega, fun j hj => ?_⟩ (by omega)
    by_cases e : j = i
    · subst e; exact h
    · exact hall j (by omega)
  · simp -dsimp [Nat.not_lt.2 h1]
    exact list_eq_of_nth hl (fun j hj => hall j (by omega))

@[simp] def h54 : Hts := {  }
theorem f54_ok (a : GUnit) (h : a.Ok) : FnR Try.prog 54 [.agg [.bool a.batch, .int .i64 a.act.dot.rep, .int .i64 a.act.dot.seq, .int .i64 a.act.time, .im a.act.knew.length (flat a.act.knew), .int .i64 a.act.kind, .str a.act.obj, .str a.act.key, .int .i64 a.act.val, .int .i64 a.act.ref.rep, .int .i64 a.act.ref.seq, .im a.delta.base.length (flat a.delta.base), .im a.delta.know.length (flat a.delta.know), .im a.delta.tallies.length (flat a.delta.tallies), .im a.delta.lives.length (flat a.delta.lives), .im a.delta.dead.length (flat a.delta.dead), .im a.delta.cs.length (flat a.delta.cs)]] (.agg [.bool a.batch, .int .i64 a.act.dot.rep, .int .i64 a.act.dot.seq, .int .i64 a.act.time, .ow 3 1 a.act.knew.length (flat a.act.knew), .int .i64 a.act.kind, .str a.act.obj, .str a.act.key, .int .i64 a.act.val, .int .i64 a.act.ref.rep, .int .i64 a.act.ref.seq, .ow 3 1 a.delta.base.length (flat a.delta.base), .ow 3 1 a.delta.know.length (flat a.delta.know), .ow 198 3 a.delta.tallies.length (flat a.delta.tallies), .ow 130 6 a.delta.lives.length (flat a.delta.lives), .ow 37 2 a.delta.dead.length (flat a.delta.dead), .ow 132 8 a.delta.cs.length (flat a.delta.cs)]) := by
  simp only [GUnit.Ok] at h
  obtain ⟨o0, o1⟩ := h
  refine FnW.of_AW TryT_ok 0 (fn := Try.f54) (by kernel_rfl) rfl (by kernel_rfl) rfl rfl rfl ?_
  refine AW_of h54 TryT_ok (by kernel_rfl) ?_
  simp -dsimp
  repeat' (first
    | (refine ACallK_of (f140_ok _ (by assumption)) ?_; simp -dsimp)
    | (refine ACallK_of (f29_ok _ (by assumption)) ?_; simp -dsimp)
    | refine And.intro ?_ ?_)

@[simp] def h52 : Hts := {  }
theorem f52_ok (a : GUnit) (l : Int) (hf : a.Fit) (h0 : 0 ≤ l) (h1 : l ≤ 1048576) : FnR Try.prog 52 [.agg [.bool a.batch, .int .i64 a.act.dot.rep, .int .i64 a.act.dot.seq, .int .i64 a.act.time, .im a.act.knew.length (flat a.act.knew), .int .i64 a.act.kind, .str a.act.obj, .str a.act.key, .int .i64 a.act.val, .int .i64 a.act.ref.rep, .int .i64 a.act.ref.seq, .im a.delta.base.length (flat a.delta.base), .im a.delta.know.length (flat a.delta.know), .im a.delta.tallies.length (flat a.delta.tallies), .im a.delta.lives.length (flat a.delta.lives), .im a.delta.dead.length (flat a.delta.dead), .im a.delta.cs.length (flat a.delta.cs)], .v (.int .i64 l)] (.v (.int .i64 (a.sz l))) := by
  simp only [GUnit.Fit] at hf
  obtain ⟨o0, o1⟩ := hf
  refine FnW.of_AW TryT_ok 0 (fn := Try.f52) (by kernel_rfl) rfl (by kernel_rfl) rfl rfl rfl ?_
  refine AW_of h52 TryT_ok (by kernel_rfl) ?_
  simp -dsimp
  refine ACallK_of (f137_ok _ _ (by assumption) (by assumption) (by omega)) ?_
  simp -dsimp
  have q0 := GAct.sz_le a.act _ h0
  refine ⟨fun n0 => ?_, fun p0 => ?_⟩
  · rw [GUnit.sz, szq_neg n0]
  refine ACallK_of (f27_ok _ _ (by assumption) (by assumption) (by omega)) ?_
  simp -dsimp
  have q1 := GDelta.sz_le a.delta _ p0
  refine ⟨fun n1 => ?_, fun p1 => ?_⟩
  · rw [GUnit.sz, szq_go p0, szq_neg n1]
  rw [GUnit.sz, szq_go p0, szq_go p1]

@[simp] def h34 : Hts := {  }
theorem f34_ok (a b : GLog) (h : a.Ok) : FnR Try.prog 34 [.agg [.int .i64 a.rep, .int .i64 a.time, .im a.state.know.length (flat a.state.know), .im a.state.tallies.length (flat a.state.tallies), .im a.state.lives.length (flat a.state.lives), .im a.state.cs.length (flat a.state.cs), .im a.units.length (flat a.units), .im a.waits.length (flat a.waits)], .agg [.int .i64 b.rep, .int .i64 b.time, .im b.state.know.length (flat b.state.know), .im b.state.tallies.length (flat b.state.tallies), .im b.state.lives.length (flat b.state.lives), .im b.state.cs.length (flat b.state.cs), .im b.units.length (flat b.units), .im b.waits.length (flat b.waits)]] (.v (.bool (decide (a = b)))) := by
  simp only [GLog.Ok] at h
  obtain ⟨o0, o1, o2, o3, o4⟩ := h
  refine FnW.of_AW TryT_ok 0 (fn := Try.f34) (by kernel_rfl) rfl (by kernel_rfl) rfl rfl rfl ?_
  refine AW_of h34 TryT_ok (by kernel_rfl) ?_
  simp -dsimp
  repeat' (first
    | (refine ACallK_of (f41_ok _ _ (by assumption)) ?_; simp -dsimp)
    | (refine ACallK_of (f113_ok _ _ (by assumption) (by assumption)) ?_; simp -dsimp)
    | refine And.intro ?_ ?_
    | intro _)
  all_goals first | assumption | (apply GLog.ext <;> assumption) | (subst_vars; simp_all; done) | grind
end Am
