/- The law harness: what is alike, what is copied, how large it is. No condition. -/
import Derived.Test.YtkndgnnfgdfcbaaT
import Derived.Test.YtkndgnnfgdfcbaaD
namespace Am
open Go Go.Proofs
open Cel (cells)
set_option maxRecDepth 100000
set_option maxHeartbeats 4000000
set_option linter.unusedSimpArgs false
set_option linter.unusedVariables false

@[simp] def h48 : Hts := { dr := fun id => if id = 6 then [{}, {}, {}, {}, {}, {}, {}, {}, {}] else [] }
theorem f48_ok (a b : List Int) (ha : a.length ≤ 1073741824) : FnR Try.prog 48 [.v (.im a.length (flat a)), .v (.im b.length (flat b))] (.v (.bool (decide (a = b)))) := by
  refine FnW.of_AW TryT_ok 0 (fn := Try.f48) (by kernel_rfl) rfl (by kernel_rfl) rfl rfl rfl ?_
  refine AW_of h48 TryT_ok (by kernel_rfl) ?_
  simp -dsimp
  refine ⟨fun h e => h (by rw [e]), fun hl => ?_⟩
  replace hl : a.length = b.length := by omega
  refine AWh_loop (fun i : Nat => i ≤ a.length ∧ ∀ j : Nat, j < i → nth a j = nth b j) (fun i => mkE [(0, .c (.im a.length (flat a))), (1, .c (.im b.length (flat b))), (5, .c (.int .i64 i))] []) (fun i => a.length - i) 0 (Wk_to [0, 1, 5] [] rfl rfl (by simp)) (by simp) ?_
  rintro i ⟨hi, hall⟩
  refine AW_of h48 TryT_ok (by kernel_rfl) ?_
  rcases Nat.lt_or_ge i a.length with h1 | h1
  · have h2 : i < b.length := by omega
    simp -dsimp [h1, h2, ne_of_lt h1, ne_of_lt h2]
    refine ⟨fun h e => h (by rw [e]), fun h => ?_⟩
    refine Back_of (i + 1) [0, 1, 5] [] rfl rfl (by simp; rw [wrap64 (by omega) (by omega)]) ⟨by omega, fun j hj => ?_⟩ (by omega)
    by_cases e : j = i
    · subst e; exact h
    · exact hall j (by omega)
  · simp -dsimp [Nat.not_lt.2 h1]
    exact list_eq_of_nth hl (fun j hj => hall j (by omega))

@[simp] def h77 : Hts := {  }
theorem f77_ok (a : List Int) (ha : a.length ≤ 1073741824) : FnR Try.prog 77 [.v (.im a.length (flat a))] (.v (.ow 3 1 a.length (flat a))) := by
  refine FnW.of_AW TryT_ok 0 (fn := Try.f77) (by kernel_rfl) rfl (by kernel_rfl) rfl rfl rfl ?_
  refine AW_of h77 TryT_ok (by kernel_rfl) ?_
  simp -dsimp
  refine ⟨by simp [capMax]; omega, ?_⟩
  refine AWh_loop (fun i : Nat => i ≤ a.length) (fun i => mkE [(0, .c (.im a.length (flat a))), (3, .arr 448), (4, .c (.int .i64 i))] [(448, .arr 0 3 1 a.length (flat (a.take i ++ List.replicate (a.length - i) 0)))]) (fun i => a.length - i) 0 (Wk_to [0, 3, 4] [(448, 448)] rfl rfl (by simp)) (by simp) ?_
  rintro i hi
  refine AW_of h77 TryT_ok (by kernel_rfl) ?_
  rcases Nat.lt_or_ge i a.length with h1 | h1
  · have h2 : i < min i a.length + (a.length - i) := by omega
    simp -dsimp [h1, ne_of_lt h1, h2]
    first | refine ⟨by omega, ?_⟩ | skip
    refine Back_of (i + 1) [0, 3, 4] [(448, 448)] rfl rfl ?_ (by omega) (by omega)
    simp -dsimp
    rw [wrap64 (by omega) (by omega), ← fill_step a 0 h1]
    try rfl
  · simp -dsimp [Nat.not_lt.2 h1]
    have : i = a.length := by omega
    subst this
    simp

@[simp] def h66 : Hts := {  }
theorem f66_ok (a : List Int) (l : Int) (ha : a.length ≤ 9223372036854775807) (h0 : 0 ≤ l) (h1 : l ≤ 1048576) : FnR Try.prog 66 [.v (.im a.length (flat a)), .v (.int .i64 l)] (.v (.int .i64 (szLen a l))) := by
  refine FnW.of_AW TryT_ok 0 (fn := Try.f66) (by kernel_rfl) rfl (by kernel_rfl) rfl rfl rfl ?_
  refine AW_of h66 TryT_ok (by kernel_rfl) ?_
  simp -dsimp
  rw [wrap64 (x := l - ↑a.length) (by omega) (by omega)]
  refine ⟨fun h => ?_, fun h => ?_⟩
  · rw [szLen, szq_neg h]
  · rw [szLen, szq_go h]

@[simp] def h33 : Hts := {  }
theorem f33_ok (a b : GDot) : FnR Try.prog 33 [.agg [.int .i64 a.rep, .int .i64 a.seq], .agg [.int .i64 b.rep, .int .i64 b.seq]] (.v (.bool (decide (a = b)))) := by
  refine FnW.of_AW TryT_ok 0 (fn := Try.f33) (by kernel_rfl) rfl (by kernel_rfl) rfl rfl rfl ?_
  refine AW_of h33 TryT_ok (by kernel_rfl) ?_
  simp -dsimp
  repeat' (first
    | refine And.intro ?_ ?_
    | intro _)
  all_goals first | assumption | (apply GDot.ext <;> assumption) | (subst_vars; simp_all; done) | grind

@[simp] def h10 : Hts := { dr := fun id => if id = 6 then [{}, {}, {}, {}, {}, {}, {}, {}, { cr := true }, {}] else [] }
theorem f10_ok (a b : List GDot) (ha : a.length ≤ 1073741824) : FnR Try.prog 10 [.v (.im a.length (flat a)), .v (.im b.length (flat b))] (.v (.bool (decide (a = b)))) := by
  refine FnW.of_AW TryT_ok 0 (fn := Try.f10) (by kernel_rfl) rfl (by kernel_rfl) rfl rfl rfl ?_
  refine AW_of h10 TryT_ok (by kernel_rfl) ?_
  simp -dsimp
  refine ⟨fun h e => h (by rw [e]), fun hl => ?_⟩
  replace hl : a.length = b.length := by omega
  refine AWh_loop (fun i : Nat => i ≤ a.length ∧ ∀ j : Nat, j < i → nth a j = nth b j) (fun i => mkE [(0, .c (.im a.length (flat a))), (1, .c (.im b.length (flat b))), (5, .c (.int .i64 i))] []) (fun i => a.length - i) 0 (Wk_to [0, 1, 5] [] rfl rfl (by simp)) (by simp) ?_
  rintro i ⟨hi, hall⟩
  refine AW_of h10 TryT_ok (by kernel_rfl) ?_
  rcases Nat.lt_or_ge i a.length with h1 | h1
  · have h2 : i < b.length := by omega
    simp -dsimp [h1, h2, ne_of_lt h1, ne_of_lt h2]
    first | refine ⟨by omega, by omega, ?_⟩ | skip
    refine ACallK_of (f33_ok _ _) ?_
    simp -dsimp
    refine ⟨fun h e => h (by rw [e]), fun h => ?_⟩
    refine Back_of (i + 1) [0, 1, 5] [] rfl rfl (by simp; rw [wrap64 (by omega) (by omega)]) ⟨by omega, fun j hj => ?_⟩ (by omega)
    by_cases e : j = i
    · subst e; exact h
    · exact hall j (by omega)
  · simp -dsimp [Nat.not_lt.2 h1]
    exact list_eq_of_nth hl (fun j hj => hall j (by omega))

@[simp] def h76 : Hts := {  }
theorem f76_ok (a : GDot) : FnR Try.prog 76 [.agg [.int .i64 a.rep, .int .i64 a.seq]] (.agg [.int .i64 a.rep, .int .i64 a.seq]) := by
  refine FnW.of_AW TryT_ok 0 (fn := Try.f76) (by kernel_rfl) rfl (by kernel_rfl) rfl rfl rfl ?_
  refine AW_of h76 TryT_ok (by kernel_rfl) ?_
  simp -dsimp

@[simp] def h80 : Hts := {  }
theorem f80_ok (a : List GDot) (ha : a.length ≤ 1073741824) : FnR Try.prog 80 [.v (.im a.length (flat a))] (.v (.ow 38 2 a.length (flat a))) := by
  refine FnW.of_AW TryT_ok 0 (fn := Try.f80) (by kernel_rfl) rfl (by kernel_rfl) rfl rfl rfl ?_
  refine AW_of h80 TryT_ok (by kernel_rfl) ?_
  simp -dsimp
  refine ⟨by simp [capMax]; omega, ?_⟩
  refine AWh_loop (fun i : Nat => i ≤ a.length) (fun i => mkE [(0, .c (.im a.length (flat a))), (3, .arr 448), (4, .c (.int .i64 i))] [(448, .arr 0 38 2 a.length (flat (a.take i ++ List.replicate (a.length - i) ⟨0, 0⟩)))]) (fun i => a.length - i) 0 (Wk_to [0, 3, 4] [(448, 448)] rfl rfl (by simp)) (by simp) ?_
  rintro i hi
  refine AW_of h80 TryT_ok (by kernel_rfl) ?_
  rcases Nat.lt_or_ge i a.length with h1 | h1
  · have h2 : i < min i a.length + (a.length - i) := by omega
    simp -dsimp [h1, ne_of_lt h1, h2]
    first | refine ⟨by omega, ?_⟩ | skip
    refine ACallK_of (f76_ok _) ?_
    simp -dsimp [h1, h2]
    first | refine ⟨by omega, ?_⟩ | skip
    refine Back_of (i + 1) [0, 3, 4] [(448, 448)] rfl rfl ?_ (by omega) (by omega)
    simp -dsimp
    rw [wrap64 (by omega) (by omega), ← fill_step a ⟨0, 0⟩ h1]
    try rfl
  · simp -dsimp [Nat.not_lt.2 h1]
    have : i = a.length := by omega
    subst this
    simp

@[simp] def h69 : Hts := {  }
theorem f69_ok (a : List GDot) (l : Int) (ha : a.length ≤ 9223372036854775807) (h0 : 0 ≤ l) (h1 : l ≤ 1048576) : FnR Try.prog 69 [.v (.im a.length (flat a)), .v (.int .i64 l)] (.v (.int .i64 (szLen a l))) := by
  refine FnW.of_AW TryT_ok 0 (fn := Try.f69) (by kernel_rfl) rfl (by kernel_rfl) rfl rfl rfl ?_
  refine AW_of h69 TryT_ok (by kernel_rfl) ?_
  simp -dsimp
  rw [wrap64 (x := l - ↑a.length) (by omega) (by omega)]
  refine ⟨fun h => ?_, fun h => ?_⟩
  · rw [szLen, szq_neg h]
  · rw [szLen, szq_go h]

@[simp] def h105 : Hts := {  }
theorem f105_ok (a b : GTally) : FnR Try.prog 105 [.agg [.str a.obj, .int .i64 a.rep, .int .i64 a.sum], .agg [.str b.obj, .int .i64 b.rep, .int .i64 b.sum]] (.v (.bool (decide (a = b)))) := by
  refine FnW.of_AW TryT_ok 0 (fn := Try.f105) (by kernel_rfl) rfl (by kernel_rfl) rfl rfl rfl ?_
  refine AW_of h105 TryT_ok (by kernel_rfl) ?_
  simp -dsimp
  repeat' (first
    | refine And.intro ?_ ?_
    | intro _)
  all_goals first | assumption | (apply GTally.ext <;> assumption) | (subst_vars; simp_all; done) | grind

@[simp] def h49 : Hts := { dr := fun id => if id = 6 then [{}, {}, {}, {}, {}, {}, {}, {}, { cr := true }, {}] else [] }
theorem f49_ok (a b : List GTally) (ha : a.length ≤ 1073741824) : FnR Try.prog 49 [.v (.im a.length (flat a)), .v (.im b.length (flat b))] (.v (.bool (decide (a = b)))) := by
  refine FnW.of_AW TryT_ok 0 (fn := Try.f49) (by kernel_rfl) rfl (by kernel_rfl) rfl rfl rfl ?_
  refine AW_of h49 TryT_ok (by kernel_rfl) ?_
  simp -dsimp
  refine ⟨fun h e => h (by rw [e]), fun hl => ?_⟩
  replace hl : a.length = b.length := by omega
  refine AWh_loop (fun i : Nat => i ≤ a.length ∧ ∀ j : Nat, j < i → nth a j = nth b j) (fun i => mkE [(0, .c (.im a.length (flat a))), (1, .c (.im b.length (flat b))), (5, .c (.int .i64 i))] []) (fun i => a.length - i) 0 (Wk_to [0, 1, 5] [] rfl rfl (by simp)) (by simp) ?_
  rintro i ⟨hi, hall⟩
  refine AW_of h49 TryT_ok (by kernel_rfl) ?_
  rcases Nat.lt_or_ge i a.length with h1 | h1
  · have h2 : i < b.length := by omega
    simp -dsimp [h1, h2, ne_of_lt h1, ne_of_lt h2]
    first | refine ⟨by omega, by omega, ?_⟩ | skip
    refine ACallK_of (f105_ok _ _) ?_
    simp -dsimp
    refine ⟨fun h e => h (by rw [e]), fun h => ?_⟩
    refine Back_of (i + 1) [0, 1, 5] [] rfl rfl (by simp; rw [wrap64 (by omega) (by omega)]) ⟨by omega, fun j hj => ?_⟩ (by omega)
    by_cases e : j = i
    · subst e; exact h
    · exact hall j (by omega)
  · simp -dsimp [Nat.not_lt.2 h1]
    exact list_eq_of_nth hl (fun j hj => hall j (by omega))

@[simp] def h127 : Hts := {  }
theorem f127_ok (a : GTally) : FnR Try.prog 127 [.agg [.str a.obj, .int .i64 a.rep, .int .i64 a.sum]] (.agg [.str a.obj, .int .i64 a.rep, .int .i64 a.sum]) := by
  refine FnW.of_AW TryT_ok 0 (fn := Try.f127) (by kernel_rfl) rfl (by kernel_rfl) rfl rfl rfl ?_
  refine AW_of h127 TryT_ok (by kernel_rfl) ?_
  simp -dsimp

@[simp] def h78 : Hts := {  }
theorem f78_ok (a : List GTally) (ha : a.length ≤ 1073741824) : FnR Try.prog 78 [.v (.im a.length (flat a))] (.v (.ow 117 3 a.length (flat a))) := by
  refine FnW.of_AW TryT_ok 0 (fn := Try.f78) (by kernel_rfl) rfl (by kernel_rfl) rfl rfl rfl ?_
  refine AW_of h78 TryT_ok (by kernel_rfl) ?_
  simp -dsimp
  refine ⟨by simp [capMax]; omega, ?_⟩
  refine AWh_loop (fun i : Nat => i ≤ a.length) (fun i => mkE [(0, .c (.im a.length (flat a))), (3, .arr 448), (4, .c (.int .i64 i))] [(448, .arr 0 117 3 a.length (flat (a.take i ++ List.replicate (a.length - i) ⟨⟨#[]⟩, 0, 0⟩)))]) (fun i => a.length - i) 0 (Wk_to [0, 3, 4] [(448, 448)] rfl rfl (by simp)) (by simp) ?_
  rintro i hi
  refine AW_of h78 TryT_ok (by kernel_rfl) ?_
  rcases Nat.lt_or_ge i a.length with h1 | h1
  · have h2 : i < min i a.length + (a.length - i) := by omega
    simp -dsimp [h1, ne_of_lt h1, h2]
    first | refine ⟨by omega, ?_⟩ | skip
    refine ACallK_of (f127_ok _) ?_
    simp -dsimp [h1, h2]
    first | refine ⟨by omega, ?_⟩ | skip
    refine Back_of (i + 1) [0, 3, 4] [(448, 448)] rfl rfl ?_ (by omega) (by omega)
    simp -dsimp
    rw [wrap64 (by omega) (by omega), ← fill_step a ⟨⟨#[]⟩, 0, 0⟩ h1]
    try rfl
  · simp -dsimp [Nat.not_lt.2 h1]
    have : i = a.length := by omega
    subst this
    simp

@[simp] def h115 : Hts := {  }
theorem f115_ok (a : GTally) (l : Int) (hf : a.Fit) (h0 : 0 ≤ l) (h1 : l ≤ 1048576) : FnR Try.prog 115 [.agg [.str a.obj, .int .i64 a.rep, .int .i64 a.sum], .v (.int .i64 l)] (.v (.int .i64 (a.sz l))) := by
  simp only [GTally.Fit] at hf
  refine FnW.of_AW TryT_ok 0 (fn := Try.f115) (by kernel_rfl) rfl (by kernel_rfl) rfl rfl rfl ?_
  refine AW_of h115 TryT_ok (by kernel_rfl) ?_
  simp -dsimp
  rw [wrap64 (x := l - ↑a.obj.size) (by omega) (by omega)]
  refine ⟨fun n0 => ?_, fun p0 => ?_⟩
  · rw [GTally.sz, szq_neg n0]
  rw [GTally.sz, szq_go p0]

@[simp] def h67 : Hts := {  }
theorem f67_ok (a : List GTally) (l : Int) (ha : a.length ≤ 9223372036854775807) (hf : ∀ x, x ∈ a → x.Fit) (h0 : 0 ≤ l) (h1 : l ≤ 1048576) : FnR Try.prog 67 [.v (.im a.length (flat a)), .v (.int .i64 l)] (.v (.int .i64 (szS GTally.sz a l))) := by
  refine FnW.of_AW TryT_ok 0 (fn := Try.f67) (by kernel_rfl) rfl (by kernel_rfl) rfl rfl rfl ?_
  refine AW_of h67 TryT_ok (by kernel_rfl) ?_
  simp -dsimp
  rw [wrap64 (x := l - ↑a.length) (by omega) (by omega)]
  refine ⟨fun h => ?_, fun h => ?_⟩
  · rw [szS, szq_neg h]
  rw [szS, szq_go h]
  refine AWh_loop (fun s : Nat × Int => s.1 ≤ a.length ∧ 0 ≤ s.2 ∧ s.2 ≤ 1048576 ∧ szGo GTally.sz (a.drop s.1) s.2 = szGo GTally.sz a (l - a.length)) (fun s => mkE [(0, .c (.im a.length (flat a))), (1, .c (.int .i64 s.2)), (5, .c (.int .i64 s.1))] []) (fun s => a.length - s.1) (0, l - a.length) (Wk_to [0, 1, 5] [] rfl rfl (by simp)) ⟨by simp, h, by simp; omega, by simp⟩ ?_
  rintro ⟨i, m⟩ ⟨hi, hm0, hm1, hinv⟩
  simp only at hi hm0 hm1 hinv
  refine AW_of h67 TryT_ok (by kernel_rfl) ?_
  rcases Nat.lt_or_ge i a.length with h3 | h3
  · simp -dsimp [h3, ne_of_lt h3]
    first | refine ⟨by omega, ?_⟩ | skip
    refine ACallK_of (f115_ok _ _ (hf _ (nth_mem h3)) (by assumption) (by omega)) ?_
    simp -dsimp
    rw [szGo_drop h3] at hinv
    have hle := GTally.sz_le (nth a i) m hm0
    refine ⟨fun hn => ?_, fun hp => ?_⟩
    · rw [← hinv, szq_neg hn]
    · rw [szq_go hp] at hinv
      refine Back_of (i + 1, GTally.sz (nth a i) m) [0, 1, 5] [] rfl rfl (by simp; rw [wrap64 (by omega) (by omega)]) ⟨by simp; omega, hp, by simp; omega, hinv⟩ (by simp; omega)
  · have : i = a.length := by omega
    subst this
    simp -dsimp
    rw [← hinv, List.drop_of_length_le (Nat.le_refl _)]
    rfl

@[simp] def h106 : Hts := {  }
theorem f106_ok (a b : GLive) : FnR Try.prog 106 [.agg [.bool a.map, .str a.obj, .str a.key, .int .i64 a.val, .int .i64 a.dot.rep, .int .i64 a.dot.seq], .agg [.bool b.map, .str b.obj, .str b.key, .int .i64 b.val, .int .i64 b.dot.rep, .int .i64 b.dot.seq]] (.v (.bool (decide (a = b)))) := by
  refine FnW.of_AW TryT_ok 0 (fn := Try.f106) (by kernel_rfl) rfl (by kernel_rfl) rfl rfl rfl ?_
  refine AW_of h106 TryT_ok (by kernel_rfl) ?_
  simp -dsimp
  repeat' (first
    | (refine ACallK_of (f33_ok _ _) ?_; simp -dsimp)
    | refine And.intro ?_ ?_
    | intro _)
  all_goals first | assumption | (apply GLive.ext <;> assumption) | (subst_vars; simp_all; done) | grind

@[simp] def h50 : Hts := { dr := fun id => if id = 6 then [{}, {}, {}, {}, {}, {}, {}, {}, { cr := true }, {}] else [] }
theorem f50_ok (a b : List GLive) (ha : a.length ≤ 1073741824) : FnR Try.prog 50 [.v (.im a.length (flat a)), .v (.im b.length (flat b))] (.v (.bool (decide (a = b)))) := by
  refine FnW.of_AW TryT_ok 0 (fn := Try.f50) (by kernel_rfl) rfl (by kernel_rfl) rfl rfl rfl ?_
  refine AW_of h50 TryT_ok (by kernel_rfl) ?_
  simp -dsimp
  refine ⟨fun h e => h (by rw [e]), fun hl => ?_⟩
  replace hl : a.length = b.length := by omega
  refine AWh_loop (fun i : Nat => i ≤ a.length ∧ ∀ j : Nat, j < i → nth a j = nth b j) (fun i => mkE [(0, .c (.im a.length (flat a))), (1, .c (.im b.length (flat b))), (5, .c (.int .i64 i))] []) (fun i => a.length - i) 0 (Wk_to [0, 1, 5] [] rfl rfl (by simp)) (by simp) ?_
  rintro i ⟨hi, hall⟩
  refine AW_of h50 TryT_ok (by kernel_rfl) ?_
  rcases Nat.lt_or_ge i a.length with h1 | h1
  · have h2 : i < b.length := by omega
    simp -dsimp [h1, h2, ne_of_lt h1, ne_of_lt h2]
    first | refine ⟨by omega, by omega, ?_⟩ | skip
    refine ACallK_of (f106_ok _ _) ?_
    simp -dsimp
    refine ⟨fun h e => h (by rw [e]), fun h => ?_⟩
    refine Back_of (i + 1) [0, 1, 5] [] rfl rfl (by simp; rw [wrap64 (by omega) (by omega)]) ⟨by omega, fun j hj => ?_⟩ (by omega)
    by_cases e : j = i
    · subst e; exact h
    · exact hall j (by omega)
  · simp -dsimp [Nat.not_lt.2 h1]
    exact list_eq_of_nth hl (fun j hj => hall j (by omega))

@[simp] def h128 : Hts := {  }
theorem f128_ok (a : GLive) : FnR Try.prog 128 [.agg [.bool a.map, .str a.obj, .str a.key, .int .i64 a.val, .int .i64 a.dot.rep, .int .i64 a.dot.seq]] (.agg [.bool a.map, .str a.obj, .str a.key, .int .i64 a.val, .int .i64 a.dot.rep, .int .i64 a.dot.seq]) := by
  refine FnW.of_AW TryT_ok 0 (fn := Try.f128) (by kernel_rfl) rfl (by kernel_rfl) rfl rfl rfl ?_
  refine AW_of h128 TryT_ok (by kernel_rfl) ?_
  simp -dsimp
  repeat' (first
    | (refine ACallK_of (f76_ok _) ?_; simp -dsimp)
    | refine And.intro ?_ ?_)

@[simp] def h79 : Hts := {  }
theorem f79_ok (a : List GLive) (ha : a.length ≤ 1073741824) : FnR Try.prog 79 [.v (.im a.length (flat a))] (.v (.ow 120 6 a.length (flat a))) := by
  refine FnW.of_AW TryT_ok 0 (fn := Try.f79) (by kernel_rfl) rfl (by kernel_rfl) rfl rfl rfl ?_
  refine AW_of h79 TryT_ok (by kernel_rfl) ?_
  simp -dsimp
  refine ⟨by simp [capMax]; omega, ?_⟩
  refine AWh_loop (fun i : Nat => i ≤ a.length) (fun i => mkE [(0, .c (.im a.length (flat a))), (3, .arr 448), (4, .c (.int .i64 i))] [(448, .arr 0 120 6 a.length (flat (a.take i ++ List.replicate (a.length - i) ⟨false, ⟨#[]⟩, ⟨#[]⟩, 0, ⟨0, 0⟩⟩)))]) (fun i => a.length - i) 0 (Wk_to [0, 3, 4] [(448, 448)] rfl rfl (by simp)) (by simp) ?_
  rintro i hi
  refine AW_of h79 TryT_ok (by kernel_rfl) ?_
  rcases Nat.lt_or_ge i a.length with h1 | h1
  · have h2 : i < min i a.length + (a.length - i) := by omega
    simp -dsimp [h1, ne_of_lt h1, h2]
    first | refine ⟨by omega, ?_⟩ | skip
    refine ACallK_of (f128_ok _) ?_
    simp -dsimp [h1, h2]
    first | refine ⟨by omega, ?_⟩ | skip
    refine Back_of (i + 1) [0, 3, 4] [(448, 448)] rfl rfl ?_ (by omega) (by omega)
    simp -dsimp
    rw [wrap64 (by omega) (by omega), ← fill_step a ⟨false, ⟨#[]⟩, ⟨#[]⟩, 0, ⟨0, 0⟩⟩ h1]
    try rfl
  · simp -dsimp [Nat.not_lt.2 h1]
    have : i = a.length := by omega
    subst this
    simp

@[simp] def h116 : Hts := {  }
theorem f116_ok (a : GLive) (l : Int) (hf : a.Fit) (h0 : 0 ≤ l) (h1 : l ≤ 1048576) : FnR Try.prog 116 [.agg [.bool a.map, .str a.obj, .str a.key, .int .i64 a.val, .int .i64 a.dot.rep, .int .i64 a.dot.seq], .v (.int .i64 l)] (.v (.int .i64 (a.sz l))) := by
  simp only [GLive.Fit] at hf
  obtain ⟨o0, o1⟩ := hf
  refine FnW.of_AW TryT_ok 0 (fn := Try.f116) (by kernel_rfl) rfl (by kernel_rfl) rfl rfl rfl ?_
  refine AW_of h116 TryT_ok (by kernel_rfl) ?_
  simp -dsimp
  rw [wrap64 (x := l - ↑a.obj.size) (by omega) (by omega)]
  refine ⟨fun n0 => ?_, fun p0 => ?_⟩
  · rw [GLive.sz, szq_neg n0]
  rw [wrap64 (x := l - ↑a.obj.size - ↑a.key.size) (by omega) (by omega)]
  refine ⟨fun n1 => ?_, fun p1 => ?_⟩
  · rw [GLive.sz, szq_go p0, szq_neg n1]
  rw [GLive.sz, szq_go p0, szq_go p1]

@[simp] def h68 : Hts := {  }
theorem f68_ok (a : List GLive) (l : Int) (ha : a.length ≤ 9223372036854775807) (hf : ∀ x, x ∈ a → x.Fit) (h0 : 0 ≤ l) (h1 : l ≤ 1048576) : FnR Try.prog 68 [.v (.im a.length (flat a)), .v (.int .i64 l)] (.v (.int .i64 (szS GLive.sz a l))) := by
  refine FnW.of_AW TryT_ok 0 (fn := Try.f68) (by kernel_rfl) rfl (by kernel_rfl) rfl rfl rfl ?_
  refine AW_of h68 TryT_ok (by kernel_rfl) ?_
  simp -dsimp
  rw [wrap64 (x := l - ↑a.length) (by omega) (by omega)]
  refine ⟨fun h => ?_, fun h => ?_⟩
  · rw [szS, szq_neg h]
  rw [szS, szq_go h]
  refine AWh_loop (fun s : Nat × Int => s.1 ≤ a.length ∧ 0 ≤ s.2 ∧ s.2 ≤ 1048576 ∧ szGo GLive.sz (a.drop s.1) s.2 = szGo GLive.sz a (l - a.length)) (fun s => mkE [(0, .c (.im a.length (flat a))), (1, .c (.int .i64 s.2)), (5, .c (.int .i64 s.1))] []) (fun s => a.length - s.1) (0, l - a.length) (Wk_to [0, 1, 5] [] rfl rfl (by simp)) ⟨by simp, h, by simp; omega, by simp⟩ ?_
  rintro ⟨i, m⟩ ⟨hi, hm0, hm1, hinv⟩
  simp only at hi hm0 hm1 hinv
  refine AW_of h68 TryT_ok (by kernel_rfl) ?_
  rcases Nat.lt_or_ge i a.length with h3 | h3
  · simp -dsimp [h3, ne_of_lt h3]
    first | refine ⟨by omega, ?_⟩ | skip
    refine ACallK_of (f116_ok _ _ (hf _ (nth_mem h3)) (by assumption) (by omega)) ?_
    simp -dsimp
    rw [szGo_drop h3] at hinv
    have hle := GLive.sz_le (nth a i) m hm0
    refine ⟨fun hn => ?_, fun hp => ?_⟩
    · rw [← hinv, szq_neg hn]
    · rw [szq_go hp] at hinv
      refine Back_of (i + 1, GLive.sz (nth a i) m) [0, 1, 5] [] rfl rfl (by simp; rw [wrap64 (by omega) (by omega)]) ⟨by simp; omega, hp, by simp; omega, hinv⟩ (by simp; omega)
  · have : i = a.length := by omega
    subst this
    simp -dsimp
    rw [← hinv, List.drop_of_length_le (Nat.le_refl _)]
    rfl

@[simp] def h107 : Hts := {  }
theorem f107_ok (a b : GCell) : FnR Try.prog 107 [.agg [.str a.obj, .int .i64 a.dot.rep, .int .i64 a.dot.seq, .int .i64 a.time, .int .i64 a.ref.rep, .int .i64 a.ref.seq, .int .i64 a.val, .bool a.gone], .agg [.str b.obj, .int .i64 b.dot.rep, .int .i64 b.dot.seq, .int .i64 b.time, .int .i64 b.ref.rep, .int .i64 b.ref.seq, .int .i64 b.val, .bool b.gone]] (.v (.bool (decide (a = b)))) := by
  refine FnW.of_AW TryT_ok 0 (fn := Try.f107) (by kernel_rfl) rfl (by kernel_rfl) rfl rfl rfl ?_
  refine AW_of h107 TryT_ok (by kernel_rfl) ?_
  simp -dsimp
  repeat' (first
    | (refine ACallK_of (f33_ok _ _) ?_; simp -dsimp)
    | refine And.intro ?_ ?_
    | intro _)
  all_goals first | assumption | (apply GCell.ext <;> assumption) | (subst_vars; simp_all; done) | grind

@[simp] def h51 : Hts := { dr := fun id => if id = 6 then [{}, {}, {}, {}, {}, {}, {}, {}, { cr := true }, {}] else [] }
theorem f51_ok (a b : List GCell) (ha : a.length ≤ 1073741824) : FnR Try.prog 51 [.v (.im a.length (flat a)), .v (.im b.length (flat b))] (.v (.bool (decide (a = b)))) := by
  refine FnW.of_AW TryT_ok 0 (fn := Try.f51) (by kernel_rfl) rfl (by kernel_rfl) rfl rfl rfl ?_
  refine AW_of h51 TryT_ok (by kernel_rfl) ?_
  simp -dsimp
  refine ⟨fun h e => h (by rw [e]), fun hl => ?_⟩
  replace hl : a.length = b.length := by omega
  refine AWh_loop (fun i : Nat => i ≤ a.length ∧ ∀ j : Nat, j < i → nth a j = nth b j) (fun i => mkE [(0, .c (.im a.length (flat a))), (1, .c (.im b.length (flat b))), (5, .c (.int .i64 i))] []) (fun i => a.length - i) 0 (Wk_to [0, 1, 5] [] rfl rfl (by simp)) (by simp) ?_
  rintro i ⟨hi, hall⟩
  refine AW_of h51 TryT_ok (by kernel_rfl) ?_
  rcases Nat.lt_or_ge i a.length with h1 | h1
  · have h2 : i < b.length := by omega
    simp -dsimp [h1, h2, ne_of_lt h1, ne_of_lt h2]
    first | refine ⟨by omega, by omega, ?_⟩ | skip
    refine ACallK_of (f107_ok _ _) ?_
    simp -dsimp
    refine ⟨fun h e => h (by rw [e]), fun h => ?_⟩
    refine Back_of (i + 1) [0, 1, 5] [] rfl rfl (by simp; rw [wrap64 (by omega) (by omega)]) ⟨by omega, fun j hj => ?_⟩ (by omega)
    by_cases e : j = i
    · subst e; exact h
    · exact hall j (by omega)
  · simp -dsimp [Nat.not_lt.2 h1]
    exact list_eq_of_nth hl (fun j hj => hall j (by omega))

@[simp] def h129 : Hts := {  }
theorem f129_ok (a : GCell) : FnR Try.prog 129 [.agg [.str a.obj, .int .i64 a.dot.rep, .int .i64 a.dot.seq, .int .i64 a.time, .int .i64 a.ref.rep, .int .i64 a.ref.seq, .int .i64 a.val, .bool a.gone]] (.agg [.str a.obj, .int .i64 a.dot.rep, .int .i64 a.dot.seq, .int .i64 a.time, .int .i64 a.ref.rep, .int .i64 a.ref.seq, .int .i64 a.val, .bool a.gone]) := by
  refine FnW.of_AW TryT_ok 0 (fn := Try.f129) (by kernel_rfl) rfl (by kernel_rfl) rfl rfl rfl ?_
  refine AW_of h129 TryT_ok (by kernel_rfl) ?_
  simp -dsimp
  repeat' (first
    | (refine ACallK_of (f76_ok _) ?_; simp -dsimp)
    | refine And.intro ?_ ?_)

@[simp] def h81 : Hts := {  }
theorem f81_ok (a : List GCell) (ha : a.length ≤ 1073741824) : FnR Try.prog 81 [.v (.im a.length (flat a))] (.v (.ow 122 8 a.length (flat a))) := by
  refine FnW.of_AW TryT_ok 0 (fn := Try.f81) (by kernel_rfl) rfl (by kernel_rfl) rfl rfl rfl ?_
  refine AW_of h81 TryT_ok (by kernel_rfl) ?_
  simp -dsimp
  refine ⟨by simp [capMax]; omega, ?_⟩
  refine AWh_loop (fun i : Nat => i ≤ a.length) (fun i => mkE [(0, .c (.im a.length (flat a))), (3, .arr 448), (4, .c (.int .i64 i))] [(448, .arr 0 122 8 a.length (flat (a.take i ++ List.replicate (a.length - i) ⟨⟨#[]⟩, ⟨0, 0⟩, 0, ⟨0, 0⟩, 0, false⟩)))]) (fun i => a.length - i) 0 (Wk_to [0, 3, 4] [(448, 448)] rfl rfl (by simp)) (by simp) ?_
  rintro i hi
  refine AW_of h81 TryT_ok (by kernel_rfl) ?_
  rcases Nat.lt_or_ge i a.length with h1 | h1
  · have h2 : i < min i a.length + (a.length - i) := by omega
    simp -dsimp [h1, ne_of_lt h1, h2]
    first | refine ⟨by omega, ?_⟩ | skip
    refine ACallK_of (f129_ok _) ?_
    simp -dsimp [h1, h2]
    first | refine ⟨by omega, ?_⟩ | skip
    refine Back_of (i + 1) [0, 3, 4] [(448, 448)] rfl rfl ?_ (by omega) (by omega)
    simp -dsimp
    rw [wrap64 (by omega) (by omega), ← fill_step a ⟨⟨#[]⟩, ⟨0, 0⟩, 0, ⟨0, 0⟩, 0, false⟩ h1]
    try rfl
  · simp -dsimp [Nat.not_lt.2 h1]
    have : i = a.length := by omega
    subst this
    simp

@[simp] def h117 : Hts := {  }
theorem f117_ok (a : GCell) (l : Int) (hf : a.Fit) (h0 : 0 ≤ l) (h1 : l ≤ 1048576) : FnR Try.prog 117 [.agg [.str a.obj, .int .i64 a.dot.rep, .int .i64 a.dot.seq, .int .i64 a.time, .int .i64 a.ref.rep, .int .i64 a.ref.seq, .int .i64 a.val, .bool a.gone], .v (.int .i64 l)] (.v (.int .i64 (a.sz l))) := by
  simp only [GCell.Fit] at hf
  refine FnW.of_AW TryT_ok 0 (fn := Try.f117) (by kernel_rfl) rfl (by kernel_rfl) rfl rfl rfl ?_
  refine AW_of h117 TryT_ok (by kernel_rfl) ?_
  simp -dsimp
  rw [wrap64 (x := l - ↑a.obj.size) (by omega) (by omega)]
  refine ⟨fun n0 => ?_, fun p0 => ?_⟩
  · rw [GCell.sz, szq_neg n0]
  rw [GCell.sz, szq_go p0]

@[simp] def h70 : Hts := {  }
theorem f70_ok (a : List GCell) (l : Int) (ha : a.length ≤ 9223372036854775807) (hf : ∀ x, x ∈ a → x.Fit) (h0 : 0 ≤ l) (h1 : l ≤ 1048576) : FnR Try.prog 70 [.v (.im a.length (flat a)), .v (.int .i64 l)] (.v (.int .i64 (szS GCell.sz a l))) := by
  refine FnW.of_AW TryT_ok 0 (fn := Try.f70) (by kernel_rfl) rfl (by kernel_rfl) rfl rfl rfl ?_
  refine AW_of h70 TryT_ok (by kernel_rfl) ?_
  simp -dsimp
  rw [wrap64 (x := l - ↑a.length) (by omega) (by omega)]
  refine ⟨fun h => ?_, fun h => ?_⟩
  · rw [szS, szq_neg h]
  rw [szS, szq_go h]
  refine AWh_loop (fun s : Nat × Int => s.1 ≤ a.length ∧ 0 ≤ s.2 ∧ s.2 ≤ 1048576 ∧ szGo GCell.sz (a.drop s.1) s.2 = szGo GCell.sz a (l - a.length)) (fun s => mkE [(0, .c (.im a.length (flat a))), (1, .c (.int .i64 s.2)), (5, .c (.int .i64 s.1))] []) (fun s => a.length - s.1) (0, l - a.length) (Wk_to [0, 1, 5] [] rfl rfl (by simp)) ⟨by simp, h, by simp; omega, by simp⟩ ?_
  rintro ⟨i, m⟩ ⟨hi, hm0, hm1, hinv⟩
  simp only at hi hm0 hm1 hinv
  refine AW_of h70 TryT_ok (by kernel_rfl) ?_
  rcases Nat.lt_or_ge i a.length with h3 | h3
  · simp -dsimp [h3, ne_of_lt h3]
    first | refine ⟨by omega, ?_⟩ | skip
    refine ACallK_of (f117_ok _ _ (hf _ (nth_mem h3)) (by assumption) (by omega)) ?_
    simp -dsimp
    rw [szGo_drop h3] at hinv
    have hle := GCell.sz_le (nth a i) m hm0
    refine ⟨fun hn => ?_, fun hp => ?_⟩
    · rw [← hinv, szq_neg hn]
    · rw [szq_go hp] at hinv
      refine Back_of (i + 1, GCell.sz (nth a i) m) [0, 1, 5] [] rfl rfl (by simp; rw [wrap64 (by omega) (by omega)]) ⟨by simp; omega, hp, by simp; omega, hinv⟩ (by simp; omega)
  · have : i = a.length := by omega
    subst this
    simp -dsimp
    rw [← hinv, List.drop_of_length_le (Nat.le_refl _)]
    rfl

@[simp] def h34 : Hts := {  }
theorem f34_ok (a b : GAct) (h : a.Ok) : FnR Try.prog 34 [.agg [.int .i64 a.dot.rep, .int .i64 a.dot.seq, .int .i64 a.time, .im a.knew.length (flat a.knew), .int .i64 a.kind, .str a.obj, .str a.key, .int .i64 a.val, .int .i64 a.ref.rep, .int .i64 a.ref.seq], .agg [.int .i64 b.dot.rep, .int .i64 b.dot.seq, .int .i64 b.time, .im b.knew.length (flat b.knew), .int .i64 b.kind, .str b.obj, .str b.key, .int .i64 b.val, .int .i64 b.ref.rep, .int .i64 b.ref.seq]] (.v (.bool (decide (a = b)))) := by
  simp only [GAct.Ok] at h
  obtain ⟨o0, o1, o2⟩ := h
  refine FnW.of_AW TryT_ok 0 (fn := Try.f34) (by kernel_rfl) rfl (by kernel_rfl) rfl rfl rfl ?_
  refine AW_of h34 TryT_ok (by kernel_rfl) ?_
  simp -dsimp
  repeat' (first
    | (refine ACallK_of (f33_ok _ _) ?_; simp -dsimp)
    | (refine ACallK_of (f48_ok _ _ (by assumption)) ?_; simp -dsimp)
    | refine And.intro ?_ ?_
    | intro _)
  all_goals first | assumption | (apply GAct.ext <;> assumption) | (subst_vars; simp_all; done) | grind

@[simp] def h29 : Hts := {  }
theorem f29_ok (a : GAct) (h : a.Ok) : FnR Try.prog 29 [.agg [.int .i64 a.dot.rep, .int .i64 a.dot.seq, .int .i64 a.time, .im a.knew.length (flat a.knew), .int .i64 a.kind, .str a.obj, .str a.key, .int .i64 a.val, .int .i64 a.ref.rep, .int .i64 a.ref.seq]] (.agg [.int .i64 a.dot.rep, .int .i64 a.dot.seq, .int .i64 a.time, .ow 3 1 a.knew.length (flat a.knew), .int .i64 a.kind, .str a.obj, .str a.key, .int .i64 a.val, .int .i64 a.ref.rep, .int .i64 a.ref.seq]) := by
  simp only [GAct.Ok] at h
  obtain ⟨o0, o1, o2⟩ := h
  refine FnW.of_AW TryT_ok 0 (fn := Try.f29) (by kernel_rfl) rfl (by kernel_rfl) rfl rfl rfl ?_
  refine AW_of h29 TryT_ok (by kernel_rfl) ?_
  simp -dsimp
  repeat' (first
    | (refine ACallK_of (f76_ok _) ?_; simp -dsimp)
    | (refine ACallK_of (f77_ok _ (by assumption)) ?_; simp -dsimp)
    | refine And.intro ?_ ?_)

@[simp] def h25 : Hts := {  }
theorem f25_ok (a : GAct) (l : Int) (hf : a.Fit) (h0 : 0 ≤ l) (h1 : l ≤ 1048576) : FnR Try.prog 25 [.agg [.int .i64 a.dot.rep, .int .i64 a.dot.seq, .int .i64 a.time, .im a.knew.length (flat a.knew), .int .i64 a.kind, .str a.obj, .str a.key, .int .i64 a.val, .int .i64 a.ref.rep, .int .i64 a.ref.seq], .v (.int .i64 l)] (.v (.int .i64 (a.sz l))) := by
  simp only [GAct.Fit] at hf
  obtain ⟨o0, o1, o2⟩ := hf
  refine FnW.of_AW TryT_ok 0 (fn := Try.f25) (by kernel_rfl) rfl (by kernel_rfl) rfl rfl rfl ?_
  refine AW_of h25 TryT_ok (by kernel_rfl) ?_
  simp -dsimp
  refine ACallK_of (f66_ok _ _ (by assumption) (by assumption) (by omega)) ?_
  simp -dsimp
  have q0 := szLen_le a.knew _ h0
  refine ⟨fun n0 => ?_, fun p0 => ?_⟩
  · rw [GAct.sz, szq_neg n0]
  rw [wrap64 (x := szLen a.knew (l) - ↑a.obj.size) (by omega) (by omega)]
  refine ⟨fun n1 => ?_, fun p1 => ?_⟩
  · rw [GAct.sz, szq_go p0, szq_neg n1]
  rw [wrap64 (x := szLen a.knew (l) - ↑a.obj.size - ↑a.key.size) (by omega) (by omega)]
  refine ⟨fun n2 => ?_, fun p2 => ?_⟩
  · rw [GAct.sz, szq_go p0, szq_go p1, szq_neg n2]
  rw [GAct.sz, szq_go p0, szq_go p1, szq_go p2]

@[simp] def h17 : Hts := {  }
theorem f17_ok (a b : GState) (h : a.Ok) : FnR Try.prog 17 [.agg [.im a.know.length (flat a.know), .im a.tallies.length (flat a.tallies), .im a.lives.length (flat a.lives), .im a.cs.length (flat a.cs)], .agg [.im b.know.length (flat b.know), .im b.tallies.length (flat b.tallies), .im b.lives.length (flat b.lives), .im b.cs.length (flat b.cs)]] (.v (.bool (decide (a = b)))) := by
  simp only [GState.Ok] at h
  obtain ⟨o0, o1, o2, o3, o4, o5, o6⟩ := h
  refine FnW.of_AW TryT_ok 0 (fn := Try.f17) (by kernel_rfl) rfl (by kernel_rfl) rfl rfl rfl ?_
  refine AW_of h17 TryT_ok (by kernel_rfl) ?_
  simp -dsimp
  repeat' (first
    | (refine ACallK_of (f48_ok _ _ (by assumption)) ?_; simp -dsimp)
    | (refine ACallK_of (f49_ok _ _ (by assumption)) ?_; simp -dsimp)
    | (refine ACallK_of (f50_ok _ _ (by assumption)) ?_; simp -dsimp)
    | (refine ACallK_of (f51_ok _ _ (by assumption)) ?_; simp -dsimp)
    | refine And.intro ?_ ?_
    | intro _)
  all_goals first | assumption | (apply GState.ext <;> assumption) | (subst_vars; simp_all; done) | grind

@[simp] def h22 : Hts := {  }
theorem f22_ok (a b : GDelta) (h : a.Ok) : FnR Try.prog 22 [.agg [.im a.base.length (flat a.base), .im a.know.length (flat a.know), .im a.tallies.length (flat a.tallies), .im a.lives.length (flat a.lives), .im a.dead.length (flat a.dead), .im a.cs.length (flat a.cs)], .agg [.im b.base.length (flat b.base), .im b.know.length (flat b.know), .im b.tallies.length (flat b.tallies), .im b.lives.length (flat b.lives), .im b.dead.length (flat b.dead), .im b.cs.length (flat b.cs)]] (.v (.bool (decide (a = b)))) := by
  simp only [GDelta.Ok] at h
  obtain ⟨o0, o1, o2, o3, o4, o5, o6, o7, o8⟩ := h
  refine FnW.of_AW TryT_ok 0 (fn := Try.f22) (by kernel_rfl) rfl (by kernel_rfl) rfl rfl rfl ?_
  refine AW_of h22 TryT_ok (by kernel_rfl) ?_
  simp -dsimp
  repeat' (first
    | (refine ACallK_of (f48_ok _ _ (by assumption)) ?_; simp -dsimp)
    | (refine ACallK_of (f49_ok _ _ (by assumption)) ?_; simp -dsimp)
    | (refine ACallK_of (f50_ok _ _ (by assumption)) ?_; simp -dsimp)
    | (refine ACallK_of (f10_ok _ _ (by assumption)) ?_; simp -dsimp)
    | (refine ACallK_of (f51_ok _ _ (by assumption)) ?_; simp -dsimp)
    | refine And.intro ?_ ?_
    | intro _)
  all_goals first | assumption | (apply GDelta.ext <;> assumption) | (subst_vars; simp_all; done) | grind

@[simp] def h30 : Hts := {  }
theorem f30_ok (a : GDelta) (h : a.Ok) : FnR Try.prog 30 [.agg [.im a.base.length (flat a.base), .im a.know.length (flat a.know), .im a.tallies.length (flat a.tallies), .im a.lives.length (flat a.lives), .im a.dead.length (flat a.dead), .im a.cs.length (flat a.cs)]] (.agg [.ow 3 1 a.base.length (flat a.base), .ow 3 1 a.know.length (flat a.know), .ow 117 3 a.tallies.length (flat a.tallies), .ow 120 6 a.lives.length (flat a.lives), .ow 38 2 a.dead.length (flat a.dead), .ow 122 8 a.cs.length (flat a.cs)]) := by
  simp only [GDelta.Ok] at h
  obtain ⟨o0, o1, o2, o3, o4, o5, o6, o7, o8⟩ := h
  refine FnW.of_AW TryT_ok 0 (fn := Try.f30) (by kernel_rfl) rfl (by kernel_rfl) rfl rfl rfl ?_
  refine AW_of h30 TryT_ok (by kernel_rfl) ?_
  simp -dsimp
  repeat' (first
    | (refine ACallK_of (f77_ok _ (by assumption)) ?_; simp -dsimp)
    | (refine ACallK_of (f78_ok _ (by assumption)) ?_; simp -dsimp)
    | (refine ACallK_of (f79_ok _ (by assumption)) ?_; simp -dsimp)
    | (refine ACallK_of (f80_ok _ (by assumption)) ?_; simp -dsimp)
    | (refine ACallK_of (f81_ok _ (by assumption)) ?_; simp -dsimp)
    | refine And.intro ?_ ?_)

@[simp] def h26 : Hts := {  }
theorem f26_ok (a : GDelta) (l : Int) (hf : a.Fit) (h0 : 0 ≤ l) (h1 : l ≤ 1048576) : FnR Try.prog 26 [.agg [.im a.base.length (flat a.base), .im a.know.length (flat a.know), .im a.tallies.length (flat a.tallies), .im a.lives.length (flat a.lives), .im a.dead.length (flat a.dead), .im a.cs.length (flat a.cs)], .v (.int .i64 l)] (.v (.int .i64 (a.sz l))) := by
  simp only [GDelta.Fit] at hf
  obtain ⟨o0, o1, o2, o3, o4, o5, o6, o7, o8⟩ := hf
  refine FnW.of_AW TryT_ok 0 (fn := Try.f26) (by kernel_rfl) rfl (by kernel_rfl) rfl rfl rfl ?_
  refine AW_of h26 TryT_ok (by kernel_rfl) ?_
  simp -dsimp
  refine ACallK_of (f66_ok _ _ (by assumption) (by assumption) (by omega)) ?_
  simp -dsimp
  have q0 := szLen_le a.base _ h0
  refine ⟨fun n0 => ?_, fun p0 => ?_⟩
  · rw [GDelta.sz, szq_neg n0]
  refine ACallK_of (f66_ok _ _ (by assumption) (by assumption) (by omega)) ?_
  simp -dsimp
  have q1 := szLen_le a.know _ p0
  refine ⟨fun n1 => ?_, fun p1 => ?_⟩
  · rw [GDelta.sz, szq_go p0, szq_neg n1]
  refine ACallK_of (f67_ok _ _ (by assumption) (by assumption) (by assumption) (by omega)) ?_
  simp -dsimp
  have q2 := szS_le GTally.sz_le a.tallies _ p1
  refine ⟨fun n2 => ?_, fun p2 => ?_⟩
  · rw [GDelta.sz, szq_go p0, szq_go p1, szq_neg n2]
  refine ACallK_of (f68_ok _ _ (by assumption) (by assumption) (by assumption) (by omega)) ?_
  simp -dsimp
  have q3 := szS_le GLive.sz_le a.lives _ p2
  refine ⟨fun n3 => ?_, fun p3 => ?_⟩
  · rw [GDelta.sz, szq_go p0, szq_go p1, szq_go p2, szq_neg n3]
  refine ACallK_of (f69_ok _ _ (by assumption) (by assumption) (by omega)) ?_
  simp -dsimp
  have q4 := szLen_le a.dead _ p3
  refine ⟨fun n4 => ?_, fun p4 => ?_⟩
  · rw [GDelta.sz, szq_go p0, szq_go p1, szq_go p2, szq_go p3, szq_neg n4]
  refine ACallK_of (f70_ok _ _ (by assumption) (by assumption) (by assumption) (by omega)) ?_
  simp -dsimp
  have q5 := szS_le GCell.sz_le a.cs _ p4
  refine ⟨fun n5 => ?_, fun p5 => ?_⟩
  · rw [GDelta.sz, szq_go p0, szq_go p1, szq_go p2, szq_go p3, szq_go p4, szq_neg n5]
  rw [GDelta.sz, szq_go p0, szq_go p1, szq_go p2, szq_go p3, szq_go p4, szq_go p5]

@[simp] def h11 : Hts := {  }
theorem f11_ok (a b : GUnit) (h : a.Ok) : FnR Try.prog 11 [.agg [.bool a.batch, .int .i64 a.act.dot.rep, .int .i64 a.act.dot.seq, .int .i64 a.act.time, .im a.act.knew.length (flat a.act.knew), .int .i64 a.act.kind, .str a.act.obj, .str a.act.key, .int .i64 a.act.val, .int .i64 a.act.ref.rep, .int .i64 a.act.ref.seq, .im a.delta.base.length (flat a.delta.base), .im a.delta.know.length (flat a.delta.know), .im a.delta.tallies.length (flat a.delta.tallies), .im a.delta.lives.length (flat a.delta.lives), .im a.delta.dead.length (flat a.delta.dead), .im a.delta.cs.length (flat a.delta.cs)], .agg [.bool b.batch, .int .i64 b.act.dot.rep, .int .i64 b.act.dot.seq, .int .i64 b.act.time, .im b.act.knew.length (flat b.act.knew), .int .i64 b.act.kind, .str b.act.obj, .str b.act.key, .int .i64 b.act.val, .int .i64 b.act.ref.rep, .int .i64 b.act.ref.seq, .im b.delta.base.length (flat b.delta.base), .im b.delta.know.length (flat b.delta.know), .im b.delta.tallies.length (flat b.delta.tallies), .im b.delta.lives.length (flat b.delta.lives), .im b.delta.dead.length (flat b.delta.dead), .im b.delta.cs.length (flat b.delta.cs)]] (.v (.bool (decide (a = b)))) := by
  simp only [GUnit.Ok] at h
  obtain ⟨o0, o1⟩ := h
  refine FnW.of_AW TryT_ok 0 (fn := Try.f11) (by kernel_rfl) rfl (by kernel_rfl) rfl rfl rfl ?_
  refine AW_of h11 TryT_ok (by kernel_rfl) ?_
  simp -dsimp
  repeat' (first
    | (refine ACallK_of (f34_ok _ _ (by assumption)) ?_; simp -dsimp)
    | (refine ACallK_of (f22_ok _ _ (by assumption)) ?_; simp -dsimp)
    | refine And.intro ?_ ?_
    | intro _)
  all_goals first | assumption | (apply GUnit.ext <;> assumption) | (subst_vars; simp_all; done) | grind

@[simp] def h8 : Hts := {  }
theorem f8_ok (a : GUnit) (h : a.Ok) : FnR Try.prog 8 [.agg [.bool a.batch, .int .i64 a.act.dot.rep, .int .i64 a.act.dot.seq, .int .i64 a.act.time, .im a.act.knew.length (flat a.act.knew), .int .i64 a.act.kind, .str a.act.obj, .str a.act.key, .int .i64 a.act.val, .int .i64 a.act.ref.rep, .int .i64 a.act.ref.seq, .im a.delta.base.length (flat a.delta.base), .im a.delta.know.length (flat a.delta.know), .im a.delta.tallies.length (flat a.delta.tallies), .im a.delta.lives.length (flat a.delta.lives), .im a.delta.dead.length (flat a.delta.dead), .im a.delta.cs.length (flat a.delta.cs)]] (.agg [.bool a.batch, .int .i64 a.act.dot.rep, .int .i64 a.act.dot.seq, .int .i64 a.act.time, .ow 3 1 a.act.knew.length (flat a.act.knew), .int .i64 a.act.kind, .str a.act.obj, .str a.act.key, .int .i64 a.act.val, .int .i64 a.act.ref.rep, .int .i64 a.act.ref.seq, .ow 3 1 a.delta.base.length (flat a.delta.base), .ow 3 1 a.delta.know.length (flat a.delta.know), .ow 117 3 a.delta.tallies.length (flat a.delta.tallies), .ow 120 6 a.delta.lives.length (flat a.delta.lives), .ow 38 2 a.delta.dead.length (flat a.delta.dead), .ow 122 8 a.delta.cs.length (flat a.delta.cs)]) := by
  simp only [GUnit.Ok] at h
  obtain ⟨o0, o1⟩ := h
  refine FnW.of_AW TryT_ok 0 (fn := Try.f8) (by kernel_rfl) rfl (by kernel_rfl) rfl rfl rfl ?_
  refine AW_of h8 TryT_ok (by kernel_rfl) ?_
  simp -dsimp
  repeat' (first
    | (refine ACallK_of (f29_ok _ (by assumption)) ?_; simp -dsimp)
    | (refine ACallK_of (f30_ok _ (by assumption)) ?_; simp -dsimp)
    | refine And.intro ?_ ?_)

@[simp] def h6 : Hts := {  }
theorem f6_ok (a : GUnit) (l : Int) (hf : a.Fit) (h0 : 0 ≤ l) (h1 : l ≤ 1048576) : FnR Try.prog 6 [.agg [.bool a.batch, .int .i64 a.act.dot.rep, .int .i64 a.act.dot.seq, .int .i64 a.act.time, .im a.act.knew.length (flat a.act.knew), .int .i64 a.act.kind, .str a.act.obj, .str a.act.key, .int .i64 a.act.val, .int .i64 a.act.ref.rep, .int .i64 a.act.ref.seq, .im a.delta.base.length (flat a.delta.base), .im a.delta.know.length (flat a.delta.know), .im a.delta.tallies.length (flat a.delta.tallies), .im a.delta.lives.length (flat a.delta.lives), .im a.delta.dead.length (flat a.delta.dead), .im a.delta.cs.length (flat a.delta.cs)], .v (.int .i64 l)] (.v (.int .i64 (a.sz l))) := by
  simp only [GUnit.Fit] at hf
  obtain ⟨o0, o1⟩ := hf
  refine FnW.of_AW TryT_ok 0 (fn := Try.f6) (by kernel_rfl) rfl (by kernel_rfl) rfl rfl rfl ?_
  refine AW_of h6 TryT_ok (by kernel_rfl) ?_
  simp -dsimp
  refine ACallK_of (f25_ok _ _ (by assumption) (by assumption) (by omega)) ?_
  simp -dsimp
  have q0 := GAct.sz_le a.act _ h0
  refine ⟨fun n0 => ?_, fun p0 => ?_⟩
  · rw [GUnit.sz, szq_neg n0]
  refine ACallK_of (f26_ok _ _ (by assumption) (by assumption) (by omega)) ?_
  simp -dsimp
  have q1 := GDelta.sz_le a.delta _ p0
  refine ⟨fun n1 => ?_, fun p1 => ?_⟩
  · rw [GUnit.sz, szq_go p0, szq_neg n1]
  rw [GUnit.sz, szq_go p0, szq_go p1]
end Am
