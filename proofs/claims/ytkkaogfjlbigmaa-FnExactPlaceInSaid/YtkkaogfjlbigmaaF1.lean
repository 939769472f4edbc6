/- The law harness: what is alike, what is copied, how large it is. No condition. -/
import Derived.Test.YtkkaogfjlbigmaaT
import Derived.Test.YtkkaogfjlbigmaaD
namespace Am
open Go Go.Proofs
open Cel (cells)
set_option maxRecDepth 100000
set_option maxHeartbeats 4000000
set_option linter.unusedSimpArgs false
set_option linter.unusedVariables false

@[simp] def h20 : Hts := { dr := fun id => if id = 6 then [{}, {}, {}, {}, {}, {}, {}, {}, {}] else [] }
theorem f20_ok (a b : List Int) (ha : a.length ≤ 1073741824) : FnR Try.prog 20 [.v (.im a.length (flat a)), .v (.im b.length (flat b))] (.v (.bool (decide (a = b)))) := by
  refine FnW.of_AW TryT_ok 0 (fn := Try.f20) (by kernel_rfl) rfl (by kernel_rfl) rfl rfl rfl ?_
  refine AW_of h20 TryT_ok (by kernel_rfl) ?_
  simp -dsimp
  refine ⟨fun h e => h (by rw [e]), fun hl => ?_⟩
  replace hl : a.length = b.length := by omega
  refine AWh_loop (fun i : Nat => i ≤ a.length ∧ ∀ j : Nat, j < i → nth a j = nth b j) (fun i => mkE [(0, .c (.im a.length (flat a))), (1, .c (.im b.length (flat b))), (5, .c (.int .i64 i))] []) (fun i => a.length - i) 0 (Wk_to [0, 1, 5] [] rfl rfl (by simp)) (by simp) ?_
  rintro i ⟨hi, hall⟩
  refine AW_of h20 TryT_ok (by kernel_rfl) ?_
  rcases Nat.lt_or_ge i a.length with h1 | h1
  · have h2 : i < b.length := by omega
    simp -dsimp [h1, h2, ne_of_lt h1, ne_of_lt h2]
    refine ⟨fun h e => h (by rw [e]), fun h => ?_⟩
    refine Back_of (i + 1) [0, 1, 5] [] rfl rfl (by simp; rw [wrap64 (by omega) (by omega)]) ⟨by omega, fun j hj => ?_⟩ (by omega)
    by_cases e : j = i
    · subst e; exact h
    · exact hall j (by omega)
  · simp -dsimp [Nat.not_lt.2 h1]
    exact list_eq_of_nth hl (fun j hj => hall j (by omega))

@[simp] def h29 : Hts := {  }
theorem f29_ok (a : List Int) (ha : a.length ≤ 1073741824) : FnR Try.prog 29 [.v (.im a.length (flat a))] (.v (.ow 3 1 a.length (flat a))) := by
  refine FnW.of_AW TryT_ok 0 (fn := Try.f29) (by kernel_rfl) rfl (by kernel_rfl) rfl rfl rfl ?_
  refine AW_of h29 TryT_ok (by kernel_rfl) ?_
  simp -dsimp
  refine ⟨by simp [capMax]; omega, ?_⟩
  refine AWh_loop (fun i : Nat => i ≤ a.length) (fun i => mkE [(0, .c (.im a.length (flat a))), (3, .arr 448), (4, .c (.int .i64 i))] [(448, .arr 0 3 1 a.length (flat (a.take i ++ List.replicate (a.length - i) 0)))]) (fun i => a.length - i) 0 (Wk_to [0, 3, 4] [(448, 448)] rfl rfl (by simp)) (by simp) ?_
  rintro i hi
  refine AW_of h29 TryT_ok (by kernel_rfl) ?_
  rcases Nat.lt_or_ge i a.length with h1 | h1
  · have h2 : i < min i a.length + (a.length - i) := by omega
    simp -dsimp [h1, ne_of_lt h1, h2]
    first | refine ⟨by omega, ?_⟩ | skip
    refine Back_of (i + 1) [0, 3, 4] [(448, 448)] rfl rfl ?_ (by omega) (by omega)
    simp -dsimp
    rw [wrap64 (by omega) (by omega), ← fill_step a 0 h1]
    try rfl
  · simp -dsimp [Nat.not_lt.2 h1]
    have : i = a.length := by omega
    subst this
    simp

@[simp] def h23 : Hts := {  }
theorem f23_ok (a : List Int) (l : Int) (ha : a.length ≤ 9223372036854775807) (h0 : 0 ≤ l) (h1 : l ≤ 1048576) : FnR Try.prog 23 [.v (.im a.length (flat a)), .v (.int .i64 l)] (.v (.int .i64 (szLen a l))) := by
  refine FnW.of_AW TryT_ok 0 (fn := Try.f23) (by kernel_rfl) rfl (by kernel_rfl) rfl rfl rfl ?_
  refine AW_of h23 TryT_ok (by kernel_rfl) ?_
  simp -dsimp
  rw [wrap64 (x := l - ↑a.length) (by omega) (by omega)]
  refine ⟨fun h => ?_, fun h => ?_⟩
  · rw [szLen, szq_neg h]
  · rw [szLen, szq_go h]

@[simp] def h10 : Hts := {  }
theorem f10_ok (a b : GDot) : FnR Try.prog 10 [.agg [.int .i64 a.rep, .int .i64 a.seq], .agg [.int .i64 b.rep, .int .i64 b.seq]] (.v (.bool (decide (a = b)))) := by
  refine FnW.of_AW TryT_ok 0 (fn := Try.f10) (by kernel_rfl) rfl (by kernel_rfl) rfl rfl rfl ?_
  refine AW_of h10 TryT_ok (by kernel_rfl) ?_
  simp -dsimp
  repeat' (first
    | refine And.intro ?_ ?_
    | intro _)
  all_goals first | assumption | (apply GDot.ext <;> assumption) | (subst_vars; simp_all; done) | grind

@[simp] def h14 : Hts := { dr := fun id => if id = 6 then [{}, {}, {}, {}, {}, {}, {}, {}, { cr := true }, {}] else [] }
theorem f14_ok (a b : List GDot) (ha : a.length ≤ 1073741824) : FnR Try.prog 14 [.v (.im a.length (flat a)), .v (.im b.length (flat b))] (.v (.bool (decide (a = b)))) := by
  refine FnW.of_AW TryT_ok 0 (fn := Try.f14) (by kernel_rfl) rfl (by kernel_rfl) rfl rfl rfl ?_
  refine AW_of h14 TryT_ok (by kernel_rfl) ?_
  simp -dsimp
  refine ⟨fun h e => h (by rw [e]), fun hl => ?_⟩
  replace hl : a.length = b.length := by omega
  refine AWh_loop (fun i : Nat => i ≤ a.length ∧ ∀ j : Nat, j < i → nth a j = nth b j) (fun i => mkE [(0, .c (.im a.length (flat a))), (1, .c (.im b.length (flat b))), (5, .c (.int .i64 i))] []) (fun i => a.length - i) 0 (Wk_to [0, 1, 5] [] rfl rfl (by simp)) (by simp) ?_
  rintro i ⟨hi, hall⟩
  refine AW_of h14 TryT_ok (by kernel_rfl) ?_
  rcases Nat.lt_or_ge i a.length with h1 | h1
  · have h2 : i < b.length := by omega
    simp -dsimp [h1, h2, ne_of_lt h1, ne_of_lt h2]
    first | refine ⟨by omega, by omega, ?_⟩ | skip
    refine ACallK_of (f10_ok _ _) ?_
    simp -dsimp
    refine ⟨fun h e => h (by rw [e]), fun h => ?_⟩
    refine Back_of (i + 1) [0, 1, 5] [] rfl rfl (by simp; rw [wrap64 (by omega) (by omega)]) ⟨by omega, fun j hj => ?_⟩ (by omega)
    by_cases e : j = i
    · subst e; exact h
    · exact hall j (by omega)
  · simp -dsimp [Nat.not_lt.2 h1]
    exact list_eq_of_nth hl (fun j hj => hall j (by omega))

@[simp] def h77 : Hts := {  }
theorem f77_ok (a : GDot) : FnR Try.prog 77 [.agg [.int .i64 a.rep, .int .i64 a.seq]] (.agg [.int .i64 a.rep, .int .i64 a.seq]) := by
  refine FnW.of_AW TryT_ok 0 (fn := Try.f77) (by kernel_rfl) rfl (by kernel_rfl) rfl rfl rfl ?_
  refine AW_of h77 TryT_ok (by kernel_rfl) ?_
  simp -dsimp

@[simp] def h58 : Hts := {  }
theorem f58_ok (a b : GTally) : FnR Try.prog 58 [.agg [.str a.obj, .int .i64 a.rep, .int .i64 a.sum], .agg [.str b.obj, .int .i64 b.rep, .int .i64 b.sum]] (.v (.bool (decide (a = b)))) := by
  refine FnW.of_AW TryT_ok 0 (fn := Try.f58) (by kernel_rfl) rfl (by kernel_rfl) rfl rfl rfl ?_
  refine AW_of h58 TryT_ok (by kernel_rfl) ?_
  simp -dsimp
  repeat' (first
    | refine And.intro ?_ ?_
    | intro _)
  all_goals first | assumption | (apply GTally.ext <;> assumption) | (subst_vars; simp_all; done) | grind

@[simp] def h35 : Hts := { dr := fun id => if id = 6 then [{}, {}, {}, {}, {}, {}, {}, {}, { cr := true }, {}] else [] }
theorem f35_ok (a b : List GTally) (ha : a.length ≤ 1073741824) : FnR Try.prog 35 [.v (.im a.length (flat a)), .v (.im b.length (flat b))] (.v (.bool (decide (a = b)))) := by
  refine FnW.of_AW TryT_ok 0 (fn := Try.f35) (by kernel_rfl) rfl (by kernel_rfl) rfl rfl rfl ?_
  refine AW_of h35 TryT_ok (by kernel_rfl) ?_
  simp -dsimp
  refine ⟨fun h e => h (by rw [e]), fun hl => ?_⟩
  replace hl : a.length = b.length := by omega
  refine AWh_loop (fun i : Nat => i ≤ a.length ∧ ∀ j : Nat, j < i → nth a j = nth b j) (fun i => mkE [(0, .c (.im a.length (flat a))), (1, .c (.im b.length (flat b))), (5, .c (.int .i64 i))] []) (fun i => a.length - i) 0 (Wk_to [0, 1, 5] [] rfl rfl (by simp)) (by simp) ?_
  rintro i ⟨hi, hall⟩
  refine AW_of h35 TryT_ok (by kernel_rfl) ?_
  rcases Nat.lt_or_ge i a.length with h1 | h1
  · have h2 : i < b.length := by omega
    simp -dsimp [h1, h2, ne_of_lt h1, ne_of_lt h2]
    first | refine ⟨by omega, by omega, ?_⟩ | skip
    refine ACallK_of (f58_ok _ _) ?_
    simp -dsimp
    refine ⟨fun h e => h (by rw [e]), fun h => ?_⟩
    refine Back_of (i + 1) [0, 1, 5] [] rfl rfl (by simp; rw [wrap64 (by omega) (by omega)]) ⟨by omega, fun j hj => ?_⟩ (by omega)
    by_cases e : j = i
    · subst e; exact h
    · exact hall j (by omega)
  · simp -dsimp [Nat.not_lt.2 h1]
    exact list_eq_of_nth hl (fun j hj => hall j (by omega))

@[simp] def h54 : Hts := {  }
theorem f54_ok (a : GTally) : FnR Try.prog 54 [.agg [.str a.obj, .int .i64 a.rep, .int .i64 a.sum]] (.agg [.str a.obj, .int .i64 a.rep, .int .i64 a.sum]) := by
  refine FnW.of_AW TryT_ok 0 (fn := Try.f54) (by kernel_rfl) rfl (by kernel_rfl) rfl rfl rfl ?_
  refine AW_of h54 TryT_ok (by kernel_rfl) ?_
  simp -dsimp

@[simp] def h30 : Hts := {  }
theorem f30_ok (a : List GTally) (ha : a.length ≤ 1073741824) : FnR Try.prog 30 [.v (.im a.length (flat a))] (.v (.ow 90 3 a.length (flat a))) := by
  refine FnW.of_AW TryT_ok 0 (fn := Try.f30) (by kernel_rfl) rfl (by kernel_rfl) rfl rfl rfl ?_
  refine AW_of h30 TryT_ok (by kernel_rfl) ?_
  simp -dsimp
  refine ⟨by simp [capMax]; omega, ?_⟩
  refine AWh_loop (fun i : Nat => i ≤ a.length) (fun i => mkE [(0, .c (.im a.length (flat a))), (3, .arr 448), (4, .c (.int .i64 i))] [(448, .arr 0 90 3 a.length (flat (a.take i ++ List.replicate (a.length - i) ⟨⟨#[]⟩, 0, 0⟩)))]) (fun i => a.length - i) 0 (Wk_to [0, 3, 4] [(448, 448)] rfl rfl (by simp)) (by simp) ?_
  rintro i hi
  refine AW_of h30 TryT_ok (by kernel_rfl) ?_
  rcases Nat.lt_or_ge i a.length with h1 | h1
  · have h2 : i < min i a.length + (a.length - i) := by omega
    simp -dsimp [h1, ne_of_lt h1, h2]
    first | refine ⟨by omega, ?_⟩ | skip
    refine ACallK_of (f54_ok _) ?_
    simp -dsimp [h1, h2]
    first | refine ⟨by omega, ?_⟩ | skip
    refine Back_of (i + 1) [0, 3, 4] [(448, 448)] rfl rfl ?_ (by omega) (by omega)
    simp -dsimp
    rw [wrap64 (by omega) (by omega), ← fill_step a ⟨⟨#[]⟩, 0, 0⟩ h1]
    try rfl
  · simp -dsimp [Nat.not_lt.2 h1]
    have : i = a.length := by omega
    subst this
    simp

@[simp] def h44 : Hts := {  }
theorem f44_ok (a : GTally) (l : Int) (hf : a.Fit) (h0 : 0 ≤ l) (h1 : l ≤ 1048576) : FnR Try.prog 44 [.agg [.str a.obj, .int .i64 a.rep, .int .i64 a.sum], .v (.int .i64 l)] (.v (.int .i64 (a.sz l))) := by
  simp only [GTally.Fit] at hf
  refine FnW.of_AW TryT_ok 0 (fn := Try.f44) (by kernel_rfl) rfl (by kernel_rfl) rfl rfl rfl ?_
  refine AW_of h44 TryT_ok (by kernel_rfl) ?_
  simp -dsimp
  rw [wrap64 (x := l - ↑a.obj.size) (by omega) (by omega)]
  refine ⟨fun n0 => ?_, fun p0 => ?_⟩
  · rw [GTally.sz, szq_neg n0]
  rw [GTally.sz, szq_go p0]

@[simp] def h24 : Hts := {  }
theorem f24_ok (a : List GTally) (l : Int) (ha : a.length ≤ 9223372036854775807) (hf : ∀ x, x ∈ a → x.Fit) (h0 : 0 ≤ l) (h1 : l ≤ 1048576) : FnR Try.prog 24 [.v (.im a.length (flat a)), .v (.int .i64 l)] (.v (.int .i64 (szS GTally.sz a l))) := by
  refine FnW.of_AW TryT_ok 0 (fn := Try.f24) (by kernel_rfl) rfl (by kernel_rfl) rfl rfl rfl ?_
  refine AW_of h24 TryT_ok (by kernel_rfl) ?_
  simp -dsimp
  rw [wrap64 (x := l - ↑a.length) (by omega) (by omega)]
  refine ⟨fun h => ?_, fun h => ?_⟩
  · rw [szS, szq_neg h]
  rw [szS, szq_go h]
  refine AWh_loop (fun s : Nat × Int => s.1 ≤ a.length ∧ 0 ≤ s.2 ∧ s.2 ≤ 1048576 ∧ szGo GTally.sz (a.drop s.1) s.2 = szGo GTally.sz a (l - a.length)) (fun s => mkE [(0, .c (.im a.length (flat a))), (1, .c (.int .i64 s.2)), (5, .c (.int .i64 s.1))] []) (fun s => a.length - s.1) (0, l - a.length) (Wk_to [0, 1, 5] [] rfl rfl (by simp)) ⟨by simp, h, by simp; omega, by simp⟩ ?_
  rintro ⟨i, m⟩ ⟨hi, hm0, hm1, hinv⟩
  simp only at hi hm0 hm1 hinv
  refine AW_of h24 TryT_ok (by kernel_rfl) ?_
  rcases Nat.lt_or_ge i a.length with h3 | h3
  · simp -dsimp [h3, ne_of_lt h3]
    first | refine ⟨by omega, ?_⟩ | skip
    refine ACallK_of (f44_ok _ _ (hf _ (nth_mem h3)) (by assumption) (by omega)) ?_
    simp -dsimp
    rw [szGo_drop h3] at hinv
    have hle := GTally.sz_le (nth a i) m hm0
    refine ⟨fun hn => ?_, fun hp => ?_⟩
    · rw [← hinv, szq_neg hn]
    · rw [szq_go hp] at hinv
      refine Back_of (i + 1, GTally.sz (nth a i) m) [0, 1, 5] [] rfl rfl (by simp; rw [wrap64 (by omega) (by omega)]) ⟨by simp; omega, hp, by simp; omega, hinv⟩ (by simp; omega)
  · have : i = a.length := by omega
    subst this
    simp -dsimp
    rw [← hinv, List.drop_of_length_le (Nat.le_refl _)]
    rfl

@[simp] def h59 : Hts := {  }
theorem f59_ok (a b : GLive) : FnR Try.prog 59 [.agg [.bool a.map, .str a.obj, .str a.key, .int .i64 a.val, .int .i64 a.dot.rep, .int .i64 a.dot.seq], .agg [.bool b.map, .str b.obj, .str b.key, .int .i64 b.val, .int .i64 b.dot.rep, .int .i64 b.dot.seq]] (.v (.bool (decide (a = b)))) := by
  refine FnW.of_AW TryT_ok 0 (fn := Try.f59) (by kernel_rfl) rfl (by kernel_rfl) rfl rfl rfl ?_
  refine AW_of h59 TryT_ok (by kernel_rfl) ?_
  simp -dsimp
  repeat' (first
    | (refine ACallK_of (f10_ok _ _) ?_; simp -dsimp)
    | refine And.intro ?_ ?_
    | intro _)
  all_goals first | assumption | (apply GLive.ext <;> assumption) | (subst_vars; simp_all; done) | grind

@[simp] def h36 : Hts := { dr := fun id => if id = 6 then [{}, {}, {}, {}, {}, {}, {}, {}, { cr := true }, {}] else [] }
theorem f36_ok (a b : List GLive) (ha : a.length ≤ 1073741824) : FnR Try.prog 36 [.v (.im a.length (flat a)), .v (.im b.length (flat b))] (.v (.bool (decide (a = b)))) := by
  refine FnW.of_AW TryT_ok 0 (fn := Try.f36) (by kernel_rfl) rfl (by kernel_rfl) rfl rfl rfl ?_
  refine AW_of h36 TryT_ok (by kernel_rfl) ?_
  simp -dsimp
  refine ⟨fun h e => h (by rw [e]), fun hl => ?_⟩
  replace hl : a.length = b.length := by omega
  refine AWh_loop (fun i : Nat => i ≤ a.length ∧ ∀ j : Nat, j < i → nth a j = nth b j) (fun i => mkE [(0, .c (.im a.length (flat a))), (1, .c (.im b.length (flat b))), (5, .c (.int .i64 i))] []) (fun i => a.length - i) 0 (Wk_to [0, 1, 5] [] rfl rfl (by simp)) (by simp) ?_
  rintro i ⟨hi, hall⟩
  refine AW_of h36 TryT_ok (by kernel_rfl) ?_
  rcases Nat.lt_or_ge i a.length with h1 | h1
  · have h2 : i < b.length := by omega
    simp -dsimp [h1, h2, ne_of_lt h1, ne_of_lt h2]
    first | refine ⟨by omega, by omega, ?_⟩ | skip
    refine ACallK_of (f59_ok _ _) ?_
    simp -dsimp
    refine ⟨fun h e => h (by rw [e]), fun h => ?_⟩
    refine Back_of (i + 1) [0, 1, 5] [] rfl rfl (by simp; rw [wrap64 (by omega) (by omega)]) ⟨by omega, fun j hj => ?_⟩ (by omega)
    by_cases e : j = i
    · subst e; exact h
    · exact hall j (by omega)
  · simp -dsimp [Nat.not_lt.2 h1]
    exact list_eq_of_nth hl (fun j hj => hall j (by omega))

@[simp] def h55 : Hts := {  }
theorem f55_ok (a : GLive) : FnR Try.prog 55 [.agg [.bool a.map, .str a.obj, .str a.key, .int .i64 a.val, .int .i64 a.dot.rep, .int .i64 a.dot.seq]] (.agg [.bool a.map, .str a.obj, .str a.key, .int .i64 a.val, .int .i64 a.dot.rep, .int .i64 a.dot.seq]) := by
  refine FnW.of_AW TryT_ok 0 (fn := Try.f55) (by kernel_rfl) rfl (by kernel_rfl) rfl rfl rfl ?_
  refine AW_of h55 TryT_ok (by kernel_rfl) ?_
  simp -dsimp
  repeat' (first
    | (refine ACallK_of (f77_ok _) ?_; simp -dsimp)
    | refine And.intro ?_ ?_)

@[simp] def h31 : Hts := {  }
theorem f31_ok (a : List GLive) (ha : a.length ≤ 1073741824) : FnR Try.prog 31 [.v (.im a.length (flat a))] (.v (.ow 87 6 a.length (flat a))) := by
  refine FnW.of_AW TryT_ok 0 (fn := Try.f31) (by kernel_rfl) rfl (by kernel_rfl) rfl rfl rfl ?_
  refine AW_of h31 TryT_ok (by kernel_rfl) ?_
  simp -dsimp
  refine ⟨by simp [capMax]; omega, ?_⟩
  refine AWh_loop (fun i : Nat => i ≤ a.length) (fun i => mkE [(0, .c (.im a.length (flat a))), (3, .arr 448), (4, .c (.int .i64 i))] [(448, .arr 0 87 6 a.length (flat (a.take i ++ List.replicate (a.length - i) ⟨false, ⟨#[]⟩, ⟨#[]⟩, 0, ⟨0, 0⟩⟩)))]) (fun i => a.length - i) 0 (Wk_to [0, 3, 4] [(448, 448)] rfl rfl (by simp)) (by simp) ?_
  rintro i hi
  refine AW_of h31 TryT_ok (by kernel_rfl) ?_
  rcases Nat.lt_or_ge i a.length with h1 | h1
  · have h2 : i < min i a.length + (a.length - i) := by omega
    simp -dsimp [h1, ne_of_lt h1, h2]
    first | refine ⟨by omega, ?_⟩ | skip
    refine ACallK_of (f55_ok _) ?_
    simp -dsimp [h1, h2]
    first | refine ⟨by omega, ?_⟩ | skip
    refine Back_of (i + 1) [0, 3, 4] [(448, 448)] rfl rfl ?_ (by omega) (by omega)
    simp -dsimp
    rw [wrap64 (by omega) (by omega), ← fill_step a ⟨false, ⟨#[]⟩, ⟨#[]⟩, 0, ⟨0, 0⟩⟩ h1]
    try rfl
  · simp -dsimp [Nat.not_lt.2 h1]
    have : i = a.length := by omega
    subst this
    simp

@[simp] def h45 : Hts := {  }
theorem f45_ok (a : GLive) (l : Int) (hf : a.Fit) (h0 : 0 ≤ l) (h1 : l ≤ 1048576) : FnR Try.prog 45 [.agg [.bool a.map, .str a.obj, .str a.key, .int .i64 a.val, .int .i64 a.dot.rep, .int .i64 a.dot.seq], .v (.int .i64 l)] (.v (.int .i64 (a.sz l))) := by
  simp only [GLive.Fit] at hf
  obtain ⟨o0, o1⟩ := hf
  refine FnW.of_AW TryT_ok 0 (fn := Try.f45) (by kernel_rfl) rfl (by kernel_rfl) rfl rfl rfl ?_
  refine AW_of h45 TryT_ok (by kernel_rfl) ?_
  simp -dsimp
  rw [wrap64 (x := l - ↑a.obj.size) (by omega) (by omega)]
  refine ⟨fun n0 => ?_, fun p0 => ?_⟩
  · rw [GLive.sz, szq_neg n0]
  rw [wrap64 (x := l - ↑a.obj.size - ↑a.key.size) (by omega) (by omega)]
  refine ⟨fun n1 => ?_, fun p1 => ?_⟩
  · rw [GLive.sz, szq_go p0, szq_neg n1]
  rw [GLive.sz, szq_go p0, szq_go p1]

@[simp] def h25 : Hts := {  }
theorem f25_ok (a : List GLive) (l : Int) (ha : a.length ≤ 9223372036854775807) (hf : ∀ x, x ∈ a → x.Fit) (h0 : 0 ≤ l) (h1 : l ≤ 1048576) : FnR Try.prog 25 [.v (.im a.length (flat a)), .v (.int .i64 l)] (.v (.int .i64 (szS GLive.sz a l))) := by
  refine FnW.of_AW TryT_ok 0 (fn := Try.f25) (by kernel_rfl) rfl (by kernel_rfl) rfl rfl rfl ?_
  refine AW_of h25 TryT_ok (by kernel_rfl) ?_
  simp -dsimp
  rw [wrap64 (x := l - ↑a.length) (by omega) (by omega)]
  refine ⟨fun h => ?_, fun h => ?_⟩
  · rw [szS, szq_neg h]
  rw [szS, szq_go h]
  refine AWh_loop (fun s : Nat × Int => s.1 ≤ a.length ∧ 0 ≤ s.2 ∧ s.2 ≤ 1048576 ∧ szGo GLive.sz (a.drop s.1) s.2 = szGo GLive.sz a (l - a.length)) (fun s => mkE [(0, .c (.im a.length (flat a))), (1, .c (.int .i64 s.2)), (5, .c (.int .i64 s.1))] []) (fun s => a.length - s.1) (0, l - a.length) (Wk_to [0, 1, 5] [] rfl rfl (by simp)) ⟨by simp, h, by simp; omega, by simp⟩ ?_
  rintro ⟨i, m⟩ ⟨hi, hm0, hm1, hinv⟩
  simp only at hi hm0 hm1 hinv
  refine AW_of h25 TryT_ok (by kernel_rfl) ?_
  rcases Nat.lt_or_ge i a.length with h3 | h3
  · simp -dsimp [h3, ne_of_lt h3]
    first | refine ⟨by omega, ?_⟩ | skip
    refine ACallK_of (f45_ok _ _ (hf _ (nth_mem h3)) (by assumption) (by omega)) ?_
    simp -dsimp
    rw [szGo_drop h3] at hinv
    have hle := GLive.sz_le (nth a i) m hm0
    refine ⟨fun hn => ?_, fun hp => ?_⟩
    · rw [← hinv, szq_neg hn]
    · rw [szq_go hp] at hinv
      refine Back_of (i + 1, GLive.sz (nth a i) m) [0, 1, 5] [] rfl rfl (by simp; rw [wrap64 (by omega) (by omega)]) ⟨by simp; omega, hp, by simp; omega, hinv⟩ (by simp; omega)
  · have : i = a.length := by omega
    subst this
    simp -dsimp
    rw [← hinv, List.drop_of_length_le (Nat.le_refl _)]
    rfl

@[simp] def h60 : Hts := {  }
theorem f60_ok (a b : GCell) : FnR Try.prog 60 [.agg [.str a.obj, .int .i64 a.dot.rep, .int .i64 a.dot.seq, .int .i64 a.time, .int .i64 a.ref.rep, .int .i64 a.ref.seq, .int .i64 a.val, .bool a.gone], .agg [.str b.obj, .int .i64 b.dot.rep, .int .i64 b.dot.seq, .int .i64 b.time, .int .i64 b.ref.rep, .int .i64 b.ref.seq, .int .i64 b.val, .bool b.gone]] (.v (.bool (decide (a = b)))) := by
  refine FnW.of_AW TryT_ok 0 (fn := Try.f60) (by kernel_rfl) rfl (by kernel_rfl) rfl rfl rfl ?_
  refine AW_of h60 TryT_ok (by kernel_rfl) ?_
  simp -dsimp
  repeat' (first
    | (refine ACallK_of (f10_ok _ _) ?_; simp -dsimp)
    | refine And.intro ?_ ?_
    | intro _)
  all_goals first | assumption | (apply GCell.ext <;> assumption) | (subst_vars; simp_all; done) | grind

@[simp] def h37 : Hts := { dr := fun id => if id = 6 then [{}, {}, {}, {}, {}, {}, {}, {}, { cr := true }, {}] else [] }
theorem f37_ok (a b : List GCell) (ha : a.length ≤ 1073741824) : FnR Try.prog 37 [.v (.im a.length (flat a)), .v (.im b.length (flat b))] (.v (.bool (decide (a = b)))) := by
  refine FnW.of_AW TryT_ok 0 (fn := Try.f37) (by kernel_rfl) rfl (by kernel_rfl) rfl rfl rfl ?_
  refine AW_of h37 TryT_ok (by kernel_rfl) ?_
  simp -dsimp
  refine ⟨fun h e => h (by rw [e]), fun hl => ?_⟩
  replace hl : a.length = b.length := by omega
  refine AWh_loop (fun i : Nat => i ≤ a.length ∧ ∀ j : Nat, j < i → nth a j = nth b j) (fun i => mkE [(0, .c (.im a.length (flat a))), (1, .c (.im b.length (flat b))), (5, .c (.int .i64 i))] []) (fun i => a.length - i) 0 (Wk_to [0, 1, 5] [] rfl rfl (by simp)) (by simp) ?_
  rintro i ⟨hi, hall⟩
  refine AW_of h37 TryT_ok (by kernel_rfl) ?_
  rcases Nat.lt_or_ge i a.length with h1 | h1
  · have h2 : i < b.length := by omega
    simp -dsimp [h1, h2, ne_of_lt h1, ne_of_lt h2]
    first | refine ⟨by omega, by omega, ?_⟩ | skip
    refine ACallK_of (f60_ok _ _) ?_
    simp -dsimp
    refine ⟨fun h e => h (by rw [e]), fun h => ?_⟩
    refine Back_of (i + 1) [0, 1, 5] [] rfl rfl (by simp; rw [wrap64 (by omega) (by omega)]) ⟨by omega, fun j hj => ?_⟩ (by omega)
    by_cases e : j = i
    · subst e; exact h
    · exact hall j (by omega)
  · simp -dsimp [Nat.not_lt.2 h1]
    exact list_eq_of_nth hl (fun j hj => hall j (by omega))

@[simp] def h56 : Hts := {  }
theorem f56_ok (a : GCell) : FnR Try.prog 56 [.agg [.str a.obj, .int .i64 a.dot.rep, .int .i64 a.dot.seq, .int .i64 a.time, .int .i64 a.ref.rep, .int .i64 a.ref.seq, .int .i64 a.val, .bool a.gone]] (.agg [.str a.obj, .int .i64 a.dot.rep, .int .i64 a.dot.seq, .int .i64 a.time, .int .i64 a.ref.rep, .int .i64 a.ref.seq, .int .i64 a.val, .bool a.gone]) := by
  refine FnW.of_AW TryT_ok 0 (fn := Try.f56) (by kernel_rfl) rfl (by kernel_rfl) rfl rfl rfl ?_
  refine AW_of h56 TryT_ok (by kernel_rfl) ?_
  simp -dsimp
  repeat' (first
    | (refine ACallK_of (f77_ok _) ?_; simp -dsimp)
    | refine And.intro ?_ ?_)

@[simp] def h32 : Hts := {  }
theorem f32_ok (a : List GCell) (ha : a.length ≤ 1073741824) : FnR Try.prog 32 [.v (.im a.length (flat a))] (.v (.ow 57 8 a.length (flat a))) := by
  refine FnW.of_AW TryT_ok 0 (fn := Try.f32) (by kernel_rfl) rfl (by kernel_rfl) rfl rfl rfl ?_
  refine AW_of h32 TryT_ok (by kernel_rfl) ?_
  simp -dsimp
  refine ⟨by simp [capMax]; omega, ?_⟩
  refine AWh_loop (fun i : Nat => i ≤ a.length) (fun i => mkE [(0, .c (.im a.length (flat a))), (3, .arr 448), (4, .c (.int .i64 i))] [(448, .arr 0 57 8 a.length (flat (a.take i ++ List.replicate (a.length - i) ⟨⟨#[]⟩, ⟨0, 0⟩, 0, ⟨0, 0⟩, 0, false⟩)))]) (fun i => a.length - i) 0 (Wk_to [0, 3, 4] [(448, 448)] rfl rfl (by simp)) (by simp) ?_
  rintro i hi
  refine AW_of h32 TryT_ok (by kernel_rfl) ?_
  rcases Nat.lt_or_ge i a.length with h1 | h1
  · have h2 : i < min i a.length + (a.length - i) := by omega
    simp -dsimp [h1, ne_of_lt h1, h2]
    first | refine ⟨by omega, ?_⟩ | skip
    refine ACallK_of (f56_ok _) ?_
    simp -dsimp [h1, h2]
    first | refine ⟨by omega, ?_⟩ | skip
    refine Back_of (i + 1) [0, 3, 4] [(448, 448)] rfl rfl ?_ (by omega) (by omega)
    simp -dsimp
    rw [wrap64 (by omega) (by omega), ← fill_step a ⟨⟨#[]⟩, ⟨0, 0⟩, 0, ⟨0, 0⟩, 0, false⟩ h1]
    try rfl
  · simp -dsimp [Nat.not_lt.2 h1]
    have : i = a.length := by omega
    subst this
    simp

@[simp] def h46 : Hts := {  }
theorem f46_ok (a : GCell) (l : Int) (hf : a.Fit) (h0 : 0 ≤ l) (h1 : l ≤ 1048576) : FnR Try.prog 46 [.agg [.str a.obj, .int .i64 a.dot.rep, .int .i64 a.dot.seq, .int .i64 a.time, .int .i64 a.ref.rep, .int .i64 a.ref.seq, .int .i64 a.val, .bool a.gone], .v (.int .i64 l)] (.v (.int .i64 (a.sz l))) := by
  simp only [GCell.Fit] at hf
  refine FnW.of_AW TryT_ok 0 (fn := Try.f46) (by kernel_rfl) rfl (by kernel_rfl) rfl rfl rfl ?_
  refine AW_of h46 TryT_ok (by kernel_rfl) ?_
  simp -dsimp
  rw [wrap64 (x := l - ↑a.obj.size) (by omega) (by omega)]
  refine ⟨fun n0 => ?_, fun p0 => ?_⟩
  · rw [GCell.sz, szq_neg n0]
  rw [GCell.sz, szq_go p0]

@[simp] def h26 : Hts := {  }
theorem f26_ok (a : List GCell) (l : Int) (ha : a.length ≤ 9223372036854775807) (hf : ∀ x, x ∈ a → x.Fit) (h0 : 0 ≤ l) (h1 : l ≤ 1048576) : FnR Try.prog 26 [.v (.im a.length (flat a)), .v (.int .i64 l)] (.v (.int .i64 (szS GCell.sz a l))) := by
  refine FnW.of_AW TryT_ok 0 (fn := Try.f26) (by kernel_rfl) rfl (by kernel_rfl) rfl rfl rfl ?_
  refine AW_of h26 TryT_ok (by kernel_rfl) ?_
  simp -dsimp
  rw [wrap64 (x := l - ↑a.length) (by omega) (by omega)]
  refine ⟨fun h => ?_, fun h => ?_⟩
  · rw [szS, szq_neg h]
  rw [szS, szq_go h]
  refine AWh_loop (fun s : Nat × Int => s.1 ≤ a.length ∧ 0 ≤ s.2 ∧ s.2 ≤ 1048576 ∧ szGo GCell.sz (a.drop s.1) s.2 = szGo GCell.sz a (l - a.length)) (fun s => mkE [(0, .c (.im a.length (flat a))), (1, .c (.int .i64 s.2)), (5, .c (.int .i64 s.1))] []) (fun s => a.length - s.1) (0, l - a.length) (Wk_to [0, 1, 5] [] rfl rfl (by simp)) ⟨by simp, h, by simp; omega, by simp⟩ ?_
  rintro ⟨i, m⟩ ⟨hi, hm0, hm1, hinv⟩
  simp only at hi hm0 hm1 hinv
  refine AW_of h26 TryT_ok (by kernel_rfl) ?_
  rcases Nat.lt_or_ge i a.length with h3 | h3
  · simp -dsimp [h3, ne_of_lt h3]
    first | refine ⟨by omega, ?_⟩ | skip
    refine ACallK_of (f46_ok _ _ (hf _ (nth_mem h3)) (by assumption) (by omega)) ?_
    simp -dsimp
    rw [szGo_drop h3] at hinv
    have hle := GCell.sz_le (nth a i) m hm0
    refine ⟨fun hn => ?_, fun hp => ?_⟩
    · rw [← hinv, szq_neg hn]
    · rw [szq_go hp] at hinv
      refine Back_of (i + 1, GCell.sz (nth a i) m) [0, 1, 5] [] rfl rfl (by simp; rw [wrap64 (by omega) (by omega)]) ⟨by simp; omega, hp, by simp; omega, hinv⟩ (by simp; omega)
  · have : i = a.length := by omega
    subst this
    simp -dsimp
    rw [← hinv, List.drop_of_length_le (Nat.le_refl _)]
    rfl

@[simp] def h11 : Hts := {  }
theorem f11_ok (a b : GState) (h : a.Ok) : FnR Try.prog 11 [.agg [.im a.know.length (flat a.know), .im a.tallies.length (flat a.tallies), .im a.lives.length (flat a.lives), .im a.cs.length (flat a.cs)], .agg [.im b.know.length (flat b.know), .im b.tallies.length (flat b.tallies), .im b.lives.length (flat b.lives), .im b.cs.length (flat b.cs)]] (.v (.bool (decide (a = b)))) := by
  simp only [GState.Ok] at h
  obtain ⟨o0, o1, o2, o3, o4, o5, o6⟩ := h
  refine FnW.of_AW TryT_ok 0 (fn := Try.f11) (by kernel_rfl) rfl (by kernel_rfl) rfl rfl rfl ?_
  refine AW_of h11 TryT_ok (by kernel_rfl) ?_
  simp -dsimp
  repeat' (first
    | (refine ACallK_of (f20_ok _ _ (by assumption)) ?_; simp -dsimp)
    | (refine ACallK_of (f35_ok _ _ (by assumption)) ?_; simp -dsimp)
    | (refine ACallK_of (f36_ok _ _ (by assumption)) ?_; simp -dsimp)
    | (refine ACallK_of (f37_ok _ _ (by assumption)) ?_; simp -dsimp)
    | refine And.intro ?_ ?_
    | intro _)
  all_goals first | assumption | (apply GState.ext <;> assumption) | (subst_vars; simp_all; done) | grind

@[simp] def h8 : Hts := {  }
theorem f8_ok (a : GState) (h : a.Ok) : FnR Try.prog 8 [.agg [.im a.know.length (flat a.know), .im a.tallies.length (flat a.tallies), .im a.lives.length (flat a.lives), .im a.cs.length (flat a.cs)]] (.agg [.ow 3 1 a.know.length (flat a.know), .ow 90 3 a.tallies.length (flat a.tallies), .ow 87 6 a.lives.length (flat a.lives), .ow 57 8 a.cs.length (flat a.cs)]) := by
  simp only [GState.Ok] at h
  obtain ⟨o0, o1, o2, o3, o4, o5, o6⟩ := h
  refine FnW.of_AW TryT_ok 0 (fn := Try.f8) (by kernel_rfl) rfl (by kernel_rfl) rfl rfl rfl ?_
  refine AW_of h8 TryT_ok (by kernel_rfl) ?_
  simp -dsimp
  repeat' (first
    | (refine ACallK_of (f29_ok _ (by assumption)) ?_; simp -dsimp)
    | (refine ACallK_of (f30_ok _ (by assumption)) ?_; simp -dsimp)
    | (refine ACallK_of (f31_ok _ (by assumption)) ?_; simp -dsimp)
    | (refine ACallK_of (f32_ok _ (by assumption)) ?_; simp -dsimp)
    | refine And.intro ?_ ?_)

@[simp] def h6 : Hts := {  }
theorem f6_ok (a : GState) (l : Int) (hf : a.Fit) (h0 : 0 ≤ l) (h1 : l ≤ 1048576) : FnR Try.prog 6 [.agg [.im a.know.length (flat a.know), .im a.tallies.length (flat a.tallies), .im a.lives.length (flat a.lives), .im a.cs.length (flat a.cs)], .v (.int .i64 l)] (.v (.int .i64 (a.sz l))) := by
  simp only [GState.Fit] at hf
  obtain ⟨o0, o1, o2, o3, o4, o5, o6⟩ := hf
  refine FnW.of_AW TryT_ok 0 (fn := Try.f6) (by kernel_rfl) rfl (by kernel_rfl) rfl rfl rfl ?_
  refine AW_of h6 TryT_ok (by kernel_rfl) ?_
  simp -dsimp
  refine ACallK_of (f23_ok _ _ (by assumption) (by assumption) (by omega)) ?_
  simp -dsimp
  have q0 := szLen_le a.know _ h0
  refine ⟨fun n0 => ?_, fun p0 => ?_⟩
  · rw [GState.sz, szq_neg n0]
  refine ACallK_of (f24_ok _ _ (by assumption) (by assumption) (by assumption) (by omega)) ?_
  simp -dsimp
  have q1 := szS_le GTally.sz_le a.tallies _ p0
  refine ⟨fun n1 => ?_, fun p1 => ?_⟩
  · rw [GState.sz, szq_go p0, szq_neg n1]
  refine ACallK_of (f25_ok _ _ (by assumption) (by assumption) (by assumption) (by omega)) ?_
  simp -dsimp
  have q2 := szS_le GLive.sz_le a.lives _ p1
  refine ⟨fun n2 => ?_, fun p2 => ?_⟩
  · rw [GState.sz, szq_go p0, szq_go p1, szq_neg n2]
  refine ACallK_of (f26_ok _ _ (by assumption) (by assumption) (by assumption) (by omega)) ?_
  simp -dsimp
  have q3 := szS_le GCell.sz_le a.cs _ p2
  refine ⟨fun n3 => ?_, fun p3 => ?_⟩
  · rw [GState.sz, szq_go p0, szq_go p1, szq_go p2, szq_neg n3]
  rw [GState.sz, szq_go p0, szq_go p1, szq_go p2, szq_go p3]
end Am
