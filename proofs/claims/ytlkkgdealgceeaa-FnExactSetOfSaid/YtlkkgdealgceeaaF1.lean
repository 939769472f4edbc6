/- The law harness: what is alike, what is copied, how large it is. No condition. -/
import Derived.Test.YtlkkgdealgceeaaT
import Derived.Test.YtlkkgdealgceeaaD
namespace Am
open Go Go.Proofs
open Cel (cells)
set_option maxRecDepth 100000
set_option maxHeartbeats 4000000
set_option linter.unusedSimpArgs false
set_option linter.unusedVariables false

@[simp] def h57 : Hts := { dr := fun id => if id = 6 then [{}, {}, {}, {}, {}, {}, {}, {}, {}] else [] }
theorem f57_ok (a b : List Int) (ha : a.length ≤ 1073741824) : FnR Try.prog 57 [.v (.im a.length (flat a)), .v (.im b.length (flat b))] (.v (.bool (decide (a = b)))) := by
  refine FnW.of_AW TryT_ok 0 (fn := Try.f57) (by kernel_rfl) rfl (by kernel_rfl) rfl rfl rfl ?_
  refine AW_of h57 TryT_ok (by kernel_rfl) ?_
  simp -dsimp
  refine ⟨fun h e => h (by rw [e]), fun hl => ?_⟩
  replace hl : a.length = b.length := by omega
  refine AWh_loop (fun i : Nat => i ≤ a.length ∧ ∀ j : Nat, j < i → nth a j = nth b j) (fun i => mkE [(0, .c (.im a.length (flat a))), (1, .c (.im b.length (flat b))), (5, .c (.int .i64 i))] []) (fun i => a.length - i) 0 (Wk_to [0, 1, 5] [] rfl rfl (by simp)) (by simp) ?_
  rintro i ⟨hi, hall⟩
  refine AW_of h57 TryT_ok (by kernel_rfl) ?_
  rcases Nat.lt_or_ge i a.length with h1 | h1
  · have h2 : i < b.length := by omega
    simp -dsimp [h1, h2, ne_of_lt h1, ne_of_lt h2]
    refine ⟨fun h e => h (by rw [e]), fun h => ?_⟩
    refine Back_of (i + 1) [0, 1, 5] [] rfl rfl (by simp; rw [wrap64 (by omega) (by omega)]) ⟨by omega, fun j hj => ?_⟩ (by omega)
    by_cases e : j = i
    · subst e; exact h
    · exact hall j (by omega)
  · simp -dsimp [Nat.not_lt.2 h1]
    exact list_eq_of_nth hl (fun j hj => hall j (by omega))

@[simp] def h45 : Hts := {  }
theorem f45_ok (a : List Int) (ha : a.length ≤ 1073741824) : FnR Try.prog 45 [.v (.im a.length (flat a))] (.v (.ow 3 1 a.length (flat a))) := by
  refine FnW.of_AW TryT_ok 0 (fn := Try.f45) (by kernel_rfl) rfl (by kernel_rfl) rfl rfl rfl ?_
  refine AW_of h45 TryT_ok (by kernel_rfl) ?_
  simp -dsimp
  refine ⟨by simp [capMax]; omega, ?_⟩
  refine AWh_loop (fun i : Nat => i ≤ a.length) (fun i => mkE [(0, .c (.im a.length (flat a))), (3, .arr 448), (4, .c (.int .i64 i))] [(448, .arr 0 3 1 a.length (flat (a.take i ++ List.replicate (a.length - i) 0)))]) (fun i => a.length - i) 0 (Wk_to [0, 3, 4] [(448, 448)] rfl rfl (by simp)) (by simp) ?_
  rintro i hi
  refine AW_of h45 TryT_ok (by kernel_rfl) ?_
  rcases Nat.lt_or_ge i a.length with h1 | h1
  · have h2 : i < min i a.length + (a.length - i) := by omega
    simp -dsimp [h1, ne_of_lt h1, h2]
    first | refine ⟨by omega, ?_⟩ | skip
    refine Back_of (i + 1) [0, 3, 4] [(448, 448)] rfl rfl ?_ (by omega) (by omega)
    simp -dsimp
    rw [wrap64 (by omega) (by omega), ← fill_step a 0 h1]
    try rfl
  · simp -dsimp [Nat.not_lt.2 h1]
    have : i = a.length := by omega
    subst this
    simp

@[simp] def h34 : Hts := {  }
theorem f34_ok (a : List Int) (l : Int) (ha : a.length ≤ 9223372036854775807) (h0 : 0 ≤ l) (h1 : l ≤ 1048576) : FnR Try.prog 34 [.v (.im a.length (flat a)), .v (.int .i64 l)] (.v (.int .i64 (szLen a l))) := by
  refine FnW.of_AW TryT_ok 0 (fn := Try.f34) (by kernel_rfl) rfl (by kernel_rfl) rfl rfl rfl ?_
  refine AW_of h34 TryT_ok (by kernel_rfl) ?_
  simp -dsimp
  rw [wrap64 (x := l - ↑a.length) (by omega) (by omega)]
  refine ⟨fun h => ?_, fun h => ?_⟩
  · rw [szLen, szq_neg h]
  · rw [szLen, szq_go h]

@[simp] def h28 : Hts := { dr := fun id => if id = 6 then [{}, {}, {}, {}, {}, {}, {}, {}, {}] else [] }
theorem f28_ok (a b : List ByteArray) (ha : a.length ≤ 1073741824) : FnR Try.prog 28 [.v (.im a.length (flat a)), .v (.im b.length (flat b))] (.v (.bool (decide (a = b)))) := by
  refine FnW.of_AW TryT_ok 0 (fn := Try.f28) (by kernel_rfl) rfl (by kernel_rfl) rfl rfl rfl ?_
  refine AW_of h28 TryT_ok (by kernel_rfl) ?_
  simp -dsimp
  refine ⟨fun h e => h (by rw [e]), fun hl => ?_⟩
  replace hl : a.length = b.length := by omega
  refine AWh_loop (fun i : Nat => i ≤ a.length ∧ ∀ j : Nat, j < i → nth a j = nth b j) (fun i => mkE [(0, .c (.im a.length (flat a))), (1, .c (.im b.length (flat b))), (5, .c (.int .i64 i))] []) (fun i => a.length - i) 0 (Wk_to [0, 1, 5] [] rfl rfl (by simp)) (by simp) ?_
  rintro i ⟨hi, hall⟩
  refine AW_of h28 TryT_ok (by kernel_rfl) ?_
  rcases Nat.lt_or_ge i a.length with h1 | h1
  · have h2 : i < b.length := by omega
    simp -dsimp [h1, h2, ne_of_lt h1, ne_of_lt h2]
    refine ⟨fun h e => h (by rw [e]), fun h => ?_⟩
    refine Back_of (i + 1) [0, 1, 5] [] rfl rfl (by simp; rw [wrap64 (by omega) (by omega)]) ⟨by omega, fun j hj => ?_⟩ (by omega)
    by_cases e : j = i
    · subst e; exact h
    · exact hall j (by omega)
  · simp -dsimp [Nat.not_lt.2 h1]
    exact list_eq_of_nth hl (fun j hj => hall j (by omega))

@[simp] def h110 : Hts := {  }
theorem f110_ok (a b : GDot) : FnR Try.prog 110 [.agg [.int .i64 a.rep, .int .i64 a.seq], .agg [.int .i64 b.rep, .int .i64 b.seq]] (.v (.bool (decide (a = b)))) := by
  refine FnW.of_AW TryT_ok 0 (fn := Try.f110) (by kernel_rfl) rfl (by kernel_rfl) rfl rfl rfl ?_
  refine AW_of h110 TryT_ok (by kernel_rfl) ?_
  simp -dsimp
  repeat' (first
    | refine And.intro ?_ ?_
    | intro _)
  all_goals first | assumption | (apply GDot.ext <;> assumption) | (subst_vars; simp_all; done) | grind

@[simp] def h60 : Hts := { dr := fun id => if id = 6 then [{}, {}, {}, {}, {}, {}, {}, {}, { cr := true }, {}] else [] }
theorem f60_ok (a b : List GDot) (ha : a.length ≤ 1073741824) : FnR Try.prog 60 [.v (.im a.length (flat a)), .v (.im b.length (flat b))] (.v (.bool (decide (a = b)))) := by
  refine FnW.of_AW TryT_ok 0 (fn := Try.f60) (by kernel_rfl) rfl (by kernel_rfl) rfl rfl rfl ?_
  refine AW_of h60 TryT_ok (by kernel_rfl) ?_
  simp -dsimp
  refine ⟨fun h e => h (by rw [e]), fun hl => ?_⟩
  replace hl : a.length = b.length := by omega
  refine AWh_loop (fun i : Nat => i ≤ a.length ∧ ∀ j : Nat, j < i → nth a j = nth b j) (fun i => mkE [(0, .c (.im a.length (flat a))), (1, .c (.im b.length (flat b))), (5, .c (.int .i64 i))] []) (fun i => a.length - i) 0 (Wk_to [0, 1, 5] [] rfl rfl (by simp)) (by simp) ?_
  rintro i ⟨hi, hall⟩
  refine AW_of h60 TryT_ok (by kernel_rfl) ?_
  rcases Nat.lt_or_ge i a.length with h1 | h1
  · have h2 : i < b.length := by omega
    simp -dsimp [h1, h2, ne_of_lt h1, ne_of_lt h2]
    first | refine ⟨by omega, by omega, ?_⟩ | skip
    refine ACallK_of (f110_ok _ _) ?_
    simp -dsimp
    refine ⟨fun h e => h (by rw [e]), fun h => ?_⟩
    refine Back_of (i + 1) [0, 1, 5] [] rfl rfl (by simp; rw [wrap64 (by omega) (by omega)]) ⟨by omega, fun j hj => ?_⟩ (by omega)
    by_cases e : j = i
    · subst e; exact h
    · exact hall j (by omega)
  · simp -dsimp [Nat.not_lt.2 h1]
    exact list_eq_of_nth hl (fun j hj => hall j (by omega))

@[simp] def h100 : Hts := {  }
theorem f100_ok (a : GDot) : FnR Try.prog 100 [.agg [.int .i64 a.rep, .int .i64 a.seq]] (.agg [.int .i64 a.rep, .int .i64 a.seq]) := by
  refine FnW.of_AW TryT_ok 0 (fn := Try.f100) (by kernel_rfl) rfl (by kernel_rfl) rfl rfl rfl ?_
  refine AW_of h100 TryT_ok (by kernel_rfl) ?_
  simp -dsimp

@[simp] def h48 : Hts := {  }
theorem f48_ok (a : List GDot) (ha : a.length ≤ 1073741824) : FnR Try.prog 48 [.v (.im a.length (flat a))] (.v (.ow 76 2 a.length (flat a))) := by
  refine FnW.of_AW TryT_ok 0 (fn := Try.f48) (by kernel_rfl) rfl (by kernel_rfl) rfl rfl rfl ?_
  refine AW_of h48 TryT_ok (by kernel_rfl) ?_
  simp -dsimp
  refine ⟨by simp [capMax]; omega, ?_⟩
  refine AWh_loop (fun i : Nat => i ≤ a.length) (fun i => mkE [(0, .c (.im a.length (flat a))), (3, .arr 448), (4, .c (.int .i64 i))] [(448, .arr 0 76 2 a.length (flat (a.take i ++ List.replicate (a.length - i) ⟨0, 0⟩)))]) (fun i => a.length - i) 0 (Wk_to [0, 3, 4] [(448, 448)] rfl rfl (by simp)) (by simp) ?_
  rintro i hi
  refine AW_of h48 TryT_ok (by kernel_rfl) ?_
  rcases Nat.lt_or_ge i a.length with h1 | h1
  · have h2 : i < min i a.length + (a.length - i) := by omega
    simp -dsimp [h1, ne_of_lt h1, h2]
    first | refine ⟨by omega, ?_⟩ | skip
    refine ACallK_of (f100_ok _) ?_
    simp -dsimp [h1, h2]
    first | refine ⟨by omega, ?_⟩ | skip
    refine Back_of (i + 1) [0, 3, 4] [(448, 448)] rfl rfl ?_ (by omega) (by omega)
    simp -dsimp
    rw [wrap64 (by omega) (by omega), ← fill_step a ⟨0, 0⟩ h1]
    try rfl
  · simp -dsimp [Nat.not_lt.2 h1]
    have : i = a.length := by omega
    subst this
    simp

@[simp] def h37 : Hts := {  }
theorem f37_ok (a : List GDot) (l : Int) (ha : a.length ≤ 9223372036854775807) (h0 : 0 ≤ l) (h1 : l ≤ 1048576) : FnR Try.prog 37 [.v (.im a.length (flat a)), .v (.int .i64 l)] (.v (.int .i64 (szLen a l))) := by
  refine FnW.of_AW TryT_ok 0 (fn := Try.f37) (by kernel_rfl) rfl (by kernel_rfl) rfl rfl rfl ?_
  refine AW_of h37 TryT_ok (by kernel_rfl) ?_
  simp -dsimp
  rw [wrap64 (x := l - ↑a.length) (by omega) (by omega)]
  refine ⟨fun h => ?_, fun h => ?_⟩
  · rw [szLen, szq_neg h]
  · rw [szLen, szq_go h]

@[simp] def h108 : Hts := {  }
theorem f108_ok (a b : GTally) : FnR Try.prog 108 [.agg [.str a.obj, .int .i64 a.rep, .int .i64 a.sum], .agg [.str b.obj, .int .i64 b.rep, .int .i64 b.sum]] (.v (.bool (decide (a = b)))) := by
  refine FnW.of_AW TryT_ok 0 (fn := Try.f108) (by kernel_rfl) rfl (by kernel_rfl) rfl rfl rfl ?_
  refine AW_of h108 TryT_ok (by kernel_rfl) ?_
  simp -dsimp
  repeat' (first
    | refine And.intro ?_ ?_
    | intro _)
  all_goals first | assumption | (apply GTally.ext <;> assumption) | (subst_vars; simp_all; done) | grind

@[simp] def h58 : Hts := { dr := fun id => if id = 6 then [{}, {}, {}, {}, {}, {}, {}, {}, { cr := true }, {}] else [] }
theorem f58_ok (a b : List GTally) (ha : a.length ≤ 1073741824) : FnR Try.prog 58 [.v (.im a.length (flat a)), .v (.im b.length (flat b))] (.v (.bool (decide (a = b)))) := by
  refine FnW.of_AW TryT_ok 0 (fn := Try.f58) (by kernel_rfl) rfl (by kernel_rfl) rfl rfl rfl ?_
  refine AW_of h58 TryT_ok (by kernel_rfl) ?_
  simp -dsimp
  refine ⟨fun h e => h (by rw [e]), fun hl => ?_⟩
  replace hl : a.length = b.length := by omega
  refine AWh_loop (fun i : Nat => i ≤ a.length ∧ ∀ j : Nat, j < i → nth a j = nth b j) (fun i => mkE [(0, .c (.im a.length (flat a))), (1, .c (.im b.length (flat b))), (5, .c (.int .i64 i))] []) (fun i => a.length - i) 0 (Wk_to [0, 1, 5] [] rfl rfl (by simp)) (by simp) ?_
  rintro i ⟨hi, hall⟩
  refine AW_of h58 TryT_ok (by kernel_rfl) ?_
  rcases Nat.lt_or_ge i a.length with h1 | h1
  · have h2 : i < b.length := by omega
    simp -dsimp [h1, h2, ne_of_lt h1, ne_of_lt h2]
    first | refine ⟨by omega, by omega, ?_⟩ | skip
    refine ACallK_of (f108_ok _ _) ?_
    simp -dsimp
    refine ⟨fun h e => h (by rw [e]), fun h => ?_⟩
    refine Back_of (i + 1) [0, 1, 5] [] rfl rfl (by simp; rw [wrap64 (by omega) (by omega)]) ⟨by omega, fun j hj => ?_⟩ (by omega)
    by_cases e : j = i
    · subst e; exact h
    · exact hall j (by omega)
  · simp -dsimp [Nat.not_lt.2 h1]
    exact list_eq_of_nth hl (fun j hj => hall j (by omega))

@[simp] def h98 : Hts := {  }
theorem f98_ok (a : GTally) : FnR Try.prog 98 [.agg [.str a.obj, .int .i64 a.rep, .int .i64 a.sum]] (.agg [.str a.obj, .int .i64 a.rep, .int .i64 a.sum]) := by
  refine FnW.of_AW TryT_ok 0 (fn := Try.f98) (by kernel_rfl) rfl (by kernel_rfl) rfl rfl rfl ?_
  refine AW_of h98 TryT_ok (by kernel_rfl) ?_
  simp -dsimp

@[simp] def h46 : Hts := {  }
theorem f46_ok (a : List GTally) (ha : a.length ≤ 1073741824) : FnR Try.prog 46 [.v (.im a.length (flat a))] (.v (.ow 121 3 a.length (flat a))) := by
  refine FnW.of_AW TryT_ok 0 (fn := Try.f46) (by kernel_rfl) rfl (by kernel_rfl) rfl rfl rfl ?_
  refine AW_of h46 TryT_ok (by kernel_rfl) ?_
  simp -dsimp
  refine ⟨by simp [capMax]; omega, ?_⟩
  refine AWh_loop (fun i : Nat => i ≤ a.length) (fun i => mkE [(0, .c (.im a.length (flat a))), (3, .arr 448), (4, .c (.int .i64 i))] [(448, .arr 0 121 3 a.length (flat (a.take i ++ List.replicate (a.length - i) ⟨⟨#[]⟩, 0, 0⟩)))]) (fun i => a.length - i) 0 (Wk_to [0, 3, 4] [(448, 448)] rfl rfl (by simp)) (by simp) ?_
  rintro i hi
  refine AW_of h46 TryT_ok (by kernel_rfl) ?_
  rcases Nat.lt_or_ge i a.length with h1 | h1
  · have h2 : i < min i a.length + (a.length - i) := by omega
    simp -dsimp [h1, ne_of_lt h1, h2]
    first | refine ⟨by omega, ?_⟩ | skip
    refine ACallK_of (f98_ok _) ?_
    simp -dsimp [h1, h2]
    first | refine ⟨by omega, ?_⟩ | skip
    refine Back_of (i + 1) [0, 3, 4] [(448, 448)] rfl rfl ?_ (by omega) (by omega)
    simp -dsimp
    rw [wrap64 (by omega) (by omega), ← fill_step a ⟨⟨#[]⟩, 0, 0⟩ h1]
    try rfl
  · simp -dsimp [Nat.not_lt.2 h1]
    have : i = a.length := by omega
    subst this
    simp

@[simp] def h90 : Hts := {  }
theorem f90_ok (a : GTally) (l : Int) (hf : a.Fit) (h0 : 0 ≤ l) (h1 : l ≤ 1048576) : FnR Try.prog 90 [.agg [.str a.obj, .int .i64 a.rep, .int .i64 a.sum], .v (.int .i64 l)] (.v (.int .i64 (a.sz l))) := by
  simp only [GTally.Fit] at hf
  refine FnW.of_AW TryT_ok 0 (fn := Try.f90) (by kernel_rfl) rfl (by kernel_rfl) rfl rfl rfl ?_
  refine AW_of h90 TryT_ok (by kernel_rfl) ?_
  simp -dsimp
  rw [wrap64 (x := l - ↑a.obj.size) (by omega) (by omega)]
  refine ⟨fun n0 => ?_, fun p0 => ?_⟩
  · rw [GTally.sz, szq_neg n0]
  rw [GTally.sz, szq_go p0]

@[simp] def h35 : Hts := {  }
theorem f35_ok (a : List GTally) (l : Int) (ha : a.length ≤ 9223372036854775807) (hf : ∀ x, x ∈ a → x.Fit) (h0 : 0 ≤ l) (h1 : l ≤ 1048576) : FnR Try.prog 35 [.v (.im a.length (flat a)), .v (.int .i64 l)] (.v (.int .i64 (szS GTally.sz a l))) := by
  refine FnW.of_AW TryT_ok 0 (fn := Try.f35) (by kernel_rfl) rfl (by kernel_rfl) rfl rfl rfl ?_
  refine AW_of h35 TryT_ok (by kernel_rfl) ?_
  simp -dsimp
  rw [wrap64 (x := l - ↑a.length) (by omega) (by omega)]
  refine ⟨fun h => ?_, fun h => ?_⟩
  · rw [szS, szq_neg h]
  rw [szS, szq_go h]
  refine AWh_loop (fun s : Nat × Int => s.1 ≤ a.length ∧ 0 ≤ s.2 ∧ s.2 ≤ 1048576 ∧ szGo GTally.sz (a.drop s.1) s.2 = szGo GTally.sz a (l - a.length)) (fun s => mkE [(0, .c (.im a.length (flat a))), (1, .c (.int .i64 s.2)), (5, .c (.int .i64 s.1))] []) (fun s => a.length - s.1) (0, l - a.length) (Wk_to [0, 1, 5] [] rfl rfl (by simp)) ⟨by simp, h, by simp; omega, by simp⟩ ?_
  rintro ⟨i, m⟩ ⟨hi, hm0, hm1, hinv⟩
  simp only at hi hm0 hm1 hinv
  refine AW_of h35 TryT_ok (by kernel_rfl) ?_
  rcases Nat.lt_or_ge i a.length with h3 | h3
  · simp -dsimp [h3, ne_of_lt h3]
    first | refine ⟨by omega, ?_⟩ | skip
    refine ACallK_of (f90_ok _ _ (hf _ (nth_mem h3)) (by assumption) (by omega)) ?_
    simp -dsimp
    rw [szGo_drop h3] at hinv
    have hle := GTally.sz_le (nth a i) m hm0
    refine ⟨fun hn => ?_, fun hp => ?_⟩
    · rw [← hinv, szq_neg hn]
    · rw [szq_go hp] at hinv
      refine Back_of (i + 1, GTally.sz (nth a i) m) [0, 1, 5] [] rfl rfl (by simp; rw [wrap64 (by omega) (by omega)]) ⟨by simp; omega, hp, by simp; omega, hinv⟩ (by simp; omega)
  · have : i = a.length := by omega
    subst this
    simp -dsimp
    rw [← hinv, List.drop_of_length_le (Nat.le_refl _)]
    rfl

@[simp] def h109 : Hts := {  }
theorem f109_ok (a b : GLive) : FnR Try.prog 109 [.agg [.bool a.map, .str a.obj, .str a.key, .int .i64 a.val, .int .i64 a.dot.rep, .int .i64 a.dot.seq], .agg [.bool b.map, .str b.obj, .str b.key, .int .i64 b.val, .int .i64 b.dot.rep, .int .i64 b.dot.seq]] (.v (.bool (decide (a = b)))) := by
  refine FnW.of_AW TryT_ok 0 (fn := Try.f109) (by kernel_rfl) rfl (by kernel_rfl) rfl rfl rfl ?_
  refine AW_of h109 TryT_ok (by kernel_rfl) ?_
  simp -dsimp
  repeat' (first
    | (refine ACallK_of (f110_ok _ _) ?_; simp -dsimp)
    | refine And.intro ?_ ?_
    | intro _)
  all_goals first | assumption | (apply GLive.ext <;> assumption) | (subst_vars; simp_all; done) | grind

@[simp] def h59 : Hts := { dr := fun id => if id = 6 then [{}, {}, {}, {}, {}, {}, {}, {}, { cr := true }, {}] else [] }
theorem f59_ok (a b : List GLive) (ha : a.length ≤ 1073741824) : FnR Try.prog 59 [.v (.im a.length (flat a)), .v (.im b.length (flat b))] (.v (.bool (decide (a = b)))) := by
  refine FnW.of_AW TryT_ok 0 (fn := Try.f59) (by kernel_rfl) rfl (by kernel_rfl) rfl rfl rfl ?_
  refine AW_of h59 TryT_ok (by kernel_rfl) ?_
  simp -dsimp
  refine ⟨fun h e => h (by rw [e]), fun hl => ?_⟩
  replace hl : a.length = b.length := by omega
  refine AWh_loop (fun i : Nat => i ≤ a.length ∧ ∀ j : Nat, j < i → nth a j = nth b j) (fun i => mkE [(0, .c (.im a.length (flat a))), (1, .c (.im b.length (flat b))), (5, .c (.int .i64 i))] []) (fun i => a.length - i) 0 (Wk_to [0, 1, 5] [] rfl rfl (by simp)) (by simp) ?_
  rintro i ⟨hi, hall⟩
  refine AW_of h59 TryT_ok (by kernel_rfl) ?_
  rcases Nat.lt_or_ge i a.length with h1 | h1
  · have h2 : i < b.length := by omega
    simp -dsimp [h1, h2, ne_of_lt h1, ne_of_lt h2]
    first | refine ⟨by omega, by omega, ?_⟩ | skip
    refine ACallK_of (f109_ok _ _) ?_
    simp -dsimp
    refine ⟨fun h e => h (by rw [e]), fun h => ?_⟩
    refine Back_of (i + 1) [0, 1, 5] [] rfl rfl (by simp; rw [wrap64 (by omega) (by omega)]) ⟨by omega, fun j hj => ?_⟩ (by omega)
    by_cases e : j = i
    · subst e; exact h
    · exact hall j (by omega)
  · simp -dsimp [Nat.not_lt.2 h1]
    exact list_eq_of_nth hl (fun j hj => hall j (by omega))

@[simp] def h99 : Hts := {  }
theorem f99_ok (a : GLive) : FnR Try.prog 99 [.agg [.bool a.map, .str a.obj, .str a.key, .int .i64 a.val, .int .i64 a.dot.rep, .int .i64 a.dot.seq]] (.agg [.bool a.map, .str a.obj, .str a.key, .int .i64 a.val, .int .i64 a.dot.rep, .int .i64 a.dot.seq]) := by
  refine FnW.of_AW TryT_ok 0 (fn := Try.f99) (by kernel_rfl) rfl (by kernel_rfl) rfl rfl rfl ?_
  refine AW_of h99 TryT_ok (by kernel_rfl) ?_
  simp -dsimp
  repeat' (first
    | (refine ACallK_of (f100_ok _) ?_; simp -dsimp)
    | refine And.intro ?_ ?_)

@[simp] def h47 : Hts := {  }
theorem f47_ok (a : List GLive) (ha : a.length ≤ 1073741824) : FnR Try.prog 47 [.v (.im a.length (flat a))] (.v (.ow 78 6 a.length (flat a))) := by
  refine FnW.of_AW TryT_ok 0 (fn := Try.f47) (by kernel_rfl) rfl (by kernel_rfl) rfl rfl rfl ?_
  refine AW_of h47 TryT_ok (by kernel_rfl) ?_
  simp -dsimp
  refine ⟨by simp [capMax]; omega, ?_⟩
  refine AWh_loop (fun i : Nat => i ≤ a.length) (fun i => mkE [(0, .c (.im a.length (flat a))), (3, .arr 448), (4, .c (.int .i64 i))] [(448, .arr 0 78 6 a.length (flat (a.take i ++ List.replicate (a.length - i) ⟨false, ⟨#[]⟩, ⟨#[]⟩, 0, ⟨0, 0⟩⟩)))]) (fun i => a.length - i) 0 (Wk_to [0, 3, 4] [(448, 448)] rfl rfl (by simp)) (by simp) ?_
  rintro i hi
  refine AW_of h47 TryT_ok (by kernel_rfl) ?_
  rcases Nat.lt_or_ge i a.length with h1 | h1
  · have h2 : i < min i a.length + (a.length - i) := by omega
    simp -dsimp [h1, ne_of_lt h1, h2]
    first | refine ⟨by omega, ?_⟩ | skip
    refine ACallK_of (f99_ok _) ?_
    simp -dsimp [h1, h2]
    first | refine ⟨by omega, ?_⟩ | skip
    refine Back_of (i + 1) [0, 3, 4] [(448, 448)] rfl rfl ?_ (by omega) (by omega)
    simp -dsimp
    rw [wrap64 (by omega) (by omega), ← fill_step a ⟨false, ⟨#[]⟩, ⟨#[]⟩, 0, ⟨0, 0⟩⟩ h1]
    try rfl
  · simp -dsimp [Nat.not_lt.2 h1]
    have : i = a.length := by omega
    subst this
    simp

@[simp] def h91 : Hts := {  }
theorem f91_ok (a : GLive) (l : Int) (hf : a.Fit) (h0 : 0 ≤ l) (h1 : l ≤ 1048576) : FnR Try.prog 91 [.agg [.bool a.map, .str a.obj, .str a.key, .int .i64 a.val, .int .i64 a.dot.rep, .int .i64 a.dot.seq], .v (.int .i64 l)] (.v (.int .i64 (a.sz l))) := by
  simp only [GLive.Fit] at hf
  obtain ⟨o0, o1⟩ := hf
  refine FnW.of_AW TryT_ok 0 (fn := Try.f91) (by kernel_rfl) rfl (by kernel_rfl) rfl rfl rfl ?_
  refine AW_of h91 TryT_ok (by kernel_rfl) ?_
  simp -dsimp
  rw [wrap64 (x := l - ↑a.obj.size) (by omega) (by omega)]
  refine ⟨fun n0 => ?_, fun p0 => ?_⟩
  · rw [GLive.sz, szq_neg n0]
  rw [wrap64 (x := l - ↑a.obj.size - ↑a.key.size) (by omega) (by omega)]
  refine ⟨fun n1 => ?_, fun p1 => ?_⟩
  · rw [GLive.sz, szq_go p0, szq_neg n1]
  rw [GLive.sz, szq_go p0, szq_go p1]

@[simp] def h36 : Hts := {  }
theorem f36_ok (a : List GLive) (l : Int) (ha : a.length ≤ 9223372036854775807) (hf : ∀ x, x ∈ a → x.Fit) (h0 : 0 ≤ l) (h1 : l ≤ 1048576) : FnR Try.prog 36 [.v (.im a.length (flat a)), .v (.int .i64 l)] (.v (.int .i64 (szS GLive.sz a l))) := by
  refine FnW.of_AW TryT_ok 0 (fn := Try.f36) (by kernel_rfl) rfl (by kernel_rfl) rfl rfl rfl ?_
  refine AW_of h36 TryT_ok (by kernel_rfl) ?_
  simp -dsimp
  rw [wrap64 (x := l - ↑a.length) (by omega) (by omega)]
  refine ⟨fun h => ?_, fun h => ?_⟩
  · rw [szS, szq_neg h]
  rw [szS, szq_go h]
  refine AWh_loop (fun s : Nat × Int => s.1 ≤ a.length ∧ 0 ≤ s.2 ∧ s.2 ≤ 1048576 ∧ szGo GLive.sz (a.drop s.1) s.2 = szGo GLive.sz a (l - a.length)) (fun s => mkE [(0, .c (.im a.length (flat a))), (1, .c (.int .i64 s.2)), (5, .c (.int .i64 s.1))] []) (fun s => a.length - s.1) (0, l - a.length) (Wk_to [0, 1, 5] [] rfl rfl (by simp)) ⟨by simp, h, by simp; omega, by simp⟩ ?_
  rintro ⟨i, m⟩ ⟨hi, hm0, hm1, hinv⟩
  simp only at hi hm0 hm1 hinv
  refine AW_of h36 TryT_ok (by kernel_rfl) ?_
  rcases Nat.lt_or_ge i a.length with h3 | h3
  · simp -dsimp [h3, ne_of_lt h3]
    first | refine ⟨by omega, ?_⟩ | skip
    refine ACallK_of (f91_ok _ _ (hf _ (nth_mem h3)) (by assumption) (by omega)) ?_
    simp -dsimp
    rw [szGo_drop h3] at hinv
    have hle := GLive.sz_le (nth a i) m hm0
    refine ⟨fun hn => ?_, fun hp => ?_⟩
    · rw [← hinv, szq_neg hn]
    · rw [szq_go hp] at hinv
      refine Back_of (i + 1, GLive.sz (nth a i) m) [0, 1, 5] [] rfl rfl (by simp; rw [wrap64 (by omega) (by omega)]) ⟨by simp; omega, hp, by simp; omega, hinv⟩ (by simp; omega)
  · have : i = a.length := by omega
    subst this
    simp -dsimp
    rw [← hinv, List.drop_of_length_le (Nat.le_refl _)]
    rfl

@[simp] def h111 : Hts := {  }
theorem f111_ok (a b : GCell) : FnR Try.prog 111 [.agg [.str a.obj, .int .i64 a.dot.rep, .int .i64 a.dot.seq, .int .i64 a.time, .int .i64 a.ref.rep, .int .i64 a.ref.seq, .int .i64 a.val, .bool a.gone], .agg [.str b.obj, .int .i64 b.dot.rep, .int .i64 b.dot.seq, .int .i64 b.time, .int .i64 b.ref.rep, .int .i64 b.ref.seq, .int .i64 b.val, .bool b.gone]] (.v (.bool (decide (a = b)))) := by
  refine FnW.of_AW TryT_ok 0 (fn := Try.f111) (by kernel_rfl) rfl (by kernel_rfl) rfl rfl rfl ?_
  refine AW_of h111 TryT_ok (by kernel_rfl) ?_
  simp -dsimp
  repeat' (first
    | (refine ACallK_of (f110_ok _ _) ?_; simp -dsimp)
    | refine And.intro ?_ ?_
    | intro _)
  all_goals first | assumption | (apply GCell.ext <;> assumption) | (subst_vars; simp_all; done) | grind

@[simp] def h61 : Hts := { dr := fun id => if id = 6 then [{}, {}, {}, {}, {}, {}, {}, {}, { cr := true }, {}] else [] }
theorem f61_ok (a b : List GCell) (ha : a.length ≤ 1073741824) : FnR Try.prog 61 [.v (.im a.length (flat a)), .v (.im b.length (flat b))] (.v (.bool (decide (a = b)))) := by
  refine FnW.of_AW TryT_ok 0 (fn := Try.f61) (by kernel_rfl) rfl (by kernel_rfl) rfl rfl rfl ?_
  refine AW_of h61 TryT_ok (by kernel_rfl) ?_
  simp -dsimp
  refine ⟨fun h e => h (by rw [e]), fun hl => ?_⟩
  replace hl : a.length = b.length := by omega
  refine AWh_loop (fun i : Nat => i ≤ a.length ∧ ∀ j : Nat, j < i → nth a j = nth b j) (fun i => mkE [(0, .c (.im a.length (flat a))), (1, .c (.im b.length (flat b))), (5, .c (.int .i64 i))] []) (fun i => a.length - i) 0 (Wk_to [0, 1, 5] [] rfl rfl (by simp)) (by simp) ?_
  rintro i ⟨hi, hall⟩
  refine AW_of h61 TryT_ok (by kernel_rfl) ?_
  rcases Nat.lt_or_ge i a.length with h1 | h1
  · have h2 : i < b.length := by omega
    simp -dsimp [h1, h2, ne_of_lt h1, ne_of_lt h2]
    first | refine ⟨by omega, by omega, ?_⟩ | skip
    refine ACallK_of (f111_ok _ _) ?_
    simp -dsimp
    refine ⟨fun h e => h (by rw [e]), fun h => ?_⟩
    refine Back_of (i + 1) [0, 1, 5] [] rfl rfl (by simp; rw [wrap64 (by omega) (by omega)]) ⟨by omega, fun j hj => ?_⟩ (by omega)
    by_cases e : j = i
    · subst e; exact h
    · exact hall j (by omega)
  · simp -dsimp [Nat.not_lt.2 h1]
    exact list_eq_of_nth hl (fun j hj => hall j (by omega))

@[simp] def h101 : Hts := {  }
theorem f101_ok (a : GCell) : FnR Try.prog 101 [.agg [.str a.obj, .int .i64 a.dot.rep, .int .i64 a.dot.seq, .int .i64 a.time, .int .i64 a.ref.rep, .int .i64 a.ref.seq, .int .i64 a.val, .bool a.gone]] (.agg [.str a.obj, .int .i64 a.dot.rep, .int .i64 a.dot.seq, .int .i64 a.time, .int .i64 a.ref.rep, .int .i64 a.ref.seq, .int .i64 a.val, .bool a.gone]) := by
  refine FnW.of_AW TryT_ok 0 (fn := Try.f101) (by kernel_rfl) rfl (by kernel_rfl) rfl rfl rfl ?_
  refine AW_of h101 TryT_ok (by kernel_rfl) ?_
  simp -dsimp
  repeat' (first
    | (refine ACallK_of (f100_ok _) ?_; simp -dsimp)
    | refine And.intro ?_ ?_)

@[simp] def h49 : Hts := {  }
theorem f49_ok (a : List GCell) (ha : a.length ≤ 1073741824) : FnR Try.prog 49 [.v (.im a.length (flat a))] (.v (.ow 80 8 a.length (flat a))) := by
  refine FnW.of_AW TryT_ok 0 (fn := Try.f49) (by kernel_rfl) rfl (by kernel_rfl) rfl rfl rfl ?_
  refine AW_of h49 TryT_ok (by kernel_rfl) ?_
  simp -dsimp
  refine ⟨by simp [capMax]; omega, ?_⟩
  refine AWh_loop (fun i : Nat => i ≤ a.length) (fun i => mkE [(0, .c (.im a.length (flat a))), (3, .arr 448), (4, .c (.int .i64 i))] [(448, .arr 0 80 8 a.length (flat (a.take i ++ List.replicate (a.length - i) ⟨⟨#[]⟩, ⟨0, 0⟩, 0, ⟨0, 0⟩, 0, false⟩)))]) (fun i => a.length - i) 0 (Wk_to [0, 3, 4] [(448, 448)] rfl rfl (by simp)) (by simp) ?_
  rintro i hi
  refine AW_of h49 TryT_ok (by kernel_rfl) ?_
  rcases Nat.lt_or_ge i a.length with h1 | h1
  · have h2 : i < min i a.length + (a.length - i) := by omega
    simp -dsimp [h1, ne_of_lt h1, h2]
    first | refine ⟨by omega, ?_⟩ | skip
    refine ACallK_of (f101_ok _) ?_
    simp -dsimp [h1, h2]
    first | refine ⟨by omega, ?_⟩ | skip
    refine Back_of (i + 1) [0, 3, 4] [(448, 448)] rfl rfl ?_ (by omega) (by omega)
    simp -dsimp
    rw [wrap64 (by omega) (by omega), ← fill_step a ⟨⟨#[]⟩, ⟨0, 0⟩, 0, ⟨0, 0⟩, 0, false⟩ h1]
    try rfl
  · simp -dsimp [Nat.not_lt.2 h1]
    have : i = a.length := by omega
    subst this
    simp

@[simp] def h92 : Hts := {  }
theorem f92_ok (a : GCell) (l : Int) (hf : a.Fit) (h0 : 0 ≤ l) (h1 : l ≤ 1048576) : FnR Try.prog 92 [.agg [.str a.obj, .int .i64 a.dot.rep, .int .i64 a.dot.seq, .int .i64 a.time, .int .i64 a.ref.rep, .int .i64 a.ref.seq, .int .i64 a.val, .bool a.gone], .v (.int .i64 l)] (.v (.int .i64 (a.sz l))) := by
  simp only [GCell.Fit] at hf
  refine FnW.of_AW TryT_ok 0 (fn := Try.f92) (by kernel_rfl) rfl (by kernel_rfl) rfl rfl rfl ?_
  refine AW_of h92 TryT_ok (by kernel_rfl) ?_
  simp -dsimp
  rw [wrap64 (x := l - ↑a.obj.size) (by omega) (by omega)]
  refine ⟨fun n0 => ?_, fun p0 => ?_⟩
  · rw [GCell.sz, szq_neg n0]
  rw [GCell.sz, szq_go p0]

@[simp] def h38 : Hts := {  }
theorem f38_ok (a : List GCell) (l : Int) (ha : a.length ≤ 9223372036854775807) (hf : ∀ x, x ∈ a → x.Fit) (h0 : 0 ≤ l) (h1 : l ≤ 1048576) : FnR Try.prog 38 [.v (.im a.length (flat a)), .v (.int .i64 l)] (.v (.int .i64 (szS GCell.sz a l))) := by
  refine FnW.of_AW TryT_ok 0 (fn := Try.f38) (by kernel_rfl) rfl (by kernel_rfl) rfl rfl rfl ?_
  refine AW_of h38 TryT_ok (by kernel_rfl) ?_
  simp -dsimp
  rw [wrap64 (x := l - ↑a.length) (by omega) (by omega)]
  refine ⟨fun h => ?_, fun h => ?_⟩
  · rw [szS, szq_neg h]
  rw [szS, szq_go h]
  refine AWh_loop (fun s : Nat × Int => s.1 ≤ a.length ∧ 0 ≤ s.2 ∧ s.2 ≤ 1048576 ∧ szGo GCell.sz (a.drop s.1) s.2 = szGo GCell.sz a (l - a.length)) (fun s => mkE [(0, .c (.im a.length (flat a))), (1, .c (.int .i64 s.2)), (5, .c (.int .i64 s.1))] []) (fun s => a.length - s.1) (0, l - a.length) (Wk_to [0, 1, 5] [] rfl rfl (by simp)) ⟨by simp, h, by simp; omega, by simp⟩ ?_
  rintro ⟨i, m⟩ ⟨hi, hm0, hm1, hinv⟩
  simp only at hi hm0 hm1 hinv
  refine AW_of h38 TryT_ok (by kernel_rfl) ?_
  rcases Nat.lt_or_ge i a.length with h3 | h3
  · simp -dsimp [h3, ne_of_lt h3]
    first | refine ⟨by omega, ?_⟩ | skip
    refine ACallK_of (f92_ok _ _ (hf _ (nth_mem h3)) (by assumption) (by omega)) ?_
    simp -dsimp
    rw [szGo_drop h3] at hinv
    have hle := GCell.sz_le (nth a i) m hm0
    refine ⟨fun hn => ?_, fun hp => ?_⟩
    · rw [← hinv, szq_neg hn]
    · rw [szq_go hp] at hinv
      refine Back_of (i + 1, GCell.sz (nth a i) m) [0, 1, 5] [] rfl rfl (by simp; rw [wrap64 (by omega) (by omega)]) ⟨by simp; omega, hp, by simp; omega, hinv⟩ (by simp; omega)
  · have : i = a.length := by omega
    subst this
    simp -dsimp
    rw [← hinv, List.drop_of_length_le (Nat.le_refl _)]
    rfl

@[simp] def h137 : Hts := {  }
theorem f137_ok (a b : GAct) (h : a.Ok) : FnR Try.prog 137 [.agg [.int .i64 a.dot.rep, .int .i64 a.dot.seq, .int .i64 a.time, .im a.knew.length (flat a.knew), .int .i64 a.kind, .str a.obj, .str a.key, .int .i64 a.val, .int .i64 a.ref.rep, .int .i64 a.ref.seq], .agg [.int .i64 b.dot.rep, .int .i64 b.dot.seq, .int .i64 b.time, .im b.knew.length (flat b.knew), .int .i64 b.kind, .str b.obj, .str b.key, .int .i64 b.val, .int .i64 b.ref.rep, .int .i64 b.ref.seq]] (.v (.bool (decide (a = b)))) := by
  simp only [GAct.Ok] at h
  obtain ⟨o0, o1, o2⟩ := h
  refine FnW.of_AW TryT_ok 0 (fn := Try.f137) (by kernel_rfl) rfl (by kernel_rfl) rfl rfl rfl ?_
  refine AW_of h137 TryT_ok (by kernel_rfl) ?_
  simp -dsimp
  repeat' (first
    | (refine ACallK_of (f110_ok _ _) ?_; simp -dsimp)
    | (refine ACallK_of (f57_ok _ _ (by assumption)) ?_; simp -dsimp)
    | refine And.intro ?_ ?_
    | intro _)
  all_goals first | assumption | (apply GAct.ext <;> assumption) | (subst_vars; simp_all; done) | grind

@[simp] def h23 : Hts := {  }
theorem f23_ok (a b : GState) (h : a.Ok) : FnR Try.prog 23 [.agg [.im a.know.length (flat a.know), .im a.tallies.length (flat a.tallies), .im a.lives.length (flat a.lives), .im a.cs.length (flat a.cs)], .agg [.im b.know.length (flat b.know), .im b.tallies.length (flat b.tallies), .im b.lives.length (flat b.lives), .im b.cs.length (flat b.cs)]] (.v (.bool (decide (a = b)))) := by
  simp only [GState.Ok] at h
  obtain ⟨o0, o1, o2, o3, o4, o5, o6⟩ := h
  refine FnW.of_AW TryT_ok 0 (fn := Try.f23) (by kernel_rfl) rfl (by kernel_rfl) rfl rfl rfl ?_
  refine AW_of h23 TryT_ok (by kernel_rfl) ?_
  simp -dsimp
  repeat' (first
    | (refine ACallK_of (f57_ok _ _ (by assumption)) ?_; simp -dsimp)
    | (refine ACallK_of (f58_ok _ _ (by assumption)) ?_; simp -dsimp)
    | (refine ACallK_of (f59_ok _ _ (by assumption)) ?_; simp -dsimp)
    | (refine ACallK_of (f61_ok _ _ (by assumption)) ?_; simp -dsimp)
    | refine And.intro ?_ ?_
    | intro _)
  all_goals first | assumption | (apply GState.ext <;> assumption) | (subst_vars; simp_all; done) | grind

@[simp] def h21 : Hts := {  }
theorem f21_ok (a : GState) (h : a.Ok) : FnR Try.prog 21 [.agg [.im a.know.length (flat a.know), .im a.tallies.length (flat a.tallies), .im a.lives.length (flat a.lives), .im a.cs.length (flat a.cs)]] (.agg [.ow 3 1 a.know.length (flat a.know), .ow 121 3 a.tallies.length (flat a.tallies), .ow 78 6 a.lives.length (flat a.lives), .ow 80 8 a.cs.length (flat a.cs)]) := by
  simp only [GState.Ok] at h
  obtain ⟨o0, o1, o2, o3, o4, o5, o6⟩ := h
  refine FnW.of_AW TryT_ok 0 (fn := Try.f21) (by kernel_rfl) rfl (by kernel_rfl) rfl rfl rfl ?_
  refine AW_of h21 TryT_ok (by kernel_rfl) ?_
  simp -dsimp
  repeat' (first
    | (refine ACallK_of (f45_ok _ (by assumption)) ?_; simp -dsimp)
    | (refine ACallK_of (f46_ok _ (by assumption)) ?_; simp -dsimp)
    | (refine ACallK_of (f47_ok _ (by assumption)) ?_; simp -dsimp)
    | (refine ACallK_of (f49_ok _ (by assumption)) ?_; simp -dsimp)
    | refine And.intro ?_ ?_)

@[simp] def h19 : Hts := {  }
theorem f19_ok (a : GState) (l : Int) (hf : a.Fit) (h0 : 0 ≤ l) (h1 : l ≤ 1048576) : FnR Try.prog 19 [.agg [.im a.know.length (flat a.know), .im a.tallies.length (flat a.tallies), .im a.lives.length (flat a.lives), .im a.cs.length (flat a.cs)], .v (.int .i64 l)] (.v (.int .i64 (a.sz l))) := by
  simp only [GState.Fit] at hf
  obtain ⟨o0, o1, o2, o3, o4, o5, o6⟩ := hf
  refine FnW.of_AW TryT_ok 0 (fn := Try.f19) (by kernel_rfl) rfl (by kernel_rfl) rfl rfl rfl ?_
  refine AW_of h19 TryT_ok (by kernel_rfl) ?_
  simp -dsimp
  refine ACallK_of (f34_ok _ _ (by assumption) (by assumption) (by omega)) ?_
  simp -dsimp
  have q0 := szLen_le a.know _ h0
  refine ⟨fun n0 => ?_, fun p0 => ?_⟩
  · rw [GState.sz, szq_neg n0]
  refine ACallK_of (f35_ok _ _ (by assumption) (by assumption) (by assumption) (by omega)) ?_
  simp -dsimp
  have q1 := szS_le GTally.sz_le a.tallies _ p0
  refine ⟨fun n1 => ?_, fun p1 => ?_⟩
  · rw [GState.sz, szq_go p0, szq_neg n1]
  refine ACallK_of (f36_ok _ _ (by assumption) (by assumption) (by assumption) (by omega)) ?_
  simp -dsimp
  have q2 := szS_le GLive.sz_le a.lives _ p1
  refine ⟨fun n2 => ?_, fun p2 => ?_⟩
  · rw [GState.sz, szq_go p0, szq_go p1, szq_neg n2]
  refine ACallK_of (f38_ok _ _ (by assumption) (by assumption) (by assumption) (by omega)) ?_
  simp -dsimp
  have q3 := szS_le GCell.sz_le a.cs _ p2
  refine ⟨fun n3 => ?_, fun p3 => ?_⟩
  · rw [GState.sz, szq_go p0, szq_go p1, szq_go p2, szq_neg n3]
  rw [GState.sz, szq_go p0, szq_go p1, szq_go p2, szq_go p3]

@[simp] def h13 : Hts := {  }
theorem f13_ok (a b : GDelta) (h : a.Ok) : FnR Try.prog 13 [.agg [.im a.base.length (flat a.base), .im a.know.length (flat a.know), .im a.tallies.length (flat a.tallies), .im a.lives.length (flat a.lives), .im a.dead.length (flat a.dead), .im a.cs.length (flat a.cs)], .agg [.im b.base.length (flat b.base), .im b.know.length (flat b.know), .im b.tallies.length (flat b.tallies), .im b.lives.length (flat b.lives), .im b.dead.length (flat b.dead), .im b.cs.length (flat b.cs)]] (.v (.bool (decide (a = b)))) := by
  simp only [GDelta.Ok] at h
  obtain ⟨o0, o1, o2, o3, o4, o5, o6, o7, o8⟩ := h
  refine FnW.of_AW TryT_ok 0 (fn := Try.f13) (by kernel_rfl) rfl (by kernel_rfl) rfl rfl rfl ?_
  refine AW_of h13 TryT_ok (by kernel_rfl) ?_
  simp -dsimp
  repeat' (first
    | (refine ACallK_of (f57_ok _ _ (by assumption)) ?_; simp -dsimp)
    | (refine ACallK_of (f58_ok _ _ (by assumption)) ?_; simp -dsimp)
    | (refine ACallK_of (f59_ok _ _ (by assumption)) ?_; simp -dsimp)
    | (refine ACallK_of (f60_ok _ _ (by assumption)) ?_; simp -dsimp)
    | (refine ACallK_of (f61_ok _ _ (by assumption)) ?_; simp -dsimp)
    | refine And.intro ?_ ?_
    | intro _)
  all_goals first | assumption | (apply GDelta.ext <;> assumption) | (subst_vars; simp_all; done) | grind

@[simp] def h11 : Hts := {  }
theorem f11_ok (a : GDelta) (h : a.Ok) : FnR Try.prog 11 [.agg [.im a.base.length (flat a.base), .im a.know.length (flat a.know), .im a.tallies.length (flat a.tallies), .im a.lives.length (flat a.lives), .im a.dead.length (flat a.dead), .im a.cs.length (flat a.cs)]] (.agg [.ow 3 1 a.base.length (flat a.base), .ow 3 1 a.know.length (flat a.know), .ow 121 3 a.tallies.length (flat a.tallies), .ow 78 6 a.lives.length (flat a.lives), .ow 76 2 a.dead.length (flat a.dead), .ow 80 8 a.cs.length (flat a.cs)]) := by
  simp only [GDelta.Ok] at h
  obtain ⟨o0, o1, o2, o3, o4, o5, o6, o7, o8⟩ := h
  refine FnW.of_AW TryT_ok 0 (fn := Try.f11) (by kernel_rfl) rfl (by kernel_rfl) rfl rfl rfl ?_
  refine AW_of h11 TryT_ok (by kernel_rfl) ?_
  simp -dsimp
  repeat' (first
    | (refine ACallK_of (f45_ok _ (by assumption)) ?_; simp -dsimp)
    | (refine ACallK_of (f46_ok _ (by assumption)) ?_; simp -dsimp)
    | (refine ACallK_of (f47_ok _ (by assumption)) ?_; simp -dsimp)
    | (refine ACallK_of (f48_ok _ (by assumption)) ?_; simp -dsimp)
    | (refine ACallK_of (f49_ok _ (by assumption)) ?_; simp -dsimp)
    | refine And.intro ?_ ?_)

@[simp] def h9 : Hts := {  }
theorem f9_ok (a : GDelta) (l : Int) (hf : a.Fit) (h0 : 0 ≤ l) (h1 : l ≤ 1048576) : FnR Try.prog 9 [.agg [.im a.base.length (flat a.base), .im a.know.length (flat a.know), .im a.tallies.length (flat a.tallies), .im a.lives.length (flat a.lives), .im a.dead.length (flat a.dead), .im a.cs.length (flat a.cs)], .v (.int .i64 l)] (.v (.int .i64 (a.sz l))) := by
  simp only [GDelta.Fit] at hf
  obtain ⟨o0, o1, o2, o3, o4, o5, o6, o7, o8⟩ := hf
  refine FnW.of_AW TryT_ok 0 (fn := Try.f9) (by kernel_rfl) rfl (by kernel_rfl) rfl rfl rfl ?_
  refine AW_of h9 TryT_ok (by kernel_rfl) ?_
  simp -dsimp
  refine ACallK_of (f34_ok _ _ (by assumption) (by assumption) (by omega)) ?_
  simp -dsimp
  have q0 := szLen_le a.base _ h0
  refine ⟨fun n0 => ?_, fun p0 => ?_⟩
  · rw [GDelta.sz, szq_neg n0]
  refine ACallK_of (f34_ok _ _ (by assumption) (by assumption) (by omega)) ?_
  simp -dsimp
  have q1 := szLen_le a.know _ p0
  refine ⟨fun n1 => ?_, fun p1 => ?_⟩
  · rw [GDelta.sz, szq_go p0, szq_neg n1]
  refine ACallK_of (f35_ok _ _ (by assumption) (by assumption) (by assumption) (by omega)) ?_
  simp -dsimp
  have q2 := szS_le GTally.sz_le a.tallies _ p1
  refine ⟨fun n2 => ?_, fun p2 => ?_⟩
  · rw [GDelta.sz, szq_go p0, szq_go p1, szq_neg n2]
  refine ACallK_of (f36_ok _ _ (by assumption) (by assumption) (by assumption) (by omega)) ?_
  simp -dsimp
  have q3 := szS_le GLive.sz_le a.lives _ p2
  refine ⟨fun n3 => ?_, fun p3 => ?_⟩
  · rw [GDelta.sz, szq_go p0, szq_go p1, szq_go p2, szq_neg n3]
  refine ACallK_of (f37_ok _ _ (by assumption) (by assumption) (by omega)) ?_
  simp -dsimp
  have q4 := szLen_le a.dead _ p3
  refine ⟨fun n4 => ?_, fun p4 => ?_⟩
  · rw [GDelta.sz, szq_go p0, szq_go p1, szq_go p2, szq_go p3, szq_neg n4]
  refine ACallK_of (f38_ok _ _ (by assumption) (by assumption) (by assumption) (by omega)) ?_
  simp -dsimp
  have q5 := szS_le GCell.sz_le a.cs _ p4
  refine ⟨fun n5 => ?_, fun p5 => ?_⟩
  · rw [GDelta.sz, szq_go p0, szq_go p1, szq_go p2, szq_go p3, szq_go p4, szq_neg n5]
  rw [GDelta.sz, szq_go p0, szq_go p1, szq_go p2, szq_go p3, szq_go p4, szq_go p5]

@[simp] def h114 : Hts := {  }
theorem f114_ok (a b : GUnit) (h : a.Ok) : FnR Try.prog 114 [.agg [.bool a.batch, .int .i64 a.act.dot.rep, .int .i64 a.act.dot.seq, .int .i64 a.act.time, .im a.act.knew.length (flat a.act.knew), .int .i64 a.act.kind, .str a.act.obj, .str a.act.key, .int .i64 a.act.val, .int .i64 a.act.ref.rep, .int .i64 a.act.ref.seq, .im a.delta.base.length (flat a.delta.base), .im a.delta.know.length (flat a.delta.know), .im a.delta.tallies.length (flat a.delta.tallies), .im a.delta.lives.length (flat a.delta.lives), .im a.delta.dead.length (flat a.delta.dead), .im a.delta.cs.length (flat a.delta.cs)], .agg [.bool b.batch, .int .i64 b.act.dot.rep, .int .i64 b.act.dot.seq, .int .i64 b.act.time, .im b.act.knew.length (flat b.act.knew), .int .i64 b.act.kind, .str b.act.obj, .str b.act.key, .int .i64 b.act.val, .int .i64 b.act.ref.rep, .int .i64 b.act.ref.seq, .im b.delta.base.length (flat b.delta.base), .im b.delta.know.length (flat b.delta.know), .im b.delta.tallies.length (flat b.delta.tallies), .im b.delta.lives.length (flat b.delta.lives), .im b.delta.dead.length (flat b.delta.dead), .im b.delta.cs.length (flat b.delta.cs)]] (.v (.bool (decide (a = b)))) := by
  simp only [GUnit.Ok] at h
  obtain ⟨o0, o1⟩ := h
  refine FnW.of_AW TryT_ok 0 (fn := Try.f114) (by kernel_rfl) rfl (by kernel_rfl) rfl rfl rfl ?_
  refine AW_of h114 TryT_ok (by kernel_rfl) ?_
  simp -dsimp
  repeat' (first
    | (refine ACallK_of (f137_ok _ _ (by assumption)) ?_; simp -dsimp)
    | (refine ACallK_of (f13_ok _ _ (by assumption)) ?_; simp -dsimp)
    | refine And.intro ?_ ?_
    | intro _)
  all_goals first | assumption | (apply GUnit.ext <;> assumption) | (subst_vars; simp_all; done) | grind

@[simp] def h64 : Hts := { dr := fun id => if id = 6 then [{}, {}, {}, {}, {}, {}, {}, {}, { cr := true }, {}] else [] }
theorem f64_ok (a b : List GUnit) (ha : a.length ≤ 1073741824) (he : ∀ x, x ∈ a → x.Ok) : FnR Try.prog 64 [.v (.im a.length (flat a)), .v (.im b.length (flat b))] (.v (.bool (decide (a = b)))) := by
  refine FnW.of_AW TryT_ok 0 (fn := Try.f64) (by kernel_rfl) rfl (by kernel_rfl) rfl rfl rfl ?_
  refine AW_of h64 TryT_ok (by kernel_rfl) ?_
  simp -dsimp
  refine ⟨fun h e => h (by rw [e]), fun hl => ?_⟩
  replace hl : a.length = b.length := by omega
  refine AWh_loop (fun i : Nat => i ≤ a.length ∧ ∀ j : Nat, j < i → nth a j = nth b j) (fun i => mkE [(0, .c (.im a.length (flat a))), (1, .c (.im b.length (flat b))), (5, .c (.int .i64 i))] []) (fun i => a.length - i) 0 (Wk_to [0, 1, 5] [] rfl rfl (by simp)) (by simp) ?_
  rintro i ⟨hi, hall⟩
  refine AW_of h64 TryT_ok (by kernel_rfl) ?_
  rcases Nat.lt_or_ge i a.length with h1 | h1
  · have h2 : i < b.length := by omega
    simp -dsimp [h1, h2, ne_of_lt h1, ne_of_lt h2]
    first | refine ⟨by omega, by omega, ?_⟩ | skip
    refine ACallK_of (f114_ok _ _ (he _ (nth_mem h1))) ?_
    simp -dsimp
    refine ⟨fun h e => h (by rw [e]), fun h => ?_⟩
    refine Back_of (i + 1) [0, 1, 5] [] rfl rfl (by simp; rw [wrap64 (by omega) (by omega)]) ⟨by omega, fun j hj => ?_⟩ (by omega)
    by_cases e : j = i
    · subst e; exact h
    · exact hall j (by omega)
  · simp -dsimp [Nat.not_lt.2 h1]
    exact list_eq_of_nth hl (fun j hj => hall j (by omega))

@[simp] def h16 : Hts := {  }
theorem f16_ok (a b : GLog) (h : a.Ok) : FnR Try.prog 16 [.agg [.int .i64 a.rep, .int .i64 a.time, .im a.state.know.length (flat a.state.know), .im a.state.tallies.length (flat a.state.tallies), .im a.state.lives.length (flat a.state.lives), .im a.state.cs.length (flat a.state.cs), .im a.units.length (flat a.units), .im a.waits.length (flat a.waits)], .agg [.int .i64 b.rep, .int .i64 b.time, .im b.state.know.length (flat b.state.know), .im b.state.tallies.length (flat b.state.tallies), .im b.state.lives.length (flat b.state.lives), .im b.state.cs.length (flat b.state.cs), .im b.units.length (flat b.units), .im b.waits.length (flat b.waits)]] (.v (.bool (decide (a = b)))) := by
  simp only [GLog.Ok] at h
  obtain ⟨o0, o1, o2, o3, o4⟩ := h
  refine FnW.of_AW TryT_ok 0 (fn := Try.f16) (by kernel_rfl) rfl (by kernel_rfl) rfl rfl rfl ?_
  refine AW_of h16 TryT_ok (by kernel_rfl) ?_
  simp -dsimp
  repeat' (first
    | (refine ACallK_of (f23_ok _ _ (by assumption)) ?_; simp -dsimp)
    | (refine ACallK_of (f64_ok _ _ (by assumption) (by assumption)) ?_; simp -dsimp)
    | refine And.intro ?_ ?_
    | intro _)
  all_goals first | assumption | (apply GLog.ext <;> assumption) | (subst_vars; simp_all; done) | grind
end Am
