/- The law harness: what is alike, what is copied, how large it is. No condition. -/
import Derived.Test.YtpgnllakcjajjaaGreatT
import Derived.Test.YtpgnllakcjajjaaGreatD
namespace Am
open Go Go.Proofs
open Cel (cells)
set_option maxRecDepth 100000
set_option maxHeartbeats 4000000
set_option linter.unusedSimpArgs false
set_option linter.unusedVariables false

@[simp] def h62 : Hts := { dr := fun id => if id = 6 then [{}, {}, {}, {}, {}, {}, {}, {}, {}] else [] }
theorem f62_ok (a b : List Int) (ha : a.length ≤ 1073741824) : FnR Tryz.prog 62 [.v (.im a.length (flat a)), .v (.im b.length (flat b))] (.v (.bool (decide (a = b)))) := by
  refine FnW.of_AW TryzT_ok 0 (fn := Tryz.f62) (by kernel_rfl) rfl (by kernel_rfl) rfl rfl rfl ?_
  refine AW_of h62 TryzT_ok (by kernel_rfl) ?_
  simp -dsimp
  refine ⟨fun h e => h (by rw [e]), fun hl => ?_⟩
  replace hl : a.length = b.length := by omega
  refine AWh_loop (fun i : Nat => i ≤ a.length ∧ ∀ j : Nat, j < i → nth a j = nth b j) (fun i => mkE [(0, .c (.im a.length (flat a))), (1, .c (.im b.length (flat b))), (5, .c (.int .i64 i))] []) (fun i => a.length - i) 0 (Wk_to [0, 1, 5] [] rfl rfl (by simp)) (by simp) ?_
  rintro i ⟨hi, hall⟩
  refine AW_of h62 TryzT_ok (by kernel_rfl) ?_
  rcases Nat.lt_or_ge i a.length with h1 | h1
  · have h2 : i < b.length := by omega
    simp -dsimp [h1, h2, ne_of_lt h1, ne_of_lt h2]
    refine ⟨fun h e => h (by rw [e]), fun h => ?_⟩
    refine Back_of (i + 1) [0, 1, 5] [] rfl rfl (by simp; rw [wrap64 (by omega) (by omega)]) ⟨by omega, fun j hj => ?_⟩ (by omega)
    by_cases e : j = i
    · subst e; exact h
    · exact hall j (by omega)
  · simp -dsimp [Nat.not_lt.2 h1]
    exact list_eq_of_nth hl (fun j hj => hall j (by omega))

@[simp] def h49 : Hts := {  }
theorem f49_ok (a : List Int) (ha : a.length ≤ 1073741824) : FnR Tryz.prog 49 [.v (.im a.length (flat a))] (.v (.ow 3 1 a.length (flat a))) := by
  refine FnW.of_AW TryzT_ok 0 (fn := Tryz.f49) (by kernel_rfl) rfl (by kernel_rfl) rfl rfl rfl ?_
  refine AW_of h49 TryzT_ok (by kernel_rfl) ?_
  simp -dsimp
  refine ⟨by simp [capMax]; omega, ?_⟩
  refine AWh_loop (fun i : Nat => i ≤ a.length) (fun i => mkE [(0, .c (.im a.length (flat a))), (3, .arr 448), (4, .c (.int .i64 i))] [(448, .arr 0 3 1 a.length (flat (a.take i ++ List.replicate (a.length - i) 0)))]) (fun i => a.length - i) 0 (Wk_to [0, 3, 4] [(448, 448)] rfl rfl (by simp)) (by simp) ?_
  rintro i hi
  refine AW_of h49 TryzT_ok (by kernel_rfl) ?_
  rcases Nat.lt_or_ge i a.length with h1 | h1
  · have h2 : i < min i a.length + (a.length - i) := by omega
    simp -dsimp [h1, ne_of_lt h1, h2]
    first | refine ⟨by omega, ?_⟩ | skip
    refine Back_of (i + 1) [0, 3, 4] [(448, 448)] rfl rfl ?_ (by omega) (by omega)
    simp -dsimp
    rw [wrap64 (by omega) (by omega), ← fill_step a 0 h1]
    try rfl
  · simp -dsimp [Nat.not_lt.2 h1]
    have : i = a.length := by omega
    subst this
    simp

@[simp] def h37 : Hts := {  }
theorem f37_ok (a : List Int) (l : Int) (ha : a.length ≤ 9223372036854775807) (h0 : 0 ≤ l) (h1 : l ≤ 1048576) : FnR Tryz.prog 37 [.v (.im a.length (flat a)), .v (.int .i64 l)] (.v (.int .i64 (szLen a l))) := by
  refine FnW.of_AW TryzT_ok 0 (fn := Tryz.f37) (by kernel_rfl) rfl (by kernel_rfl) rfl rfl rfl ?_
  refine AW_of h37 TryzT_ok (by kernel_rfl) ?_
  simp -dsimp
  rw [wrap64 (x := l - ↑a.length) (by omega) (by omega)]
  refine ⟨fun h => ?_, fun h => ?_⟩
  · rw [szLen, szq_neg h]
  · rw [szLen, szq_go h]

@[simp] def h159 : Hts := {  }
theorem f159_ok (a b : GDot) : FnR Tryz.prog 159 [.agg [.int .i64 a.rep, .int .i64 a.seq], .agg [.int .i64 b.rep, .int .i64 b.seq]] (.v (.bool (decide (a = b)))) := by
  refine FnW.of_AW TryzT_ok 0 (fn := Tryz.f159) (by kernel_rfl) rfl (by kernel_rfl) rfl rfl rfl ?_
  refine AW_of h159 TryzT_ok (by kernel_rfl) ?_
  simp -dsimp
  repeat' (first
    | refine And.intro ?_ ?_
    | intro _)
  all_goals first | assumption | (apply GDot.ext <;> assumption) | (subst_vars; simp_all; done) | grind

@[simp] def h95 : Hts := { dr := fun id => if id = 6 then [{}, {}, {}, {}, {}, {}, {}, {}, { cr := true }, {}] else [] }
theorem f95_ok (a b : List GDot) (ha : a.length ≤ 1073741824) : FnR Tryz.prog 95 [.v (.im a.length (flat a)), .v (.im b.length (flat b))] (.v (.bool (decide (a = b)))) := by
  refine FnW.of_AW TryzT_ok 0 (fn := Tryz.f95) (by kernel_rfl) rfl (by kernel_rfl) rfl rfl rfl ?_
  refine AW_of h95 TryzT_ok (by kernel_rfl) ?_
  simp -dsimp
  refine ⟨fun h e => h (by rw [e]), fun hl => ?_⟩
  replace hl : a.length = b.length := by omega
  refine AWh_loop (fun i : Nat => i ≤ a.length ∧ ∀ j : Nat, j < i → nth a j = nth b j) (fun i => mkE [(0, .c (.im a.length (flat a))), (1, .c (.im b.length (flat b))), (5, .c (.int .i64 i))] []) (fun i => a.length - i) 0 (Wk_to [0, 1, 5] [] rfl rfl (by simp)) (by simp) ?_
  rintro i ⟨hi, hall⟩
  refine AW_of h95 TryzT_ok (by kernel_rfl) ?_
  rcases Nat.lt_or_ge i a.length with h1 | h1
  · have h2 : i < b.length := by omega
    simp -dsimp [h1, h2, ne_of_lt h1, ne_of_lt h2]
    first | refine ⟨by omega, by omega, ?_⟩ | skip
    refine ACallK_of (f159_ok _ _) ?_
    simp -dsimp
    refine ⟨fun h e => h (by rw [e]), fun h => ?_⟩
    refine Back_of (i + 1) [0, 1, 5] [] rfl rfl (by simp; rw [wrap64 (by omega) (by omega)]) ⟨by omega, fun j hj => ?_⟩ (by omega)
    by_cases e : j = i
    · subst e; exact h
    · exact hall j (by omega)
  · simp -dsimp [Nat.not_lt.2 h1]
    exact list_eq_of_nth hl (fun j hj => hall j (by omega))

@[simp] def h162 : Hts := {  }
theorem f162_ok (a : GDot) : FnR Tryz.prog 162 [.agg [.int .i64 a.rep, .int .i64 a.seq]] (.agg [.int .i64 a.rep, .int .i64 a.seq]) := by
  refine FnW.of_AW TryzT_ok 0 (fn := Tryz.f162) (by kernel_rfl) rfl (by kernel_rfl) rfl rfl rfl ?_
  refine AW_of h162 TryzT_ok (by kernel_rfl) ?_
  simp -dsimp

@[simp] def h102 : Hts := {  }
theorem f102_ok (a : List GDot) (ha : a.length ≤ 1073741824) : FnR Tryz.prog 102 [.v (.im a.length (flat a))] (.v (.ow 80 2 a.length (flat a))) := by
  refine FnW.of_AW TryzT_ok 0 (fn := Tryz.f102) (by kernel_rfl) rfl (by kernel_rfl) rfl rfl rfl ?_
  refine AW_of h102 TryzT_ok (by kernel_rfl) ?_
  simp -dsimp
  refine ⟨by simp [capMax]; omega, ?_⟩
  refine AWh_loop (fun i : Nat => i ≤ a.length) (fun i => mkE [(0, .c (.im a.length (flat a))), (3, .arr 448), (4, .c (.int .i64 i))] [(448, .arr 0 80 2 a.length (flat (a.take i ++ List.replicate (a.length - i) ⟨0, 0⟩)))]) (fun i => a.length - i) 0 (Wk_to [0, 3, 4] [(448, 448)] rfl rfl (by simp)) (by simp) ?_
  rintro i hi
  refine AW_of h102 TryzT_ok (by kernel_rfl) ?_
  rcases Nat.lt_or_ge i a.length with h1 | h1
  · have h2 : i < min i a.length + (a.length - i) := by omega
    simp -dsimp [h1, ne_of_lt h1, h2]
    first | refine ⟨by omega, ?_⟩ | skip
    refine ACallK_of (f162_ok _) ?_
    simp -dsimp [h1, h2]
    first | refine ⟨by omega, ?_⟩ | skip
    refine Back_of (i + 1) [0, 3, 4] [(448, 448)] rfl rfl ?_ (by omega) (by omega)
    simp -dsimp
    rw [wrap64 (by omega) (by omega), ← fill_step a ⟨0, 0⟩ h1]
    try rfl
  · simp -dsimp [Nat.not_lt.2 h1]
    have : i = a.length := by omega
    subst this
    simp

@[simp] def h98 : Hts := {  }
theorem f98_ok (a : List GDot) (l : Int) (ha : a.length ≤ 9223372036854775807) (h0 : 0 ≤ l) (h1 : l ≤ 1048576) : FnR Tryz.prog 98 [.v (.im a.length (flat a)), .v (.int .i64 l)] (.v (.int .i64 (szLen a l))) := by
  refine FnW.of_AW TryzT_ok 0 (fn := Tryz.f98) (by kernel_rfl) rfl (by kernel_rfl) rfl rfl rfl ?_
  refine AW_of h98 TryzT_ok (by kernel_rfl) ?_
  simp -dsimp
  rw [wrap64 (x := l - ↑a.length) (by omega) (by omega)]
  refine ⟨fun h => ?_, fun h => ?_⟩
  · rw [szLen, szq_neg h]
  · rw [szLen, szq_go h]

@[simp] def h143 : Hts := {  }
theorem f143_ok (a b : GTally) : FnR Tryz.prog 143 [.agg [.str a.obj, .int .i64 a.rep, .int .i64 a.sum], .agg [.str b.obj, .int .i64 b.rep, .int .i64 b.sum]] (.v (.bool (decide (a = b)))) := by
  refine FnW.of_AW TryzT_ok 0 (fn := Tryz.f143) (by kernel_rfl) rfl (by kernel_rfl) rfl rfl rfl ?_
  refine AW_of h143 TryzT_ok (by kernel_rfl) ?_
  simp -dsimp
  repeat' (first
    | refine And.intro ?_ ?_
    | intro _)
  all_goals first | assumption | (apply GTally.ext <;> assumption) | (subst_vars; simp_all; done) | grind

@[simp] def h63 : Hts := { dr := fun id => if id = 6 then [{}, {}, {}, {}, {}, {}, {}, {}, { cr := true }, {}] else [] }
theorem f63_ok (a b : List GTally) (ha : a.length ≤ 1073741824) : FnR Tryz.prog 63 [.v (.im a.length (flat a)), .v (.im b.length (flat b))] (.v (.bool (decide (a = b)))) := by
  refine FnW.of_AW TryzT_ok 0 (fn := Tryz.f63) (by kernel_rfl) rfl (by kernel_rfl) rfl rfl rfl ?_
  refine AW_of h63 TryzT_ok (by kernel_rfl) ?_
  simp -dsimp
  refine ⟨fun h e => h (by rw [e]), fun hl => ?_⟩
  replace hl : a.length = b.length := by omega
  refine AWh_loop (fun i : Nat => i ≤ a.length ∧ ∀ j : Nat, j < i → nth a j = nth b j) (fun i => mkE [(0, .c (.im a.length (flat a))), (1, .c (.im b.length (flat b))), (5, .c (.int .i64 i))] []) (fun i => a.length - i) 0 (Wk_to [0, 1, 5] [] rfl rfl (by simp)) (by simp) ?_
  rintro i ⟨hi, hall⟩
  refine AW_of h63 TryzT_ok (by kernel_rfl) ?_
  rcases Nat.lt_or_ge i a.length with h1 | h1
  · have h2 : i < b.length := by omega
    simp -dsimp [h1, h2, ne_of_lt h1, ne_of_lt h2]
    first | refine ⟨by omega, by omega, ?_⟩ | skip
    refine ACallK_of (f143_ok _ _) ?_
    simp -dsimp
    refine ⟨fun h e => h (by rw [e]), fun h => ?_⟩
    refine Back_of (i + 1) [0, 1, 5] [] rfl rfl (by simp; rw [wrap64 (by omega) (by omega)]) ⟨by omega, fun j hj => ?_⟩ (by omega)
    by_cases e : j = i
    · subst e; exact h
    · exact hall j (by omega)
  · simp -dsimp [Nat.not_lt.2 h1]
    exact list_eq_of_nth hl (fun j hj => hall j (by omega))

@[simp] def h127 : Hts := {  }
theorem f127_ok (a : GTally) : FnR Tryz.prog 127 [.agg [.str a.obj, .int .i64 a.rep, .int .i64 a.sum]] (.agg [.str a.obj, .int .i64 a.rep, .int .i64 a.sum]) := by
  refine FnW.of_AW TryzT_ok 0 (fn := Tryz.f127) (by kernel_rfl) rfl (by kernel_rfl) rfl rfl rfl ?_
  refine AW_of h127 TryzT_ok (by kernel_rfl) ?_
  simp -dsimp

@[simp] def h50 : Hts := {  }
theorem f50_ok (a : List GTally) (ha : a.length ≤ 1073741824) : FnR Tryz.prog 50 [.v (.im a.length (flat a))] (.v (.ow 118 3 a.length (flat a))) := by
  refine FnW.of_AW TryzT_ok 0 (fn := Tryz.f50) (by kernel_rfl) rfl (by kernel_rfl) rfl rfl rfl ?_
  refine AW_of h50 TryzT_ok (by kernel_rfl) ?_
  simp -dsimp
  refine ⟨by simp [capMax]; omega, ?_⟩
  refine AWh_loop (fun i : Nat => i ≤ a.length) (fun i => mkE [(0, .c (.im a.length (flat a))), (3, .arr 448), (4, .c (.int .i64 i))] [(448, .arr 0 118 3 a.length (flat (a.take i ++ List.replicate (a.length - i) ⟨⟨#[]⟩, 0, 0⟩)))]) (fun i => a.length - i) 0 (Wk_to [0, 3, 4] [(448, 448)] rfl rfl (by simp)) (by simp) ?_
  rintro i hi
  refine AW_of h50 TryzT_ok (by kernel_rfl) ?_
  rcases Nat.lt_or_ge i a.length with h1 | h1
  · have h2 : i < min i a.length + (a.length - i) := by omega
    simp -dsimp [h1, ne_of_lt h1, h2]
    first | refine ⟨by omega, ?_⟩ | skip
    refine ACallK_of (f127_ok _) ?_
    simp -dsimp [h1, h2]
    first | refine ⟨by omega, ?_⟩ | skip
    refine Back_of (i + 1) [0, 3, 4] [(448, 448)] rfl rfl ?_ (by omega) (by omega)
    simp -dsimp
    rw [wrap64 (by omega) (by omega), ← fill_step a ⟨⟨#[]⟩, 0, 0⟩ h1]
    try rfl
  · simp -dsimp [Nat.not_lt.2 h1]
    have : i = a.length := by omega
    subst this
    simp

@[simp] def h117 : Hts := {  }
theorem f117_ok (a : GTally) (l : Int) (hf : a.Fit) (h0 : 0 ≤ l) (h1 : l ≤ 1048576) : FnR Tryz.prog 117 [.agg [.str a.obj, .int .i64 a.rep, .int .i64 a.sum], .v (.int .i64 l)] (.v (.int .i64 (a.sz l))) := by
  simp only [GTally.Fit] at hf
  refine FnW.of_AW TryzT_ok 0 (fn := Tryz.f117) (by kernel_rfl) rfl (by kernel_rfl) rfl rfl rfl ?_
  refine AW_of h117 TryzT_ok (by kernel_rfl) ?_
  simp -dsimp
  rw [wrap64 (x := l - ↑a.obj.size) (by omega) (by omega)]
  refine ⟨fun n0 => ?_, fun p0 => ?_⟩
  · rw [GTally.sz, szq_neg n0]
  rw [GTally.sz, szq_go p0]

@[simp] def h38 : Hts := {  }
theorem f38_ok (a : List GTally) (l : Int) (ha : a.length ≤ 9223372036854775807) (hf : ∀ x, x ∈ a → x.Fit) (h0 : 0 ≤ l) (h1 : l ≤ 1048576) : FnR Tryz.prog 38 [.v (.im a.length (flat a)), .v (.int .i64 l)] (.v (.int .i64 (szS GTally.sz a l))) := by
  refine FnW.of_AW TryzT_ok 0 (fn := Tryz.f38) (by kernel_rfl) rfl (by kernel_rfl) rfl rfl rfl ?_
  refine AW_of h38 TryzT_ok (by kernel_rfl) ?_
  simp -dsimp
  rw [wrap64 (x := l - ↑a.length) (by omega) (by omega)]
  refine ⟨fun h => ?_, fun h => ?_⟩
  · rw [szS, szq_neg h]
  rw [szS, szq_go h]
  refine AWh_loop (fun s : Nat × Int => s.1 ≤ a.length ∧ 0 ≤ s.2 ∧ s.2 ≤ 1048576 ∧ szGo GTally.sz (a.drop s.1) s.2 = szGo GTally.sz a (l - a.length)) (fun s => mkE [(0, .c (.im a.length (flat a))), (1, .c (.int .i64 s.2)), (5, .c (.int .i64 s.1))] []) (fun s => a.length - s.1) (0, l - a.length) (Wk_to [0, 1, 5] [] rfl rfl (by simp)) ⟨by simp, h, by simp; omega, by simp⟩ ?_
  rintro ⟨i, m⟩ ⟨hi, hm0, hm1, hinv⟩
  simp only at hi hm0 hm1 hinv
  refine AW_of h38 TryzT_ok (by kernel_rfl) ?_
  rcases Nat.lt_or_ge i a.length with h3 | h3
  · simp -dsimp [h3, ne_of_lt h3]
    first | refine ⟨by omega, ?_⟩ | skip
    refine ACallK_of (f117_ok _ _ (hf _ (nth_mem h3)) (by assumption) (by omega)) ?_
    simp -dsimp
    rw [szGo_drop h3] at hinv
    have hle := GTally.sz_le (nth a i) m hm0
    refine ⟨fun hn => ?_, fun hp => ?_⟩
    · rw [← hinv, szq_neg hn]
    · rw [szq_go hp] at hinv
      refine Back_of (i + 1, GTally.sz (nth a i) m) [0, 1, 5] [] rfl rfl (by simp; rw [wrap64 (by omega) (by omega)]) ⟨by simp; omega, hp, by simp; omega, hinv⟩ (by simp; omega)
  · have : i = a.length := by omega
    subst this
    simp -dsimp
    rw [← hinv, List.drop_of_length_le (Nat.le_refl _)]
    rfl

@[simp] def h144 : Hts := {  }
theorem f144_ok (a b : GLive) : FnR Tryz.prog 144 [.agg [.bool a.map, .str a.obj, .str a.key, .int .i64 a.val, .int .i64 a.dot.rep, .int .i64 a.dot.seq], .agg [.bool b.map, .str b.obj, .str b.key, .int .i64 b.val, .int .i64 b.dot.rep, .int .i64 b.dot.seq]] (.v (.bool (decide (a = b)))) := by
  refine FnW.of_AW TryzT_ok 0 (fn := Tryz.f144) (by kernel_rfl) rfl (by kernel_rfl) rfl rfl rfl ?_
  refine AW_of h144 TryzT_ok (by kernel_rfl) ?_
  simp -dsimp
  repeat' (first
    | (refine ACallK_of (f159_ok _ _) ?_; simp -dsimp)
    | refine And.intro ?_ ?_
    | intro _)
  all_goals first | assumption | (apply GLive.ext <;> assumption) | (subst_vars; simp_all; done) | grind

@[simp] def h64 : Hts := { dr := fun id => if id = 6 then [{}, {}, {}, {}, {}, {}, {}, {}, { cr := true }, {}] else [] }
theorem f64_ok (a b : List GLive) (ha : a.length ≤ 1073741824) : FnR Tryz.prog 64 [.v (.im a.length (flat a)), .v (.im b.length (flat b))] (.v (.bool (decide (a = b)))) := by
  refine FnW.of_AW TryzT_ok 0 (fn := Tryz.f64) (by kernel_rfl) rfl (by kernel_rfl) rfl rfl rfl ?_
  refine AW_of h64 TryzT_ok (by kernel_rfl) ?_
  simp -dsimp
  refine ⟨fun h e => h (by rw [e]), fun hl => ?_⟩
  replace hl : a.length = b.length := by omega
  refine AWh_loop (fun i : Nat => i ≤ a.length ∧ ∀ j : Nat, j < i → nth a j = nth b j) (fun i => mkE [(0, .c (.im a.length (flat a))), (1, .c (.im b.length (flat b))), (5, .c (.int .i64 i))] []) (fun i => a.length - i) 0 (Wk_to [0, 1, 5] [] rfl rfl (by simp)) (by simp) ?_
  rintro i ⟨hi, hall⟩
  refine AW_of h64 TryzT_ok (by kernel_rfl) ?_
  rcases Nat.lt_or_ge i a.length with h1 | h1
  · have h2 : i < b.length := by omega
    simp -dsimp [h1, h2, ne_of_lt h1, ne_of_lt h2]
    first | refine ⟨by omega, by omega, ?_⟩ | skip
    refine ACallK_of (f144_ok _ _) ?_
    simp -dsimp
    refine ⟨fun h e => h (by rw [e]), fun h => ?_⟩
    refine Back_of (i + 1) [0, 1, 5] [] rfl rfl (by simp; rw [wrap64 (by omega) (by omega)]) ⟨by omega, fun j hj => ?_⟩ (by omega)
    by_cases e : j = i
    · subst e; exact h
    · exact hall j (by omega)
  · simp -dsimp [Nat.not_lt.2 h1]
    exact list_eq_of_nth hl (fun j hj => hall j (by omega))

@[simp] def h128 : Hts := {  }
theorem f128_ok (a : GLive) : FnR Tryz.prog 128 [.agg [.bool a.map, .str a.obj, .str a.key, .int .i64 a.val, .int .i64 a.dot.rep, .int .i64 a.dot.seq]] (.agg [.bool a.map, .str a.obj, .str a.key, .int .i64 a.val, .int .i64 a.dot.rep, .int .i64 a.dot.seq]) := by
  refine FnW.of_AW TryzT_ok 0 (fn := Tryz.f128) (by kernel_rfl) rfl (by kernel_rfl) rfl rfl rfl ?_
  refine AW_of h128 TryzT_ok (by kernel_rfl) ?_
  simp -dsimp
  repeat' (first
    | (refine ACallK_of (f162_ok _) ?_; simp -dsimp)
    | refine And.intro ?_ ?_)

@[simp] def h51 : Hts := {  }
theorem f51_ok (a : List GLive) (ha : a.length ≤ 1073741824) : FnR Tryz.prog 51 [.v (.im a.length (flat a))] (.v (.ow 82 6 a.length (flat a))) := by
  refine FnW.of_AW TryzT_ok 0 (fn := Tryz.f51) (by kernel_rfl) rfl (by kernel_rfl) rfl rfl rfl ?_
  refine AW_of h51 TryzT_ok (by kernel_rfl) ?_
  simp -dsimp
  refine ⟨by simp [capMax]; omega, ?_⟩
  refine AWh_loop (fun i : Nat => i ≤ a.length) (fun i => mkE [(0, .c (.im a.length (flat a))), (3, .arr 448), (4, .c (.int .i64 i))] [(448, .arr 0 82 6 a.length (flat (a.take i ++ List.replicate (a.length - i) ⟨false, ⟨#[]⟩, ⟨#[]⟩, 0, ⟨0, 0⟩⟩)))]) (fun i => a.length - i) 0 (Wk_to [0, 3, 4] [(448, 448)] rfl rfl (by simp)) (by simp) ?_
  rintro i hi
  refine AW_of h51 TryzT_ok (by kernel_rfl) ?_
  rcases Nat.lt_or_ge i a.length with h1 | h1
  · have h2 : i < min i a.length + (a.length - i) := by omega
    simp -dsimp [h1, ne_of_lt h1, h2]
    first | refine ⟨by omega, ?_⟩ | skip
    refine ACallK_of (f128_ok _) ?_
    simp -dsimp [h1, h2]
    first | refine ⟨by omega, ?_⟩ | skip
    refine Back_of (i + 1) [0, 3, 4] [(448, 448)] rfl rfl ?_ (by omega) (by omega)
    simp -dsimp
    rw [wrap64 (by omega) (by omega), ← fill_step a ⟨false, ⟨#[]⟩, ⟨#[]⟩, 0, ⟨0, 0⟩⟩ h1]
    try rfl
  · simp -dsimp [Nat.not_lt.2 h1]
    have : i = a.length := by omega
    subst this
    simp

@[simp] def h118 : Hts := {  }
theorem f118_ok (a : GLive) (l : Int) (hf : a.Fit) (h0 : 0 ≤ l) (h1 : l ≤ 1048576) : FnR Tryz.prog 118 [.agg [.bool a.map, .str a.obj, .str a.key, .int .i64 a.val, .int .i64 a.dot.rep, .int .i64 a.dot.seq], .v (.int .i64 l)] (.v (.int .i64 (a.sz l))) := by
  simp only [GLive.Fit] at hf
  obtain ⟨o0, o1⟩ := hf
  refine FnW.of_AW TryzT_ok 0 (fn := Tryz.f118) (by kernel_rfl) rfl (by kernel_rfl) rfl rfl rfl ?_
  refine AW_of h118 TryzT_ok (by kernel_rfl) ?_
  simp -dsimp
  rw [wrap64 (x := l - ↑a.obj.size) (by omega) (by omega)]
  refine ⟨fun n0 => ?_, fun p0 => ?_⟩
  · rw [GLive.sz, szq_neg n0]
  rw [wrap64 (x := l - ↑a.obj.size - ↑a.key.size) (by omega) (by omega)]
  refine ⟨fun n1 => ?_, fun p1 => ?_⟩
  · rw [GLive.sz, szq_go p0, szq_neg n1]
  rw [GLive.sz, szq_go p0, szq_go p1]

@[simp] def h39 : Hts := {  }
theorem f39_ok (a : List GLive) (l : Int) (ha : a.length ≤ 9223372036854775807) (hf : ∀ x, x ∈ a → x.Fit) (h0 : 0 ≤ l) (h1 : l ≤ 1048576) : FnR Tryz.prog 39 [.v (.im a.length (flat a)), .v (.int .i64 l)] (.v (.int .i64 (szS GLive.sz a l))) := by
  refine FnW.of_AW TryzT_ok 0 (fn := Tryz.f39) (by kernel_rfl) rfl (by kernel_rfl) rfl rfl rfl ?_
  refine AW_of h39 TryzT_ok (by kernel_rfl) ?_
  simp -dsimp
  rw [wrap64 (x := l - ↑a.length) (by omega) (by omega)]
  refine ⟨fun h => ?_, fun h => ?_⟩
  · rw [szS, szq_neg h]
  rw [szS, szq_go h]
  refine AWh_loop (fun s : Nat × Int => s.1 ≤ a.length ∧ 0 ≤ s.2 ∧ s.2 ≤ 1048576 ∧ szGo GLive.sz (a.drop s.1) s.2 = szGo GLive.sz a (l - a.length)) (fun s => mkE [(0, .c (.im a.length (flat a))), (1, .c (.int .i64 s.2)), (5, .c (.int .i64 s.1))] []) (fun s => a.length - s.1) (0, l - a.length) (Wk_to [0, 1, 5] [] rfl rfl (by simp)) ⟨by simp, h, by simp; omega, by simp⟩ ?_
  rintro ⟨i, m⟩ ⟨hi, hm0, hm1, hinv⟩
  simp only at hi hm0 hm1 hinv
  refine AW_of h39 TryzT_ok (by kernel_rfl) ?_
  rcases Nat.lt_or_ge i a.length with h3 | h3
  · simp -dsimp [h3, ne_of_lt h3]
    first | refine ⟨by omega, ?_⟩ | skip
    refine ACallK_of (f118_ok _ _ (hf _ (nth_mem h3)) (by assumption) (by omega)) ?_
    simp -dsimp
    rw [szGo_drop h3] at hinv
    have hle := GLive.sz_le (nth a i) m hm0
    refine ⟨fun hn => ?_, fun hp => ?_⟩
    · rw [← hinv, szq_neg hn]
    · rw [szq_go hp] at hinv
      refine Back_of (i + 1, GLive.sz (nth a i) m) [0, 1, 5] [] rfl rfl (by simp; rw [wrap64 (by omega) (by omega)]) ⟨by simp; omega, hp, by simp; omega, hinv⟩ (by simp; omega)
  · have : i = a.length := by omega
    subst this
    simp -dsimp
    rw [← hinv, List.drop_of_length_le (Nat.le_refl _)]
    rfl

@[simp] def h145 : Hts := {  }
theorem f145_ok (a b : GCell) : FnR Tryz.prog 145 [.agg [.str a.obj, .int .i64 a.dot.rep, .int .i64 a.dot.seq, .int .i64 a.time, .int .i64 a.ref.rep, .int .i64 a.ref.seq, .int .i64 a.val, .bool a.gone], .agg [.str b.obj, .int .i64 b.dot.rep, .int .i64 b.dot.seq, .int .i64 b.time, .int .i64 b.ref.rep, .int .i64 b.ref.seq, .int .i64 b.val, .bool b.gone]] (.v (.bool (decide (a = b)))) := by
  refine FnW.of_AW TryzT_ok 0 (fn := Tryz.f145) (by kernel_rfl) rfl (by kernel_rfl) rfl rfl rfl ?_
  refine AW_of h145 TryzT_ok (by kernel_rfl) ?_
  simp -dsimp
  repeat' (first
    | (refine ACallK_of (f159_ok _ _) ?_; simp -dsimp)
    | refine And.intro ?_ ?_
    | intro _)
  all_goals first | assumption | (apply GCell.ext <;> assumption) | (subst_vars; simp_all; done) | grind

@[simp] def h65 : Hts := { dr := fun id => if id = 6 then [{}, {}, {}, {}, {}, {}, {}, {}, { cr := true }, {}] else [] }
theorem f65_ok (a b : List GCell) (ha : a.length ≤ 1073741824) : FnR Tryz.prog 65 [.v (.im a.length (flat a)), .v (.im b.length (flat b))] (.v (.bool (decide (a = b)))) := by
  refine FnW.of_AW TryzT_ok 0 (fn := Tryz.f65) (by kernel_rfl) rfl (by kernel_rfl) rfl rfl rfl ?_
  refine AW_of h65 TryzT_ok (by kernel_rfl) ?_
  simp -dsimp
  refine ⟨fun h e => h (by rw [e]), fun hl => ?_⟩
  replace hl : a.length = b.length := by omega
  refine AWh_loop (fun i : Nat => i ≤ a.length ∧ ∀ j : Nat, j < i → nth a j = nth b j) (fun i => mkE [(0, .c (.im a.length (flat a))), (1, .c (.im b.length (flat b))), (5, .c (.int .i64 i))] []) (fun i => a.length - i) 0 (Wk_to [0, 1, 5] [] rfl rfl (by simp)) (by simp) ?_
  rintro i ⟨hi, hall⟩
  refine AW_of h65 TryzT_ok (by kernel_rfl) ?_
  rcases Nat.lt_or_ge i a.length with h1 | h1
  · have h2 : i < b.length := by omega
    simp -dsimp [h1, h2, ne_of_lt h1, ne_of_lt h2]
    first | refine ⟨by omega, by omega, ?_⟩ | skip
    refine ACallK_of (f145_ok _ _) ?_
    simp -dsimp
    refine ⟨fun h e => h (by rw [e]), fun h => ?_⟩
    refine Back_of (i + 1) [0, 1, 5] [] rfl rfl (by simp; rw [wrap64 (by omega) (by omega)]) ⟨by omega, fun j hj => ?_⟩ (by omega)
    by_cases e : j = i
    · subst e; exact h
    · exact hall j (by omega)
  · simp -dsimp [Nat.not_lt.2 h1]
    exact list_eq_of_nth hl (fun j hj => hall j (by omega))

@[simp] def h129 : Hts := {  }
theorem f129_ok (a : GCell) : FnR Tryz.prog 129 [.agg [.str a.obj, .int .i64 a.dot.rep, .int .i64 a.dot.seq, .int .i64 a.time, .int .i64 a.ref.rep, .int .i64 a.ref.seq, .int .i64 a.val, .bool a.gone]] (.agg [.str a.obj, .int .i64 a.dot.rep, .int .i64 a.dot.seq, .int .i64 a.time, .int .i64 a.ref.rep, .int .i64 a.ref.seq, .int .i64 a.val, .bool a.gone]) := by
  refine FnW.of_AW TryzT_ok 0 (fn := Tryz.f129) (by kernel_rfl) rfl (by kernel_rfl) rfl rfl rfl ?_
  refine AW_of h129 TryzT_ok (by kernel_rfl) ?_
  simp -dsimp
  repeat' (first
    | (refine ACallK_of (f162_ok _) ?_; simp -dsimp)
    | refine And.intro ?_ ?_)

@[simp] def h52 : Hts := {  }
theorem f52_ok (a : List GCell) (ha : a.length ≤ 1073741824) : FnR Tryz.prog 52 [.v (.im a.length (flat a))] (.v (.ow 121 8 a.length (flat a))) := by
  refine FnW.of_AW TryzT_ok 0 (fn := Tryz.f52) (by kernel_rfl) rfl (by kernel_rfl) rfl rfl rfl ?_
  refine AW_of h52 TryzT_ok (by kernel_rfl) ?_
  simp -dsimp
  refine ⟨by simp [capMax]; omega, ?_⟩
  refine AWh_loop (fun i : Nat => i ≤ a.length) (fun i => mkE [(0, .c (.im a.length (flat a))), (3, .arr 448), (4, .c (.int .i64 i))] [(448, .arr 0 121 8 a.length (flat (a.take i ++ List.replicate (a.length - i) ⟨⟨#[]⟩, ⟨0, 0⟩, 0, ⟨0, 0⟩, 0, false⟩)))]) (fun i => a.length - i) 0 (Wk_to [0, 3, 4] [(448, 448)] rfl rfl (by simp)) (by simp) ?_
  rintro i hi
  refine AW_of h52 TryzT_ok (by kernel_rfl) ?_
  rcases Nat.lt_or_ge i a.length with h1 | h1
  · have h2 : i < min i a.length + (a.length - i) := by omega
    simp -dsimp [h1, ne_of_lt h1, h2]
    first | refine ⟨by omega, ?_⟩ | skip
    refine ACallK_of (f129_ok _) ?_
    simp -dsimp [h1, h2]
    first | refine ⟨by omega, ?_⟩ | skip
    refine Back_of (i + 1) [0, 3, 4] [(448, 448)] rfl rfl ?_ (by omega) (by omega)
    simp -dsimp
    rw [wrap64 (by omega) (by omega), ← fill_step a ⟨⟨#[]⟩, ⟨0, 0⟩, 0, ⟨0, 0⟩, 0, false⟩ h1]
    try rfl
  · simp -dsimp [Nat.not_lt.2 h1]
    have : i = a.length := by omega
    subst this
    simp

@[simp] def h119 : Hts := {  }
theorem f119_ok (a : GCell) (l : Int) (hf : a.Fit) (h0 : 0 ≤ l) (h1 : l ≤ 1048576) : FnR Tryz.prog 119 [.agg [.str a.obj, .int .i64 a.dot.rep, .int .i64 a.dot.seq, .int .i64 a.time, .int .i64 a.ref.rep, .int .i64 a.ref.seq, .int .i64 a.val, .bool a.gone], .v (.int .i64 l)] (.v (.int .i64 (a.sz l))) := by
  simp only [GCell.Fit] at hf
  refine FnW.of_AW TryzT_ok 0 (fn := Tryz.f119) (by kernel_rfl) rfl (by kernel_rfl) rfl rfl rfl ?_
  refine AW_of h119 TryzT_ok (by kernel_rfl) ?_
  simp -dsimp
  rw [wrap64 (x := l - ↑a.obj.size) (by omega) (by omega)]
  refine ⟨fun n0 => ?_, fun p0 => ?_⟩
  · rw [GCell.sz, szq_neg n0]
  rw [GCell.sz, szq_go p0]

@[simp] def h40 : Hts := {  }
theorem f40_ok (a : List GCell) (l : Int) (ha : a.length ≤ 9223372036854775807) (hf : ∀ x, x ∈ a → x.Fit) (h0 : 0 ≤ l) (h1 : l ≤ 1048576) : FnR Tryz.prog 40 [.v (.im a.length (flat a)), .v (.int .i64 l)] (.v (.int .i64 (szS GCell.sz a l))) := by
  refine FnW.of_AW TryzT_ok 0 (fn := Tryz.f40) (by kernel_rfl) rfl (by kernel_rfl) rfl rfl rfl ?_
  refine AW_of h40 TryzT_ok (by kernel_rfl) ?_
  simp -dsimp
  rw [wrap64 (x := l - ↑a.length) (by omega) (by omega)]
  refine ⟨fun h => ?_, fun h => ?_⟩
  · rw [szS, szq_neg h]
  rw [szS, szq_go h]
  refine AWh_loop (fun s : Nat × Int => s.1 ≤ a.length ∧ 0 ≤ s.2 ∧ s.2 ≤ 1048576 ∧ szGo GCell.sz (a.drop s.1) s.2 = szGo GCell.sz a (l - a.length)) (fun s => mkE [(0, .c (.im a.length (flat a))), (1, .c (.int .i64 s.2)), (5, .c (.int .i64 s.1))] []) (fun s => a.length - s.1) (0, l - a.length) (Wk_to [0, 1, 5] [] rfl rfl (by simp)) ⟨by simp, h, by simp; omega, by simp⟩ ?_
  rintro ⟨i, m⟩ ⟨hi, hm0, hm1, hinv⟩
  simp only at hi hm0 hm1 hinv
  refine AW_of h40 TryzT_ok (by kernel_rfl) ?_
  rcases Nat.lt_or_ge i a.length with h3 | h3
  · simp -dsimp [h3, ne_of_lt h3]
    first | refine ⟨by omega, ?_⟩ | skip
    refine ACallK_of (f119_ok _ _ (hf _ (nth_mem h3)) (by assumption) (by omega)) ?_
    simp -dsimp
    rw [szGo_drop h3] at hinv
    have hle := GCell.sz_le (nth a i) m hm0
    refine ⟨fun hn => ?_, fun hp => ?_⟩
    · rw [← hinv, szq_neg hn]
    · rw [szq_go hp] at hinv
      refine Back_of (i + 1, GCell.sz (nth a i) m) [0, 1, 5] [] rfl rfl (by simp; rw [wrap64 (by omega) (by omega)]) ⟨by simp; omega, hp, by simp; omega, hinv⟩ (by simp; omega)
  · have : i = a.length := by omega
    subst this
    simp -dsimp
    rw [← hinv, List.drop_of_length_le (Nat.le_refl _)]
    rfl

@[simp] def h13 : Hts := {  }
theorem f13_ok (a b : GState) (h : a.Ok) : FnR Tryz.prog 13 [.agg [.im a.know.length (flat a.know), .im a.tallies.length (flat a.tallies), .im a.lives.length (flat a.lives), .im a.cs.length (flat a.cs)], .agg [.im b.know.length (flat b.know), .im b.tallies.length (flat b.tallies), .im b.lives.length (flat b.lives), .im b.cs.length (flat b.cs)]] (.v (.bool (decide (a = b)))) := by
  simp only [GState.Ok] at h
  obtain ⟨o0, o1, o2, o3, o4, o5, o6⟩ := h
  refine FnW.of_AW TryzT_ok 0 (fn := Tryz.f13) (by kernel_rfl) rfl (by kernel_rfl) rfl rfl rfl ?_
  refine AW_of h13 TryzT_ok (by kernel_rfl) ?_
  simp -dsimp
  repeat' (first
    | (refine ACallK_of (f62_ok _ _ (by assumption)) ?_; simp -dsimp)
    | (refine ACallK_of (f63_ok _ _ (by assumption)) ?_; simp -dsimp)
    | (refine ACallK_of (f64_ok _ _ (by assumption)) ?_; simp -dsimp)
    | (refine ACallK_of (f65_ok _ _ (by assumption)) ?_; simp -dsimp)
    | refine And.intro ?_ ?_
    | intro _)
  all_goals first | assumption | (apply GState.ext <;> assumption) | (subst_vars; simp_all; done) | grind

@[simp] def h11 : Hts := {  }
theorem f11_ok (a : GState) (h : a.Ok) : FnR Tryz.prog 11 [.agg [.im a.know.length (flat a.know), .im a.tallies.length (flat a.tallies), .im a.lives.length (flat a.lives), .im a.cs.length (flat a.cs)]] (.agg [.ow 3 1 a.know.length (flat a.know), .ow 118 3 a.tallies.length (flat a.tallies), .ow 82 6 a.lives.length (flat a.lives), .ow 121 8 a.cs.length (flat a.cs)]) := by
  simp only [GState.Ok] at h
  obtain ⟨o0, o1, o2, o3, o4, o5, o6⟩ := h
  refine FnW.of_AW TryzT_ok 0 (fn := Tryz.f11) (by kernel_rfl) rfl (by kernel_rfl) rfl rfl rfl ?_
  refine AW_of h11 TryzT_ok (by kernel_rfl) ?_
  simp -dsimp
  repeat' (first
    | (refine ACallK_of (f49_ok _ (by assumption)) ?_; simp -dsimp)
    | (refine ACallK_of (f50_ok _ (by assumption)) ?_; simp -dsimp)
    | (refine ACallK_of (f51_ok _ (by assumption)) ?_; simp -dsimp)
    | (refine ACallK_of (f52_ok _ (by assumption)) ?_; simp -dsimp)
    | refine And.intro ?_ ?_)

@[simp] def h9 : Hts := {  }
theorem f9_ok (a : GState) (l : Int) (hf : a.Fit) (h0 : 0 ≤ l) (h1 : l ≤ 1048576) : FnR Tryz.prog 9 [.agg [.im a.know.length (flat a.know), .im a.tallies.length (flat a.tallies), .im a.lives.length (flat a.lives), .im a.cs.length (flat a.cs)], .v (.int .i64 l)] (.v (.int .i64 (a.sz l))) := by
  simp only [GState.Fit] at hf
  obtain ⟨o0, o1, o2, o3, o4, o5, o6⟩ := hf
  refine FnW.of_AW TryzT_ok 0 (fn := Tryz.f9) (by kernel_rfl) rfl (by kernel_rfl) rfl rfl rfl ?_
  refine AW_of h9 TryzT_ok (by kernel_rfl) ?_
  simp -dsimp
  refine ACallK_of (f37_ok _ _ (by assumption) (by assumption) (by omega)) ?_
  simp -dsimp
  have q0 := szLen_le a.know _ h0
  refine ⟨fun n0 => ?_, fun p0 => ?_⟩
  · rw [GState.sz, szq_neg n0]
  refine ACallK_of (f38_ok _ _ (by assumption) (by assumption) (by assumption) (by omega)) ?_
  simp -dsimp
  have q1 := szS_le GTally.sz_le a.tallies _ p0
  refine ⟨fun n1 => ?_, fun p1 => ?_⟩
  · rw [GState.sz, szq_go p0, szq_neg n1]
  refine ACallK_of (f39_ok _ _ (by assumption) (by assumption) (by assumption) (by omega)) ?_
  simp -dsimp
  have q2 := szS_le GLive.sz_le a.lives _ p1
  refine ⟨fun n2 => ?_, fun p2 => ?_⟩
  · rw [GState.sz, szq_go p0, szq_go p1, szq_neg n2]
  refine ACallK_of (f40_ok _ _ (by assumption) (by assumption) (by assumption) (by omega)) ?_
  simp -dsimp
  have q3 := szS_le GCell.sz_le a.cs _ p2
  refine ⟨fun n3 => ?_, fun p3 => ?_⟩
  · rw [GState.sz, szq_go p0, szq_go p1, szq_go p2, szq_neg n3]
  rw [GState.sz, szq_go p0, szq_go p1, szq_go p2, szq_go p3]

@[simp] def h90 : Hts := {  }
theorem f90_ok (a b : GClash) : FnR Tryz.prog 90 [.agg [.str a.obj, .str a.key], .agg [.str b.obj, .str b.key]] (.v (.bool (decide (a = b)))) := by
  refine FnW.of_AW TryzT_ok 0 (fn := Tryz.f90) (by kernel_rfl) rfl (by kernel_rfl) rfl rfl rfl ?_
  refine AW_of h90 TryzT_ok (by kernel_rfl) ?_
  simp -dsimp
  repeat' (first
    | refine And.intro ?_ ?_
    | intro _)
  all_goals first | assumption | (apply GClash.ext <;> assumption) | (subst_vars; simp_all; done) | grind

@[simp] def h20 : Hts := { dr := fun id => if id = 6 then [{}, {}, {}, {}, {}, {}, {}, {}, { cr := true }, {}] else [] }
theorem f20_ok (a b : List GClash) (ha : a.length ≤ 1073741824) : FnR Tryz.prog 20 [.v (.im a.length (flat a)), .v (.im b.length (flat b))] (.v (.bool (decide (a = b)))) := by
  refine FnW.of_AW TryzT_ok 0 (fn := Tryz.f20) (by kernel_rfl) rfl (by kernel_rfl) rfl rfl rfl ?_
  refine AW_of h20 TryzT_ok (by kernel_rfl) ?_
  simp -dsimp
  refine ⟨fun h e => h (by rw [e]), fun hl => ?_⟩
  replace hl : a.length = b.length := by omega
  refine AWh_loop (fun i : Nat => i ≤ a.length ∧ ∀ j : Nat, j < i → nth a j = nth b j) (fun i => mkE [(0, .c (.im a.length (flat a))), (1, .c (.im b.length (flat b))), (5, .c (.int .i64 i))] []) (fun i => a.length - i) 0 (Wk_to [0, 1, 5] [] rfl rfl (by simp)) (by simp) ?_
  rintro i ⟨hi, hall⟩
  refine AW_of h20 TryzT_ok (by kernel_rfl) ?_
  rcases Nat.lt_or_ge i a.length with h1 | h1
  · have h2 : i < b.length := by omega
    simp -dsimp [h1, h2, ne_of_lt h1, ne_of_lt h2]
    first | refine ⟨by omega, by omega, ?_⟩ | skip
    refine ACallK_of (f90_ok _ _) ?_
    simp -dsimp
    refine ⟨fun h e => h (by rw [e]), fun h => ?_⟩
    refine Back_of (i + 1) [0, 1, 5] [] rfl rfl (by simp; rw [wrap64 (by omega) (by omega)]) ⟨by omega, fun j hj => ?_⟩ (by omega)
    by_cases e : j = i
    · subst e; exact h
    · exact hall j (by omega)
  · simp -dsimp [Nat.not_lt.2 h1]
    exact list_eq_of_nth hl (fun j hj => hall j (by omega))

@[simp] def h25 : Hts := {  }
theorem f25_ok (a b : GDelta) (h : a.Ok) : FnR Tryz.prog 25 [.agg [.im a.base.length (flat a.base), .im a.know.length (flat a.know), .im a.tallies.length (flat a.tallies), .im a.lives.length (flat a.lives), .im a.dead.length (flat a.dead), .im a.cs.length (flat a.cs)], .agg [.im b.base.length (flat b.base), .im b.know.length (flat b.know), .im b.tallies.length (flat b.tallies), .im b.lives.length (flat b.lives), .im b.dead.length (flat b.dead), .im b.cs.length (flat b.cs)]] (.v (.bool (decide (a = b)))) := by
  simp only [GDelta.Ok] at h
  obtain ⟨o0, o1, o2, o3, o4, o5, o6, o7, o8⟩ := h
  refine FnW.of_AW TryzT_ok 0 (fn := Tryz.f25) (by kernel_rfl) rfl (by kernel_rfl) rfl rfl rfl ?_
  refine AW_of h25 TryzT_ok (by kernel_rfl) ?_
  simp -dsimp
  repeat' (first
    | (refine ACallK_of (f62_ok _ _ (by assumption)) ?_; simp -dsimp)
    | (refine ACallK_of (f63_ok _ _ (by assumption)) ?_; simp -dsimp)
    | (refine ACallK_of (f64_ok _ _ (by assumption)) ?_; simp -dsimp)
    | (refine ACallK_of (f95_ok _ _ (by assumption)) ?_; simp -dsimp)
    | (refine ACallK_of (f65_ok _ _ (by assumption)) ?_; simp -dsimp)
    | refine And.intro ?_ ?_
    | intro _)
  all_goals first | assumption | (apply GDelta.ext <;> assumption) | (subst_vars; simp_all; done) | grind

@[simp] def h30 : Hts := {  }
theorem f30_ok (a : GDelta) (h : a.Ok) : FnR Tryz.prog 30 [.agg [.im a.base.length (flat a.base), .im a.know.length (flat a.know), .im a.tallies.length (flat a.tallies), .im a.lives.length (flat a.lives), .im a.dead.length (flat a.dead), .im a.cs.length (flat a.cs)]] (.agg [.ow 3 1 a.base.length (flat a.base), .ow 3 1 a.know.length (flat a.know), .ow 118 3 a.tallies.length (flat a.tallies), .ow 82 6 a.lives.length (flat a.lives), .ow 80 2 a.dead.length (flat a.dead), .ow 121 8 a.cs.length (flat a.cs)]) := by
  simp only [GDelta.Ok] at h
  obtain ⟨o0, o1, o2, o3, o4, o5, o6, o7, o8⟩ := h
  refine FnW.of_AW TryzT_ok 0 (fn := Tryz.f30) (by kernel_rfl) rfl (by kernel_rfl) rfl rfl rfl ?_
  refine AW_of h30 TryzT_ok (by kernel_rfl) ?_
  simp -dsimp
  repeat' (first
    | (refine ACallK_of (f49_ok _ (by assumption)) ?_; simp -dsimp)
    | (refine ACallK_of (f50_ok _ (by assumption)) ?_; simp -dsimp)
    | (refine ACallK_of (f51_ok _ (by assumption)) ?_; simp -dsimp)
    | (refine ACallK_of (f102_ok _ (by assumption)) ?_; simp -dsimp)
    | (refine ACallK_of (f52_ok _ (by assumption)) ?_; simp -dsimp)
    | refine And.intro ?_ ?_)

@[simp] def h28 : Hts := {  }
theorem f28_ok (a : GDelta) (l : Int) (hf : a.Fit) (h0 : 0 ≤ l) (h1 : l ≤ 1048576) : FnR Tryz.prog 28 [.agg [.im a.base.length (flat a.base), .im a.know.length (flat a.know), .im a.tallies.length (flat a.tallies), .im a.lives.length (flat a.lives), .im a.dead.length (flat a.dead), .im a.cs.length (flat a.cs)], .v (.int .i64 l)] (.v (.int .i64 (a.sz l))) := by
  simp only [GDelta.Fit] at hf
  obtain ⟨o0, o1, o2, o3, o4, o5, o6, o7, o8⟩ := hf
  refine FnW.of_AW TryzT_ok 0 (fn := Tryz.f28) (by kernel_rfl) rfl (by kernel_rfl) rfl rfl rfl ?_
  refine AW_of h28 TryzT_ok (by kernel_rfl) ?_
  simp -dsimp
  refine ACallK_of (f37_ok _ _ (by assumption) (by assumption) (by omega)) ?_
  simp -dsimp
  have q0 := szLen_le a.base _ h0
  refine ⟨fun n0 => ?_, fun p0 => ?_⟩
  · rw [GDelta.sz, szq_neg n0]
  refine ACallK_of (f37_ok _ _ (by assumption) (by assumption) (by omega)) ?_
  simp -dsimp
  have q1 := szLen_le a.know _ p0
  refine ⟨fun n1 => ?_, fun p1 => ?_⟩
  · rw [GDelta.sz, szq_go p0, szq_neg n1]
  refine ACallK_of (f38_ok _ _ (by assumption) (by assumption) (by assumption) (by omega)) ?_
  simp -dsimp
  have q2 := szS_le GTally.sz_le a.tallies _ p1
  refine ⟨fun n2 => ?_, fun p2 => ?_⟩
  · rw [GDelta.sz, szq_go p0, szq_go p1, szq_neg n2]
  refine ACallK_of (f39_ok _ _ (by assumption) (by assumption) (by assumption) (by omega)) ?_
  simp -dsimp
  have q3 := szS_le GLive.sz_le a.lives _ p2
  refine ⟨fun n3 => ?_, fun p3 => ?_⟩
  · rw [GDelta.sz, szq_go p0, szq_go p1, szq_go p2, szq_neg n3]
  refine ACallK_of (f98_ok _ _ (by assumption) (by assumption) (by omega)) ?_
  simp -dsimp
  have q4 := szLen_le a.dead _ p3
  refine ⟨fun n4 => ?_, fun p4 => ?_⟩
  · rw [GDelta.sz, szq_go p0, szq_go p1, szq_go p2, szq_go p3, szq_neg n4]
  refine ACallK_of (f40_ok _ _ (by assumption) (by assumption) (by assumption) (by omega)) ?_
  simp -dsimp
  have q5 := szS_le GCell.sz_le a.cs _ p4
  refine ⟨fun n5 => ?_, fun p5 => ?_⟩
  · rw [GDelta.sz, szq_go p0, szq_go p1, szq_go p2, szq_go p3, szq_go p4, szq_neg n5]
  rw [GDelta.sz, szq_go p0, szq_go p1, szq_go p2, szq_go p3, szq_go p4, szq_go p5]

@[simp] def h169 : Hts := {  }
theorem f169_ok (a b : GCommit) (h : a.Ok) : FnR Tryz.prog 169 [.agg [.int .i64 a.id.rep, .int .i64 a.id.seq, .im a.ups.length (flat a.ups), .im a.state.know.length (flat a.state.know), .im a.state.tallies.length (flat a.state.tallies), .im a.state.lives.length (flat a.state.lives), .im a.state.cs.length (flat a.state.cs)], .agg [.int .i64 b.id.rep, .int .i64 b.id.seq, .im b.ups.length (flat b.ups), .im b.state.know.length (flat b.state.know), .im b.state.tallies.length (flat b.state.tallies), .im b.state.lives.length (flat b.state.lives), .im b.state.cs.length (flat b.state.cs)]] (.v (.bool (decide (a = b)))) := by
  simp only [GCommit.Ok] at h
  obtain ⟨o0, o1⟩ := h
  refine FnW.of_AW TryzT_ok 0 (fn := Tryz.f169) (by kernel_rfl) rfl (by kernel_rfl) rfl rfl rfl ?_
  refine AW_of h169 TryzT_ok (by kernel_rfl) ?_
  simp -dsimp
  repeat' (first
    | (refine ACallK_of (f159_ok _ _) ?_; simp -dsimp)
    | (refine ACallK_of (f62_ok _ _ (by assumption)) ?_; simp -dsimp)
    | (refine ACallK_of (f13_ok _ _ (by assumption)) ?_; simp -dsimp)
    | refine And.intro ?_ ?_
    | intro _)
  all_goals first | assumption | (apply GCommit.ext <;> assumption) | (subst_vars; simp_all; done) | grind

@[simp] def h116 : Hts := { dr := fun id => if id = 6 then [{}, {}, {}, {}, {}, {}, {}, {}, { cr := true }, {}] else [] }
theorem f116_ok (a b : List GCommit) (ha : a.length ≤ 1073741824) (he : ∀ x, x ∈ a → x.Ok) : FnR Tryz.prog 116 [.v (.im a.length (flat a)), .v (.im b.length (flat b))] (.v (.bool (decide (a = b)))) := by
  refine FnW.of_AW TryzT_ok 0 (fn := Tryz.f116) (by kernel_rfl) rfl (by kernel_rfl) rfl rfl rfl ?_
  refine AW_of h116 TryzT_ok (by kernel_rfl) ?_
  simp -dsimp
  refine ⟨fun h e => h (by rw [e]), fun hl => ?_⟩
  replace hl : a.length = b.length := by omega
  refine AWh_loop (fun i : Nat => i ≤ a.length ∧ ∀ j : Nat, j < i → nth a j = nth b j) (fun i => mkE [(0, .c (.im a.length (flat a))), (1, .c (.im b.length (flat b))), (5, .c (.int .i64 i))] []) (fun i => a.length - i) 0 (Wk_to [0, 1, 5] [] rfl rfl (by simp)) (by simp) ?_
  rintro i ⟨hi, hall⟩
  refine AW_of h116 TryzT_ok (by kernel_rfl) ?_
  rcases Nat.lt_or_ge i a.length with h1 | h1
  · have h2 : i < b.length := by omega
    simp -dsimp [h1, h2, ne_of_lt h1, ne_of_lt h2]
    first | refine ⟨by omega, by omega, ?_⟩ | skip
    refine ACallK_of (f169_ok _ _ (he _ (nth_mem h1))) ?_
    simp -dsimp
    refine ⟨fun h e => h (by rw [e]), fun h => ?_⟩
    refine Back_of (i + 1) [0, 1, 5] [] rfl rfl (by simp; rw [wrap64 (by omega) (by omega)]) ⟨by omega, fun j hj => ?_⟩ (by omega)
    by_cases e : j = i
    · subst e; exact h
    · exact hall j (by omega)
  · simp -dsimp [Nat.not_lt.2 h1]
    exact list_eq_of_nth hl (fun j hj => hall j (by omega))

@[simp] def h166 : Hts := {  }
theorem f166_ok (a : GCommit) (h : a.Ok) : FnR Tryz.prog 166 [.agg [.int .i64 a.id.rep, .int .i64 a.id.seq, .im a.ups.length (flat a.ups), .im a.state.know.length (flat a.state.know), .im a.state.tallies.length (flat a.state.tallies), .im a.state.lives.length (flat a.state.lives), .im a.state.cs.length (flat a.state.cs)]] (.agg [.int .i64 a.id.rep, .int .i64 a.id.seq, .ow 3 1 a.ups.length (flat a.ups), .ow 3 1 a.state.know.length (flat a.state.know), .ow 118 3 a.state.tallies.length (flat a.state.tallies), .ow 82 6 a.state.lives.length (flat a.state.lives), .ow 121 8 a.state.cs.length (flat a.state.cs)]) := by
  simp only [GCommit.Ok] at h
  obtain ⟨o0, o1⟩ := h
  refine FnW.of_AW TryzT_ok 0 (fn := Tryz.f166) (by kernel_rfl) rfl (by kernel_rfl) rfl rfl rfl ?_
  refine AW_of h166 TryzT_ok (by kernel_rfl) ?_
  simp -dsimp
  repeat' (first
    | (refine ACallK_of (f162_ok _) ?_; simp -dsimp)
    | (refine ACallK_of (f49_ok _ (by assumption)) ?_; simp -dsimp)
    | (refine ACallK_of (f11_ok _ (by assumption)) ?_; simp -dsimp)
    | refine And.intro ?_ ?_)

@[simp] def h113 : Hts := {  }
theorem f113_ok (a : List GCommit) (ha : a.length ≤ 1073741824) (he : ∀ x, x ∈ a → x.Ok) : FnR Tryz.prog 113 [.v (.im a.length (flat a))] (.v (.ow 132 7 a.length (flatO a))) := by
  refine FnW.of_AW TryzT_ok 0 (fn := Tryz.f113) (by kernel_rfl) rfl (by kernel_rfl) rfl rfl rfl ?_
  refine AW_of h113 TryzT_ok (by kernel_rfl) ?_
  simp -dsimp
  refine ⟨by simp [capMax]; omega, ?_⟩
  refine AWh_loop (fun i : Nat => i ≤ a.length) (fun i => mkE [(0, .c (.im a.length (flat a))), (3, .arr 448), (4, .c (.int .i64 i))] [(448, .arr 0 132 7 a.length (flatO (a.take i) ++ flat (List.replicate (a.length - i) (⟨⟨0, 0⟩, [], ⟨[], [], [], []⟩⟩ : GCommit))))]) (fun i => a.length - i) 0 (Wk_to [0, 3, 4] [(448, 448)] rfl rfl (by simp [commit_rep, flatO_nil])) (by simp) ?_
  rintro i hi
  refine AW_of h113 TryzT_ok (by kernel_rfl) ?_
  rcases Nat.lt_or_ge i a.length with h1 | h1
  · have hs : a.take (i + 1) = a.take i ++ [nth a i] := by rw [List.take_add_one, List.getElem?_eq_getElem h1, nth_eq h1]; rfl
    simp -dsimp [h1, ne_of_lt h1]
    first | refine ⟨by omega, ?_⟩ | skip
    refine ACallK_of (f166_ok _ (he _ (nth_mem h1))) ?_
    simp -dsimp [h1]
    first | refine ⟨by omega, ?_⟩ | skip
    refine Back_of (i + 1) [0, 3, 4] [(448, 448)] rfl rfl ?_ (by omega) (by omega)
    simp -dsimp
    rw [wrap64 (by omega) (by omega), hs]
  · simp -dsimp [Nat.not_lt.2 h1]
    have : i = a.length := by omega
    subst this
    simp

@[simp] def h165 : Hts := {  }
theorem f165_ok (a : GCommit) (l : Int) (hf : a.Fit) (h0 : 0 ≤ l) (h1 : l ≤ 1048576) : FnR Tryz.prog 165 [.agg [.int .i64 a.id.rep, .int .i64 a.id.seq, .im a.ups.length (flat a.ups), .im a.state.know.length (flat a.state.know), .im a.state.tallies.length (flat a.state.tallies), .im a.state.lives.length (flat a.state.lives), .im a.state.cs.length (flat a.state.cs)], .v (.int .i64 l)] (.v (.int .i64 (a.sz l))) := by
  simp only [GCommit.Fit] at hf
  obtain ⟨o0, o1⟩ := hf
  refine FnW.of_AW TryzT_ok 0 (fn := Tryz.f165) (by kernel_rfl) rfl (by kernel_rfl) rfl rfl rfl ?_
  refine AW_of h165 TryzT_ok (by kernel_rfl) ?_
  simp -dsimp
  refine ACallK_of (f37_ok _ _ (by assumption) (by assumption) (by omega)) ?_
  simp -dsimp
  have q0 := szLen_le a.ups _ h0
  refine ⟨fun n0 => ?_, fun p0 => ?_⟩
  · rw [GCommit.sz, szq_neg n0]
  refine ACallK_of (f9_ok _ _ (by assumption) (by assumption) (by omega)) ?_
  simp -dsimp
  have q1 := GState.sz_le a.state _ p0
  refine ⟨fun n1 => ?_, fun p1 => ?_⟩
  · rw [GCommit.sz, szq_go p0, szq_neg n1]
  rw [GCommit.sz, szq_go p0, szq_go p1]

@[simp] def h109 : Hts := {  }
theorem f109_ok (a : List GCommit) (l : Int) (ha : a.length ≤ 9223372036854775807) (hf : ∀ x, x ∈ a → x.Fit) (h0 : 0 ≤ l) (h1 : l ≤ 1048576) : FnR Tryz.prog 109 [.v (.im a.length (flat a)), .v (.int .i64 l)] (.v (.int .i64 (szS GCommit.sz a l))) := by
  refine FnW.of_AW TryzT_ok 0 (fn := Tryz.f109) (by kernel_rfl) rfl (by kernel_rfl) rfl rfl rfl ?_
  refine AW_of h109 TryzT_ok (by kernel_rfl) ?_
  simp -dsimp
  rw [wrap64 (x := l - ↑a.length) (by omega) (by omega)]
  refine ⟨fun h => ?_, fun h => ?_⟩
  · rw [szS, szq_neg h]
  rw [szS, szq_go h]
  refine AWh_loop (fun s : Nat × Int => s.1 ≤ a.length ∧ 0 ≤ s.2 ∧ s.2 ≤ 1048576 ∧ szGo GCommit.sz (a.drop s.1) s.2 = szGo GCommit.sz a (l - a.length)) (fun s => mkE [(0, .c (.im a.length (flat a))), (1, .c (.int .i64 s.2)), (5, .c (.int .i64 s.1))] []) (fun s => a.length - s.1) (0, l - a.length) (Wk_to [0, 1, 5] [] rfl rfl (by simp)) ⟨by simp, h, by simp; omega, by simp⟩ ?_
  rintro ⟨i, m⟩ ⟨hi, hm0, hm1, hinv⟩
  simp only at hi hm0 hm1 hinv
  refine AW_of h109 TryzT_ok (by kernel_rfl) ?_
  rcases Nat.lt_or_ge i a.length with h3 | h3
  · simp -dsimp [h3, ne_of_lt h3]
    first | refine ⟨by omega, ?_⟩ | skip
    refine ACallK_of (f165_ok _ _ (hf _ (nth_mem h3)) (by assumption) (by omega)) ?_
    simp -dsimp
    rw [szGo_drop h3] at hinv
    have hle := GCommit.sz_le (nth a i) m hm0
    refine ⟨fun hn => ?_, fun hp => ?_⟩
    · rw [← hinv, szq_neg hn]
    · rw [szq_go hp] at hinv
      refine Back_of (i + 1, GCommit.sz (nth a i) m) [0, 1, 5] [] rfl rfl (by simp; rw [wrap64 (by omega) (by omega)]) ⟨by simp; omega, hp, by simp; omega, hinv⟩ (by simp; omega)
  · have : i = a.length := by omega
    subst this
    simp -dsimp
    rw [← hinv, List.drop_of_length_le (Nat.le_refl _)]
    rfl

@[simp] def h36 : Hts := {  }
theorem f36_ok (a b : GGraph) (h : a.Ok) : FnR Tryz.prog 36 [.agg [.im a.commits.length (flat a.commits), .int .i64 a.head], .agg [.im b.commits.length (flat b.commits), .int .i64 b.head]] (.v (.bool (decide (a = b)))) := by
  simp only [GGraph.Ok] at h
  obtain ⟨o0, o1⟩ := h
  refine FnW.of_AW TryzT_ok 0 (fn := Tryz.f36) (by kernel_rfl) rfl (by kernel_rfl) rfl rfl rfl ?_
  refine AW_of h36 TryzT_ok (by kernel_rfl) ?_
  simp -dsimp
  repeat' (first
    | (refine ACallK_of (f116_ok _ _ (by assumption) (by assumption)) ?_; simp -dsimp)
    | refine And.intro ?_ ?_
    | intro _)
  all_goals first | assumption | (apply GGraph.ext <;> assumption) | (subst_vars; simp_all; done) | grind

@[simp] def h34 : Hts := {  }
theorem f34_ok (a : GGraph) (h : a.Ok) : FnR Tryz.prog 34 [.agg [.im a.commits.length (flat a.commits), .int .i64 a.head]] (.agg [.ow 132 7 a.commits.length (flatO a.commits), .int .i64 a.head]) := by
  simp only [GGraph.Ok] at h
  obtain ⟨o0, o1⟩ := h
  refine FnW.of_AW TryzT_ok 0 (fn := Tryz.f34) (by kernel_rfl) rfl (by kernel_rfl) rfl rfl rfl ?_
  refine AW_of h34 TryzT_ok (by kernel_rfl) ?_
  simp -dsimp
  repeat' (first
    | (refine ACallK_of (f113_ok _ (by assumption) (by assumption)) ?_; simp -dsimp)
    | refine And.intro ?_ ?_)

@[simp] def h32 : Hts := {  }
theorem f32_ok (a : GGraph) (l : Int) (hf : a.Fit) (h0 : 0 ≤ l) (h1 : l ≤ 1048576) : FnR Tryz.prog 32 [.agg [.im a.commits.length (flat a.commits), .int .i64 a.head], .v (.int .i64 l)] (.v (.int .i64 (a.sz l))) := by
  simp only [GGraph.Fit] at hf
  obtain ⟨o0, o1⟩ := hf
  refine FnW.of_AW TryzT_ok 0 (fn := Tryz.f32) (by kernel_rfl) rfl (by kernel_rfl) rfl rfl rfl ?_
  refine AW_of h32 TryzT_ok (by kernel_rfl) ?_
  simp -dsimp
  refine ACallK_of (f109_ok _ _ (by assumption) (by assumption) (by assumption) (by omega)) ?_
  simp -dsimp
  have q0 := szS_le GCommit.sz_le a.commits _ h0
  refine ⟨fun n0 => ?_, fun p0 => ?_⟩
  · rw [GGraph.sz, szq_neg n0]
  rw [GGraph.sz, szq_go p0]
end Am
