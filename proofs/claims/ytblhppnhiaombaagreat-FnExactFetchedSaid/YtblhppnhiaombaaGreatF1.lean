/- The law harness: what is alike, what is copied, how large it is. No condition. -/
import Derived.Test.YtblhppnhiaombaaGreatT
import Derived.Test.YtblhppnhiaombaaGreatD
namespace Am
open Go Go.Proofs
open Cel (cells)
set_option maxRecDepth 100000
set_option maxHeartbeats 4000000
set_option linter.unusedSimpArgs false
set_option linter.unusedVariables false

@[simp] def h59 : Hts := { dr := fun id => if id = 6 then [{}, {}, {}, {}, {}, {}, {}, {}, {}] else [] }
theorem f59_ok (a b : List Int) (ha : a.length ≤ 1073741824) : FnR Tryz.prog 59 [.v (.im a.length (flat a)), .v (.im b.length (flat b))] (.v (.bool (decide (a = b)))) := by
  refine FnW.of_AW TryzT_ok 0 (fn := Tryz.f59) (by kernel_rfl) rfl (by kernel_rfl) rfl rfl rfl ?_
  refine AW_of h59 TryzT_ok (by kernel_rfl) ?_
  simp -dsimp
  refine ⟨fun h e => h (by rw [e]), fun hl => ?_⟩
  replace hl : a.length = b.length := by omega
  refine AWh_loop (fun i : Nat => i ≤ a.length ∧ ∀ j : Nat, j < i → nth a j = nth b j) (fun i => mkE [(0, .c (.im a.length (flat a))), (1, .c (.im b.length (flat b))), (5, .c (.int .i64 i))] []) (fun i => a.length - i) 0 (Wk_to [0, 1, 5] [] rfl rfl (by simp)) (by simp) ?_
  rintro i ⟨hi, hall⟩
  refine AW_of h59 TryzT_ok (by kernel_rfl) ?_
  rcases Nat.lt_or_ge i a.length with h1 | h1
  · have h2 : i < b.length := by omega
    simp -dsimp [h1, h2, ne_of_lt h1, ne_of_lt h2]
    refine ⟨fun h e => h (by rw [e]), fun h => ?_⟩
    refine Back_of (i + 1) [0, 1, 5] [] rfl rfl (by simp; rw [wrap64 (by omega) (by omega)]) ⟨by omega, fun j hj => ?_⟩ (by omega)
    by_cases e : j = i
    · subst e; exact h
    · exact hall j (by omega)
  · simp -dsimp [Nat.not_lt.2 h1]
    exact list_eq_of_nth hl (fun j hj => hall j (by omega))

@[simp] def h51 : Hts := {  }
theorem f51_ok (a : List Int) (ha : a.length ≤ 1073741824) : FnR Tryz.prog 51 [.v (.im a.length (flat a))] (.v (.ow 3 1 a.length (flat a))) := by
  refine FnW.of_AW TryzT_ok 0 (fn := Tryz.f51) (by kernel_rfl) rfl (by kernel_rfl) rfl rfl rfl ?_
  refine AW_of h51 TryzT_ok (by kernel_rfl) ?_
  simp -dsimp
  refine ⟨by simp [capMax]; omega, ?_⟩
  refine AWh_loop (fun i : Nat => i ≤ a.length) (fun i => mkE [(0, .c (.im a.length (flat a))), (3, .arr 448), (4, .c (.int .i64 i))] [(448, .arr 0 3 1 a.length (flat (a.take i ++ List.replicate (a.length - i) 0)))]) (fun i => a.length - i) 0 (Wk_to [0, 3, 4] [(448, 448)] rfl rfl (by simp)) (by simp) ?_
  rintro i hi
  refine AW_of h51 TryzT_ok (by kernel_rfl) ?_
  rcases Nat.lt_or_ge i a.length with h1 | h1
  · have h2 : i < min i a.length + (a.length - i) := by omega
    simp -dsimp [h1, ne_of_lt h1, h2]
    first | refine ⟨by omega, ?_⟩ | skip
    refine Back_of (i + 1) [0, 3, 4] [(448, 448)] rfl rfl ?_ (by omega) (by omega)
    simp -dsimp
    rw [wrap64 (by omega) (by omega), ← fill_step a 0 h1]
    try rfl
  · simp -dsimp [Nat.not_lt.2 h1]
    have : i = a.length := by omega
    subst this
    simp

@[simp] def h43 : Hts := {  }
theorem f43_ok (a : List Int) (l : Int) (ha : a.length ≤ 9223372036854775807) (h0 : 0 ≤ l) (h1 : l ≤ 1048576) : FnR Tryz.prog 43 [.v (.im a.length (flat a)), .v (.int .i64 l)] (.v (.int .i64 (szLen a l))) := by
  refine FnW.of_AW TryzT_ok 0 (fn := Tryz.f43) (by kernel_rfl) rfl (by kernel_rfl) rfl rfl rfl ?_
  refine AW_of h43 TryzT_ok (by kernel_rfl) ?_
  simp -dsimp
  rw [wrap64 (x := l - ↑a.length) (by omega) (by omega)]
  refine ⟨fun h => ?_, fun h => ?_⟩
  · rw [szLen, szq_neg h]
  · rw [szLen, szq_go h]

@[simp] def h166 : Hts := {  }
theorem f166_ok (a b : GDot) : FnR Tryz.prog 166 [.agg [.int .i64 a.rep, .int .i64 a.seq], .agg [.int .i64 b.rep, .int .i64 b.seq]] (.v (.bool (decide (a = b)))) := by
  refine FnW.of_AW TryzT_ok 0 (fn := Tryz.f166) (by kernel_rfl) rfl (by kernel_rfl) rfl rfl rfl ?_
  refine AW_of h166 TryzT_ok (by kernel_rfl) ?_
  simp -dsimp
  repeat' (first
    | refine And.intro ?_ ?_
    | intro _)
  all_goals first | assumption | (apply GDot.ext <;> assumption) | (subst_vars; simp_all; done) | grind

@[simp] def h167 : Hts := { dr := fun id => if id = 6 then [{}, {}, {}, {}, {}, {}, {}, {}, { cr := true }, {}] else [] }
theorem f167_ok (a b : List GDot) (ha : a.length ≤ 1073741824) : FnR Tryz.prog 167 [.v (.im a.length (flat a)), .v (.im b.length (flat b))] (.v (.bool (decide (a = b)))) := by
  refine FnW.of_AW TryzT_ok 0 (fn := Tryz.f167) (by kernel_rfl) rfl (by kernel_rfl) rfl rfl rfl ?_
  refine AW_of h167 TryzT_ok (by kernel_rfl) ?_
  simp -dsimp
  refine ⟨fun h e => h (by rw [e]), fun hl => ?_⟩
  replace hl : a.length = b.length := by omega
  refine AWh_loop (fun i : Nat => i ≤ a.length ∧ ∀ j : Nat, j < i → nth a j = nth b j) (fun i => mkE [(0, .c (.im a.length (flat a))), (1, .c (.im b.length (flat b))), (5, .c (.int .i64 i))] []) (fun i => a.length - i) 0 (Wk_to [0, 1, 5] [] rfl rfl (by simp)) (by simp) ?_
  rintro i ⟨hi, hall⟩
  refine AW_of h167 TryzT_ok (by kernel_rfl) ?_
  rcases Nat.lt_or_ge i a.length with h1 | h1
  · have h2 : i < b.length := by omega
    simp -dsimp [h1, h2, ne_of_lt h1, ne_of_lt h2]
    first | refine ⟨by omega, by omega, ?_⟩ | skip
    refine ACallK_of (f166_ok _ _) ?_
    simp -dsimp
    refine ⟨fun h e => h (by rw [e]), fun h => ?_⟩
    refine Back_of (i + 1) [0, 1, 5] [] rfl rfl (by simp; rw [wrap64 (by omega) (by omega)]) ⟨by omega, fun j hj => ?_⟩ (by omega)
    by_cases e : j = i
    · subst e; exact h
    · exact hall j (by omega)
  · simp -dsimp [Nat.not_lt.2 h1]
    exact list_eq_of_nth hl (fun j hj => hall j (by omega))

@[simp] def h143 : Hts := {  }
theorem f143_ok (a : GDot) : FnR Tryz.prog 143 [.agg [.int .i64 a.rep, .int .i64 a.seq]] (.agg [.int .i64 a.rep, .int .i64 a.seq]) := by
  refine FnW.of_AW TryzT_ok 0 (fn := Tryz.f143) (by kernel_rfl) rfl (by kernel_rfl) rfl rfl rfl ?_
  refine AW_of h143 TryzT_ok (by kernel_rfl) ?_
  simp -dsimp

@[simp] def h144 : Hts := {  }
theorem f144_ok (a : List GDot) (ha : a.length ≤ 1073741824) : FnR Tryz.prog 144 [.v (.im a.length (flat a))] (.v (.ow 47 2 a.length (flat a))) := by
  refine FnW.of_AW TryzT_ok 0 (fn := Tryz.f144) (by kernel_rfl) rfl (by kernel_rfl) rfl rfl rfl ?_
  refine AW_of h144 TryzT_ok (by kernel_rfl) ?_
  simp -dsimp
  refine ⟨by simp [capMax]; omega, ?_⟩
  refine AWh_loop (fun i : Nat => i ≤ a.length) (fun i => mkE [(0, .c (.im a.length (flat a))), (3, .arr 448), (4, .c (.int .i64 i))] [(448, .arr 0 47 2 a.length (flat (a.take i ++ List.replicate (a.length - i) ⟨0, 0⟩)))]) (fun i => a.length - i) 0 (Wk_to [0, 3, 4] [(448, 448)] rfl rfl (by simp)) (by simp) ?_
  rintro i hi
  refine AW_of h144 TryzT_ok (by kernel_rfl) ?_
  rcases Nat.lt_or_ge i a.length with h1 | h1
  · have h2 : i < min i a.length + (a.length - i) := by omega
    simp -dsimp [h1, ne_of_lt h1, h2]
    first | refine ⟨by omega, ?_⟩ | skip
    refine ACallK_of (f143_ok _) ?_
    simp -dsimp [h1, h2]
    first | refine ⟨by omega, ?_⟩ | skip
    refine Back_of (i + 1) [0, 3, 4] [(448, 448)] rfl rfl ?_ (by omega) (by omega)
    simp -dsimp
    rw [wrap64 (by omega) (by omega), ← fill_step a ⟨0, 0⟩ h1]
    try rfl
  · simp -dsimp [Nat.not_lt.2 h1]
    have : i = a.length := by omega
    subst this
    simp

@[simp] def h131 : Hts := {  }
theorem f131_ok (a : List GDot) (l : Int) (ha : a.length ≤ 9223372036854775807) (h0 : 0 ≤ l) (h1 : l ≤ 1048576) : FnR Tryz.prog 131 [.v (.im a.length (flat a)), .v (.int .i64 l)] (.v (.int .i64 (szLen a l))) := by
  refine FnW.of_AW TryzT_ok 0 (fn := Tryz.f131) (by kernel_rfl) rfl (by kernel_rfl) rfl rfl rfl ?_
  refine AW_of h131 TryzT_ok (by kernel_rfl) ?_
  simp -dsimp
  rw [wrap64 (x := l - ↑a.length) (by omega) (by omega)]
  refine ⟨fun h => ?_, fun h => ?_⟩
  · rw [szLen, szq_neg h]
  · rw [szLen, szq_go h]

@[simp] def h163 : Hts := {  }
theorem f163_ok (a b : GTally) : FnR Tryz.prog 163 [.agg [.str a.obj, .int .i64 a.rep, .int .i64 a.sum], .agg [.str b.obj, .int .i64 b.rep, .int .i64 b.sum]] (.v (.bool (decide (a = b)))) := by
  refine FnW.of_AW TryzT_ok 0 (fn := Tryz.f163) (by kernel_rfl) rfl (by kernel_rfl) rfl rfl rfl ?_
  refine AW_of h163 TryzT_ok (by kernel_rfl) ?_
  simp -dsimp
  repeat' (first
    | refine And.intro ?_ ?_
    | intro _)
  all_goals first | assumption | (apply GTally.ext <;> assumption) | (subst_vars; simp_all; done) | grind

@[simp] def h60 : Hts := { dr := fun id => if id = 6 then [{}, {}, {}, {}, {}, {}, {}, {}, { cr := true }, {}] else [] }
theorem f60_ok (a b : List GTally) (ha : a.length ≤ 1073741824) : FnR Tryz.prog 60 [.v (.im a.length (flat a)), .v (.im b.length (flat b))] (.v (.bool (decide (a = b)))) := by
  refine FnW.of_AW TryzT_ok 0 (fn := Tryz.f60) (by kernel_rfl) rfl (by kernel_rfl) rfl rfl rfl ?_
  refine AW_of h60 TryzT_ok (by kernel_rfl) ?_
  simp -dsimp
  refine ⟨fun h e => h (by rw [e]), fun hl => ?_⟩
  replace hl : a.length = b.length := by omega
  refine AWh_loop (fun i : Nat => i ≤ a.length ∧ ∀ j : Nat, j < i → nth a j = nth b j) (fun i => mkE [(0, .c (.im a.length (flat a))), (1, .c (.im b.length (flat b))), (5, .c (.int .i64 i))] []) (fun i => a.length - i) 0 (Wk_to [0, 1, 5] [] rfl rfl (by simp)) (by simp) ?_
  rintro i ⟨hi, hall⟩
  refine AW_of h60 TryzT_ok (by kernel_rfl) ?_
  rcases Nat.lt_or_ge i a.length with h1 | h1
  · have h2 : i < b.length := by omega
    simp -dsimp [h1, h2, ne_of_lt h1, ne_of_lt h2]
    first | refine ⟨by omega, by omega, ?_⟩ | skip
    refine ACallK_of (f163_ok _ _) ?_
    simp -dsimp
    refine ⟨fun h e => h (by rw [e]), fun h => ?_⟩
    refine Back_of (i + 1) [0, 1, 5] [] rfl rfl (by simp; rw [wrap64 (by omega) (by omega)]) ⟨by omega, fun j hj => ?_⟩ (by omega)
    by_cases e : j = i
    · subst e; exact h
    · exact hall j (by omega)
  · simp -dsimp [Nat.not_lt.2 h1]
    exact list_eq_of_nth hl (fun j hj => hall j (by omega))

@[simp] def h140 : Hts := {  }
theorem f140_ok (a : GTally) : FnR Tryz.prog 140 [.agg [.str a.obj, .int .i64 a.rep, .int .i64 a.sum]] (.agg [.str a.obj, .int .i64 a.rep, .int .i64 a.sum]) := by
  refine FnW.of_AW TryzT_ok 0 (fn := Tryz.f140) (by kernel_rfl) rfl (by kernel_rfl) rfl rfl rfl ?_
  refine AW_of h140 TryzT_ok (by kernel_rfl) ?_
  simp -dsimp

@[simp] def h52 : Hts := {  }
theorem f52_ok (a : List GTally) (ha : a.length ≤ 1073741824) : FnR Tryz.prog 52 [.v (.im a.length (flat a))] (.v (.ow 179 3 a.length (flat a))) := by
  refine FnW.of_AW TryzT_ok 0 (fn := Tryz.f52) (by kernel_rfl) rfl (by kernel_rfl) rfl rfl rfl ?_
  refine AW_of h52 TryzT_ok (by kernel_rfl) ?_
  simp -dsimp
  refine ⟨by simp [capMax]; omega, ?_⟩
  refine AWh_loop (fun i : Nat => i ≤ a.length) (fun i => mkE [(0, .c (.im a.length (flat a))), (3, .arr 448), (4, .c (.int .i64 i))] [(448, .arr 0 179 3 a.length (flat (a.take i ++ List.replicate (a.length - i) ⟨⟨#[]⟩, 0, 0⟩)))]) (fun i => a.length - i) 0 (Wk_to [0, 3, 4] [(448, 448)] rfl rfl (by simp)) (by simp) ?_
  rintro i hi
  refine AW_of h52 TryzT_ok (by kernel_rfl) ?_
  rcases Nat.lt_or_ge i a.length with h1 | h1
  · have h2 : i < min i a.length + (a.length - i) := by omega
    simp -dsimp [h1, ne_of_lt h1, h2]
    first | refine ⟨by omega, ?_⟩ | skip
    refine ACallK_of (f140_ok _) ?_
    simp -dsimp [h1, h2]
    first | refine ⟨by omega, ?_⟩ | skip
    refine Back_of (i + 1) [0, 3, 4] [(448, 448)] rfl rfl ?_ (by omega) (by omega)
    simp -dsimp
    rw [wrap64 (by omega) (by omega), ← fill_step a ⟨⟨#[]⟩, 0, 0⟩ h1]
    try rfl
  · simp -dsimp [Nat.not_lt.2 h1]
    have : i = a.length := by omega
    subst this
    simp

@[simp] def h128 : Hts := {  }
theorem f128_ok (a : GTally) (l : Int) (hf : a.Fit) (h0 : 0 ≤ l) (h1 : l ≤ 1048576) : FnR Tryz.prog 128 [.agg [.str a.obj, .int .i64 a.rep, .int .i64 a.sum], .v (.int .i64 l)] (.v (.int .i64 (a.sz l))) := by
  simp only [GTally.Fit] at hf
  refine FnW.of_AW TryzT_ok 0 (fn := Tryz.f128) (by kernel_rfl) rfl (by kernel_rfl) rfl rfl rfl ?_
  refine AW_of h128 TryzT_ok (by kernel_rfl) ?_
  simp -dsimp
  rw [wrap64 (x := l - ↑a.obj.size) (by omega) (by omega)]
  refine ⟨fun n0 => ?_, fun p0 => ?_⟩
  · rw [GTally.sz, szq_neg n0]
  rw [GTally.sz, szq_go p0]

@[simp] def h44 : Hts := {  }
theorem f44_ok (a : List GTally) (l : Int) (ha : a.length ≤ 9223372036854775807) (hf : ∀ x, x ∈ a → x.Fit) (h0 : 0 ≤ l) (h1 : l ≤ 1048576) : FnR Tryz.prog 44 [.v (.im a.length (flat a)), .v (.int .i64 l)] (.v (.int .i64 (szS GTally.sz a l))) := by
  refine FnW.of_AW TryzT_ok 0 (fn := Tryz.f44) (by kernel_rfl) rfl (by kernel_rfl) rfl rfl rfl ?_
  refine AW_of h44 TryzT_ok (by kernel_rfl) ?_
  simp -dsimp
  rw [wrap64 (x := l - ↑a.length) (by omega) (by omega)]
  refine ⟨fun h => ?_, fun h => ?_⟩
  · rw [szS, szq_neg h]
  rw [szS, szq_go h]
  refine AWh_loop (fun s : Nat × Int => s.1 ≤ a.length ∧ 0 ≤ s.2 ∧ s.2 ≤ 1048576 ∧ szGo GTally.sz (a.drop s.1) s.2 = szGo GTally.sz a (l - a.length)) (fun s => mkE [(0, .c (.im a.length (flat a))), (1, .c (.int .i64 s.2)), (5, .c (.int .i64 s.1))] []) (fun s => a.length - s.1) (0, l - a.length) (Wk_to [0, 1, 5] [] rfl rfl (by simp)) ⟨by simp, h, by simp; omega, by simp⟩ ?_
  rintro ⟨i, m⟩ ⟨hi, hm0, hm1, hinv⟩
  simp only at hi hm0 hm1 hinv
  refine AW_of h44 TryzT_ok (by kernel_rfl) ?_
  rcases Nat.lt_or_ge i a.length with h3 | h3
  · simp -dsimp [h3, ne_of_lt h3]
    first | refine ⟨by omega, ?_⟩ | skip
    refine ACallK_of (f128_ok _ _ (hf _ (nth_mem h3)) (by assumption) (by omega)) ?_
    simp -dsimp
    rw [szGo_drop h3] at hinv
    have hle := GTally.sz_le (nth a i) m hm0
    refine ⟨fun hn => ?_, fun hp => ?_⟩
    · rw [← hinv, szq_neg hn]
    · rw [szq_go hp] at hinv
      refine Back_of (i + 1, GTally.sz (nth a i) m) [0, 1, 5] [] rfl rfl (by simp; rw [wrap64 (by omega) (by omega)]) ⟨by simp; omega, hp, by simp; omega, hinv⟩ (by simp; omega)
  · have : i = a.length := by omega
    subst this
    simp -dsimp
    rw [← hinv, List.drop_of_length_le (Nat.le_refl _)]
    rfl

@[simp] def h164 : Hts := {  }
theorem f164_ok (a b : GLive) : FnR Tryz.prog 164 [.agg [.bool a.map, .str a.obj, .str a.key, .int .i64 a.val, .int .i64 a.dot.rep, .int .i64 a.dot.seq], .agg [.bool b.map, .str b.obj, .str b.key, .int .i64 b.val, .int .i64 b.dot.rep, .int .i64 b.dot.seq]] (.v (.bool (decide (a = b)))) := by
  refine FnW.of_AW TryzT_ok 0 (fn := Tryz.f164) (by kernel_rfl) rfl (by kernel_rfl) rfl rfl rfl ?_
  refine AW_of h164 TryzT_ok (by kernel_rfl) ?_
  simp -dsimp
  repeat' (first
    | (refine ACallK_of (f166_ok _ _) ?_; simp -dsimp)
    | refine And.intro ?_ ?_
    | intro _)
  all_goals first | assumption | (apply GLive.ext <;> assumption) | (subst_vars; simp_all; done) | grind

@[simp] def h61 : Hts := { dr := fun id => if id = 6 then [{}, {}, {}, {}, {}, {}, {}, {}, { cr := true }, {}] else [] }
theorem f61_ok (a b : List GLive) (ha : a.length ≤ 1073741824) : FnR Tryz.prog 61 [.v (.im a.length (flat a)), .v (.im b.length (flat b))] (.v (.bool (decide (a = b)))) := by
  refine FnW.of_AW TryzT_ok 0 (fn := Tryz.f61) (by kernel_rfl) rfl (by kernel_rfl) rfl rfl rfl ?_
  refine AW_of h61 TryzT_ok (by kernel_rfl) ?_
  simp -dsimp
  refine ⟨fun h e => h (by rw [e]), fun hl => ?_⟩
  replace hl : a.length = b.length := by omega
  refine AWh_loop (fun i : Nat => i ≤ a.length ∧ ∀ j : Nat, j < i → nth a j = nth b j) (fun i => mkE [(0, .c (.im a.length (flat a))), (1, .c (.im b.length (flat b))), (5, .c (.int .i64 i))] []) (fun i => a.length - i) 0 (Wk_to [0, 1, 5] [] rfl rfl (by simp)) (by simp) ?_
  rintro i ⟨hi, hall⟩
  refine AW_of h61 TryzT_ok (by kernel_rfl) ?_
  rcases Nat.lt_or_ge i a.length with h1 | h1
  · have h2 : i < b.length := by omega
    simp -dsimp [h1, h2, ne_of_lt h1, ne_of_lt h2]
    first | refine ⟨by omega, by omega, ?_⟩ | skip
    refine ACallK_of (f164_ok _ _) ?_
    simp -dsimp
    refine ⟨fun h e => h (by rw [e]), fun h => ?_⟩
    refine Back_of (i + 1) [0, 1, 5] [] rfl rfl (by simp; rw [wrap64 (by omega) (by omega)]) ⟨by omega, fun j hj => ?_⟩ (by omega)
    by_cases e : j = i
    · subst e; exact h
    · exact hall j (by omega)
  · simp -dsimp [Nat.not_lt.2 h1]
    exact list_eq_of_nth hl (fun j hj => hall j (by omega))

@[simp] def h141 : Hts := {  }
theorem f141_ok (a : GLive) : FnR Tryz.prog 141 [.agg [.bool a.map, .str a.obj, .str a.key, .int .i64 a.val, .int .i64 a.dot.rep, .int .i64 a.dot.seq]] (.agg [.bool a.map, .str a.obj, .str a.key, .int .i64 a.val, .int .i64 a.dot.rep, .int .i64 a.dot.seq]) := by
  refine FnW.of_AW TryzT_ok 0 (fn := Tryz.f141) (by kernel_rfl) rfl (by kernel_rfl) rfl rfl rfl ?_
  refine AW_of h141 TryzT_ok (by kernel_rfl) ?_
  simp -dsimp
  repeat' (first
    | (refine ACallK_of (f143_ok _) ?_; simp -dsimp)
    | refine And.intro ?_ ?_)

@[simp] def h53 : Hts := {  }
theorem f53_ok (a : List GLive) (ha : a.length ≤ 1073741824) : FnR Tryz.prog 53 [.v (.im a.length (flat a))] (.v (.ow 182 6 a.length (flat a))) := by
  refine FnW.of_AW TryzT_ok 0 (fn := Tryz.f53) (by kernel_rfl) rfl (by kernel_rfl) rfl rfl rfl ?_
  refine AW_of h53 TryzT_ok (by kernel_rfl) ?_
  simp -dsimp
  refine ⟨by simp [capMax]; omega, ?_⟩
  refine AWh_loop (fun i : Nat => i ≤ a.length) (fun i => mkE [(0, .c (.im a.length (flat a))), (3, .arr 448), (4, .c (.int .i64 i))] [(448, .arr 0 182 6 a.length (flat (a.take i ++ List.replicate (a.length - i) ⟨false, ⟨#[]⟩, ⟨#[]⟩, 0, ⟨0, 0⟩⟩)))]) (fun i => a.length - i) 0 (Wk_to [0, 3, 4] [(448, 448)] rfl rfl (by simp)) (by simp) ?_
  rintro i hi
  refine AW_of h53 TryzT_ok (by kernel_rfl) ?_
  rcases Nat.lt_or_ge i a.length with h1 | h1
  · have h2 : i < min i a.length + (a.length - i) := by omega
    simp -dsimp [h1, ne_of_lt h1, h2]
    first | refine ⟨by omega, ?_⟩ | skip
    refine ACallK_of (f141_ok _) ?_
    simp -dsimp [h1, h2]
    first | refine ⟨by omega, ?_⟩ | skip
    refine Back_of (i + 1) [0, 3, 4] [(448, 448)] rfl rfl ?_ (by omega) (by omega)
    simp -dsimp
    rw [wrap64 (by omega) (by omega), ← fill_step a ⟨false, ⟨#[]⟩, ⟨#[]⟩, 0, ⟨0, 0⟩⟩ h1]
    try rfl
  · simp -dsimp [Nat.not_lt.2 h1]
    have : i = a.length := by omega
    subst this
    simp

@[simp] def h129 : Hts := {  }
theorem f129_ok (a : GLive) (l : Int) (hf : a.Fit) (h0 : 0 ≤ l) (h1 : l ≤ 1048576) : FnR Tryz.prog 129 [.agg [.bool a.map, .str a.obj, .str a.key, .int .i64 a.val, .int .i64 a.dot.rep, .int .i64 a.dot.seq], .v (.int .i64 l)] (.v (.int .i64 (a.sz l))) := by
  simp only [GLive.Fit] at hf
  obtain ⟨o0, o1⟩ := hf
  refine FnW.of_AW TryzT_ok 0 (fn := Tryz.f129) (by kernel_rfl) rfl (by kernel_rfl) rfl rfl rfl ?_
  refine AW_of h129 TryzT_ok (by kernel_rfl) ?_
  simp -dsimp
  rw [wrap64 (x := l - ↑a.obj.size) (by omega) (by omega)]
  refine ⟨fun n0 => ?_, fun p0 => ?_⟩
  · rw [GLive.sz, szq_neg n0]
  rw [wrap64 (x := l - ↑a.obj.size - ↑a.key.size) (by omega) (by omega)]
  refine ⟨fun n1 => ?_, fun p1 => ?_⟩
  · rw [GLive.sz, szq_go p0, szq_neg n1]
  rw [GLive.sz, szq_go p0, szq_go p1]

@[simp] def h45 : Hts := {  }
theorem f45_ok (a : List GLive) (l : Int) (ha : a.length ≤ 9223372036854775807) (hf : ∀ x, x ∈ a → x.Fit) (h0 : 0 ≤ l) (h1 : l ≤ 1048576) : FnR Tryz.prog 45 [.v (.im a.length (flat a)), .v (.int .i64 l)] (.v (.int .i64 (szS GLive.sz a l))) := by
  refine FnW.of_AW TryzT_ok 0 (fn := Tryz.f45) (by kernel_rfl) rfl (by kernel_rfl) rfl rfl rfl ?_
  refine AW_of h45 TryzT_ok (by kernel_rfl) ?_
  simp -dsimp
  rw [wrap64 (x := l - ↑a.length) (by omega) (by omega)]
  refine ⟨fun h => ?_, fun h => ?_⟩
  · rw [szS, szq_neg h]
  rw [szS, szq_go h]
  refine AWh_loop (fun s : Nat × Int => s.1 ≤ a.length ∧ 0 ≤ s.2 ∧ s.2 ≤ 1048576 ∧ szGo GLive.sz (a.drop s.1) s.2 = szGo GLive.sz a (l - a.length)) (fun s => mkE [(0, .c (.im a.length (flat a))), (1, .c (.int .i64 s.2)), (5, .c (.int .i64 s.1))] []) (fun s => a.length - s.1) (0, l - a.length) (Wk_to [0, 1, 5] [] rfl rfl (by simp)) ⟨by simp, h, by simp; omega, by simp⟩ ?_
  rintro ⟨i, m⟩ ⟨hi, hm0, hm1, hinv⟩
  simp only at hi hm0 hm1 hinv
  refine AW_of h45 TryzT_ok (by kernel_rfl) ?_
  rcases Nat.lt_or_ge i a.length with h3 | h3
  · simp -dsimp [h3, ne_of_lt h3]
    first | refine ⟨by omega, ?_⟩ | skip
    refine ACallK_of (f129_ok _ _ (hf _ (nth_mem h3)) (by assumption) (by omega)) ?_
    simp -dsimp
    rw [szGo_drop h3] at hinv
    have hle := GLive.sz_le (nth a i) m hm0
    refine ⟨fun hn => ?_, fun hp => ?_⟩
    · rw [← hinv, szq_neg hn]
    · rw [szq_go hp] at hinv
      refine Back_of (i + 1, GLive.sz (nth a i) m) [0, 1, 5] [] rfl rfl (by simp; rw [wrap64 (by omega) (by omega)]) ⟨by simp; omega, hp, by simp; omega, hinv⟩ (by simp; omega)
  · have : i = a.length := by omega
    subst this
    simp -dsimp
    rw [← hinv, List.drop_of_length_le (Nat.le_refl _)]
    rfl

@[simp] def h165 : Hts := {  }
theorem f165_ok (a b : GCell) : FnR Tryz.prog 165 [.agg [.str a.obj, .int .i64 a.dot.rep, .int .i64 a.dot.seq, .int .i64 a.time, .int .i64 a.ref.rep, .int .i64 a.ref.seq, .int .i64 a.val, .bool a.gone], .agg [.str b.obj, .int .i64 b.dot.rep, .int .i64 b.dot.seq, .int .i64 b.time, .int .i64 b.ref.rep, .int .i64 b.ref.seq, .int .i64 b.val, .bool b.gone]] (.v (.bool (decide (a = b)))) := by
  refine FnW.of_AW TryzT_ok 0 (fn := Tryz.f165) (by kernel_rfl) rfl (by kernel_rfl) rfl rfl rfl ?_
  refine AW_of h165 TryzT_ok (by kernel_rfl) ?_
  simp -dsimp
  repeat' (first
    | (refine ACallK_of (f166_ok _ _) ?_; simp -dsimp)
    | refine And.intro ?_ ?_
    | intro _)
  all_goals first | assumption | (apply GCell.ext <;> assumption) | (subst_vars; simp_all; done) | grind

@[simp] def h62 : Hts := { dr := fun id => if id = 6 then [{}, {}, {}, {}, {}, {}, {}, {}, { cr := true }, {}] else [] }
theorem f62_ok (a b : List GCell) (ha : a.length ≤ 1073741824) : FnR Tryz.prog 62 [.v (.im a.length (flat a)), .v (.im b.length (flat b))] (.v (.bool (decide (a = b)))) := by
  refine FnW.of_AW TryzT_ok 0 (fn := Tryz.f62) (by kernel_rfl) rfl (by kernel_rfl) rfl rfl rfl ?_
  refine AW_of h62 TryzT_ok (by kernel_rfl) ?_
  simp -dsimp
  refine ⟨fun h e => h (by rw [e]), fun hl => ?_⟩
  replace hl : a.length = b.length := by omega
  refine AWh_loop (fun i : Nat => i ≤ a.length ∧ ∀ j : Nat, j < i → nth a j = nth b j) (fun i => mkE [(0, .c (.im a.length (flat a))), (1, .c (.im b.length (flat b))), (5, .c (.int .i64 i))] []) (fun i => a.length - i) 0 (Wk_to [0, 1, 5] [] rfl rfl (by simp)) (by simp) ?_
  rintro i ⟨hi, hall⟩
  refine AW_of h62 TryzT_ok (by kernel_rfl) ?_
  rcases Nat.lt_or_ge i a.length with h1 | h1
  · have h2 : i < b.length := by omega
    simp -dsimp [h1, h2, ne_of_lt h1, ne_of_lt h2]
    first | refine ⟨by omega, by omega, ?_⟩ | skip
    refine ACallK_of (f165_ok _ _) ?_
    simp -dsimp
    refine ⟨fun h e => h (by rw [e]), fun h => ?_⟩
    refine Back_of (i + 1) [0, 1, 5] [] rfl rfl (by simp; rw [wrap64 (by omega) (by omega)]) ⟨by omega, fun j hj => ?_⟩ (by omega)
    by_cases e : j = i
    · subst e; exact h
    · exact hall j (by omega)
  · simp -dsimp [Nat.not_lt.2 h1]
    exact list_eq_of_nth hl (fun j hj => hall j (by omega))

@[simp] def h142 : Hts := {  }
theorem f142_ok (a : GCell) : FnR Tryz.prog 142 [.agg [.str a.obj, .int .i64 a.dot.rep, .int .i64 a.dot.seq, .int .i64 a.time, .int .i64 a.ref.rep, .int .i64 a.ref.seq, .int .i64 a.val, .bool a.gone]] (.agg [.str a.obj, .int .i64 a.dot.rep, .int .i64 a.dot.seq, .int .i64 a.time, .int .i64 a.ref.rep, .int .i64 a.ref.seq, .int .i64 a.val, .bool a.gone]) := by
  refine FnW.of_AW TryzT_ok 0 (fn := Tryz.f142) (by kernel_rfl) rfl (by kernel_rfl) rfl rfl rfl ?_
  refine AW_of h142 TryzT_ok (by kernel_rfl) ?_
  simp -dsimp
  repeat' (first
    | (refine ACallK_of (f143_ok _) ?_; simp -dsimp)
    | refine And.intro ?_ ?_)

@[simp] def h54 : Hts := {  }
theorem f54_ok (a : List GCell) (ha : a.length ≤ 1073741824) : FnR Tryz.prog 54 [.v (.im a.length (flat a))] (.v (.ow 185 8 a.length (flat a))) := by
  refine FnW.of_AW TryzT_ok 0 (fn := Tryz.f54) (by kernel_rfl) rfl (by kernel_rfl) rfl rfl rfl ?_
  refine AW_of h54 TryzT_ok (by kernel_rfl) ?_
  simp -dsimp
  refine ⟨by simp [capMax]; omega, ?_⟩
  refine AWh_loop (fun i : Nat => i ≤ a.length) (fun i => mkE [(0, .c (.im a.length (flat a))), (3, .arr 448), (4, .c (.int .i64 i))] [(448, .arr 0 185 8 a.length (flat (a.take i ++ List.replicate (a.length - i) ⟨⟨#[]⟩, ⟨0, 0⟩, 0, ⟨0, 0⟩, 0, false⟩)))]) (fun i => a.length - i) 0 (Wk_to [0, 3, 4] [(448, 448)] rfl rfl (by simp)) (by simp) ?_
  rintro i hi
  refine AW_of h54 TryzT_ok (by kernel_rfl) ?_
  rcases Nat.lt_or_ge i a.length with h1 | h1
  · have h2 : i < min i a.length + (a.length - i) := by omega
    simp -dsimp [h1, ne_of_lt h1, h2]
    first | refine ⟨by omega, ?_⟩ | skip
    refine ACallK_of (f142_ok _) ?_
    simp -dsimp [h1, h2]
    first | refine ⟨by omega, ?_⟩ | skip
    refine Back_of (i + 1) [0, 3, 4] [(448, 448)] rfl rfl ?_ (by omega) (by omega)
    simp -dsimp
    rw [wrap64 (by omega) (by omega), ← fill_step a ⟨⟨#[]⟩, ⟨0, 0⟩, 0, ⟨0, 0⟩, 0, false⟩ h1]
    try rfl
  · simp -dsimp [Nat.not_lt.2 h1]
    have : i = a.length := by omega
    subst this
    simp

@[simp] def h130 : Hts := {  }
theorem f130_ok (a : GCell) (l : Int) (hf : a.Fit) (h0 : 0 ≤ l) (h1 : l ≤ 1048576) : FnR Tryz.prog 130 [.agg [.str a.obj, .int .i64 a.dot.rep, .int .i64 a.dot.seq, .int .i64 a.time, .int .i64 a.ref.rep, .int .i64 a.ref.seq, .int .i64 a.val, .bool a.gone], .v (.int .i64 l)] (.v (.int .i64 (a.sz l))) := by
  simp only [GCell.Fit] at hf
  refine FnW.of_AW TryzT_ok 0 (fn := Tryz.f130) (by kernel_rfl) rfl (by kernel_rfl) rfl rfl rfl ?_
  refine AW_of h130 TryzT_ok (by kernel_rfl) ?_
  simp -dsimp
  rw [wrap64 (x := l - ↑a.obj.size) (by omega) (by omega)]
  refine ⟨fun n0 => ?_, fun p0 => ?_⟩
  · rw [GCell.sz, szq_neg n0]
  rw [GCell.sz, szq_go p0]

@[simp] def h46 : Hts := {  }
theorem f46_ok (a : List GCell) (l : Int) (ha : a.length ≤ 9223372036854775807) (hf : ∀ x, x ∈ a → x.Fit) (h0 : 0 ≤ l) (h1 : l ≤ 1048576) : FnR Tryz.prog 46 [.v (.im a.length (flat a)), .v (.int .i64 l)] (.v (.int .i64 (szS GCell.sz a l))) := by
  refine FnW.of_AW TryzT_ok 0 (fn := Tryz.f46) (by kernel_rfl) rfl (by kernel_rfl) rfl rfl rfl ?_
  refine AW_of h46 TryzT_ok (by kernel_rfl) ?_
  simp -dsimp
  rw [wrap64 (x := l - ↑a.length) (by omega) (by omega)]
  refine ⟨fun h => ?_, fun h => ?_⟩
  · rw [szS, szq_neg h]
  rw [szS, szq_go h]
  refine AWh_loop (fun s : Nat × Int => s.1 ≤ a.length ∧ 0 ≤ s.2 ∧ s.2 ≤ 1048576 ∧ szGo GCell.sz (a.drop s.1) s.2 = szGo GCell.sz a (l - a.length)) (fun s => mkE [(0, .c (.im a.length (flat a))), (1, .c (.int .i64 s.2)), (5, .c (.int .i64 s.1))] []) (fun s => a.length - s.1) (0, l - a.length) (Wk_to [0, 1, 5] [] rfl rfl (by simp)) ⟨by simp, h, by simp; omega, by simp⟩ ?_
  rintro ⟨i, m⟩ ⟨hi, hm0, hm1, hinv⟩
  simp only at hi hm0 hm1 hinv
  refine AW_of h46 TryzT_ok (by kernel_rfl) ?_
  rcases Nat.lt_or_ge i a.length with h3 | h3
  · simp -dsimp [h3, ne_of_lt h3]
    first | refine ⟨by omega, ?_⟩ | skip
    refine ACallK_of (f130_ok _ _ (hf _ (nth_mem h3)) (by assumption) (by omega)) ?_
    simp -dsimp
    rw [szGo_drop h3] at hinv
    have hle := GCell.sz_le (nth a i) m hm0
    refine ⟨fun hn => ?_, fun hp => ?_⟩
    · rw [← hinv, szq_neg hn]
    · rw [szq_go hp] at hinv
      refine Back_of (i + 1, GCell.sz (nth a i) m) [0, 1, 5] [] rfl rfl (by simp; rw [wrap64 (by omega) (by omega)]) ⟨by simp; omega, hp, by simp; omega, hinv⟩ (by simp; omega)
  · have : i = a.length := by omega
    subst this
    simp -dsimp
    rw [← hinv, List.drop_of_length_le (Nat.le_refl _)]
    rfl

@[simp] def h63 : Hts := {  }
theorem f63_ok (a b : GAct) (h : a.Ok) : FnR Tryz.prog 63 [.agg [.int .i64 a.dot.rep, .int .i64 a.dot.seq, .int .i64 a.time, .im a.knew.length (flat a.knew), .int .i64 a.kind, .str a.obj, .str a.key, .int .i64 a.val, .int .i64 a.ref.rep, .int .i64 a.ref.seq], .agg [.int .i64 b.dot.rep, .int .i64 b.dot.seq, .int .i64 b.time, .im b.knew.length (flat b.knew), .int .i64 b.kind, .str b.obj, .str b.key, .int .i64 b.val, .int .i64 b.ref.rep, .int .i64 b.ref.seq]] (.v (.bool (decide (a = b)))) := by
  simp only [GAct.Ok] at h
  obtain ⟨o0, o1, o2⟩ := h
  refine FnW.of_AW TryzT_ok 0 (fn := Tryz.f63) (by kernel_rfl) rfl (by kernel_rfl) rfl rfl rfl ?_
  refine AW_of h63 TryzT_ok (by kernel_rfl) ?_
  simp -dsimp
  repeat' (first
    | (refine ACallK_of (f166_ok _ _) ?_; simp -dsimp)
    | (refine ACallK_of (f59_ok _ _ (by assumption)) ?_; simp -dsimp)
    | refine And.intro ?_ ?_
    | intro _)
  all_goals first | assumption | (apply GAct.ext <;> assumption) | (subst_vars; simp_all; done) | grind

@[simp] def h55 : Hts := {  }
theorem f55_ok (a : GAct) (h : a.Ok) : FnR Tryz.prog 55 [.agg [.int .i64 a.dot.rep, .int .i64 a.dot.seq, .int .i64 a.time, .im a.knew.length (flat a.knew), .int .i64 a.kind, .str a.obj, .str a.key, .int .i64 a.val, .int .i64 a.ref.rep, .int .i64 a.ref.seq]] (.agg [.int .i64 a.dot.rep, .int .i64 a.dot.seq, .int .i64 a.time, .ow 3 1 a.knew.length (flat a.knew), .int .i64 a.kind, .str a.obj, .str a.key, .int .i64 a.val, .int .i64 a.ref.rep, .int .i64 a.ref.seq]) := by
  simp only [GAct.Ok] at h
  obtain ⟨o0, o1, o2⟩ := h
  refine FnW.of_AW TryzT_ok 0 (fn := Tryz.f55) (by kernel_rfl) rfl (by kernel_rfl) rfl rfl rfl ?_
  refine AW_of h55 TryzT_ok (by kernel_rfl) ?_
  simp -dsimp
  repeat' (first
    | (refine ACallK_of (f143_ok _) ?_; simp -dsimp)
    | (refine ACallK_of (f51_ok _ (by assumption)) ?_; simp -dsimp)
    | refine And.intro ?_ ?_)

@[simp] def h47 : Hts := {  }
theorem f47_ok (a : GAct) (l : Int) (hf : a.Fit) (h0 : 0 ≤ l) (h1 : l ≤ 1048576) : FnR Tryz.prog 47 [.agg [.int .i64 a.dot.rep, .int .i64 a.dot.seq, .int .i64 a.time, .im a.knew.length (flat a.knew), .int .i64 a.kind, .str a.obj, .str a.key, .int .i64 a.val, .int .i64 a.ref.rep, .int .i64 a.ref.seq], .v (.int .i64 l)] (.v (.int .i64 (a.sz l))) := by
  simp only [GAct.Fit] at hf
  obtain ⟨o0, o1, o2⟩ := hf
  refine FnW.of_AW TryzT_ok 0 (fn := Tryz.f47) (by kernel_rfl) rfl (by kernel_rfl) rfl rfl rfl ?_
  refine AW_of h47 TryzT_ok (by kernel_rfl) ?_
  simp -dsimp
  refine ACallK_of (f43_ok _ _ (by assumption) (by assumption) (by omega)) ?_
  simp -dsimp
  have q0 := szLen_le a.knew _ h0
  refine ⟨fun n0 => ?_, fun p0 => ?_⟩
  · rw [GAct.sz, szq_neg n0]
  rw [wrap64 (x := szLen a.knew (l) - ↑a.obj.size) (by omega) (by omega)]
  refine ⟨fun n1 => ?_, fun p1 => ?_⟩
  · rw [GAct.sz, szq_go p0, szq_neg n1]
  rw [wrap64 (x := szLen a.knew (l) - ↑a.obj.size - ↑a.key.size) (by omega) (by omega)]
  refine ⟨fun n2 => ?_, fun p2 => ?_⟩
  · rw [GAct.sz, szq_go p0, szq_go p1, szq_neg n2]
  rw [GAct.sz, szq_go p0, szq_go p1, szq_go p2]

@[simp] def h15 : Hts := {  }
theorem f15_ok (a b : GState) (h : a.Ok) : FnR Tryz.prog 15 [.agg [.im a.know.length (flat a.know), .im a.tallies.length (flat a.tallies), .im a.lives.length (flat a.lives), .im a.cs.length (flat a.cs)], .agg [.im b.know.length (flat b.know), .im b.tallies.length (flat b.tallies), .im b.lives.length (flat b.lives), .im b.cs.length (flat b.cs)]] (.v (.bool (decide (a = b)))) := by
  simp only [GState.Ok] at h
  obtain ⟨o0, o1, o2, o3, o4, o5, o6⟩ := h
  refine FnW.of_AW TryzT_ok 0 (fn := Tryz.f15) (by kernel_rfl) rfl (by kernel_rfl) rfl rfl rfl ?_
  refine AW_of h15 TryzT_ok (by kernel_rfl) ?_
  simp -dsimp
  repeat' (first
    | (refine ACallK_of (f59_ok _ _ (by assumption)) ?_; simp -dsimp)
    | (refine ACallK_of (f60_ok _ _ (by assumption)) ?_; simp -dsimp)
    | (refine ACallK_of (f61_ok _ _ (by assumption)) ?_; simp -dsimp)
    | (refine ACallK_of (f62_ok _ _ (by assumption)) ?_; simp -dsimp)
    | refine And.intro ?_ ?_
    | intro _)
  all_goals first | assumption | (apply GState.ext <;> assumption) | (subst_vars; simp_all; done) | grind

@[simp] def h12 : Hts := {  }
theorem f12_ok (a : GState) (h : a.Ok) : FnR Tryz.prog 12 [.agg [.im a.know.length (flat a.know), .im a.tallies.length (flat a.tallies), .im a.lives.length (flat a.lives), .im a.cs.length (flat a.cs)]] (.agg [.ow 3 1 a.know.length (flat a.know), .ow 179 3 a.tallies.length (flat a.tallies), .ow 182 6 a.lives.length (flat a.lives), .ow 185 8 a.cs.length (flat a.cs)]) := by
  simp only [GState.Ok] at h
  obtain ⟨o0, o1, o2, o3, o4, o5, o6⟩ := h
  refine FnW.of_AW TryzT_ok 0 (fn := Tryz.f12) (by kernel_rfl) rfl (by kernel_rfl) rfl rfl rfl ?_
  refine AW_of h12 TryzT_ok (by kernel_rfl) ?_
  simp -dsimp
  repeat' (first
    | (refine ACallK_of (f51_ok _ (by assumption)) ?_; simp -dsimp)
    | (refine ACallK_of (f52_ok _ (by assumption)) ?_; simp -dsimp)
    | (refine ACallK_of (f53_ok _ (by assumption)) ?_; simp -dsimp)
    | (refine ACallK_of (f54_ok _ (by assumption)) ?_; simp -dsimp)
    | refine And.intro ?_ ?_)

@[simp] def h9 : Hts := {  }
theorem f9_ok (a : GState) (l : Int) (hf : a.Fit) (h0 : 0 ≤ l) (h1 : l ≤ 1048576) : FnR Tryz.prog 9 [.agg [.im a.know.length (flat a.know), .im a.tallies.length (flat a.tallies), .im a.lives.length (flat a.lives), .im a.cs.length (flat a.cs)], .v (.int .i64 l)] (.v (.int .i64 (a.sz l))) := by
  simp only [GState.Fit] at hf
  obtain ⟨o0, o1, o2, o3, o4, o5, o6⟩ := hf
  refine FnW.of_AW TryzT_ok 0 (fn := Tryz.f9) (by kernel_rfl) rfl (by kernel_rfl) rfl rfl rfl ?_
  refine AW_of h9 TryzT_ok (by kernel_rfl) ?_
  simp -dsimp
  refine ACallK_of (f43_ok _ _ (by assumption) (by assumption) (by omega)) ?_
  simp -dsimp
  have q0 := szLen_le a.know _ h0
  refine ⟨fun n0 => ?_, fun p0 => ?_⟩
  · rw [GState.sz, szq_neg n0]
  refine ACallK_of (f44_ok _ _ (by assumption) (by assumption) (by assumption) (by omega)) ?_
  simp -dsimp
  have q1 := szS_le GTally.sz_le a.tallies _ p0
  refine ⟨fun n1 => ?_, fun p1 => ?_⟩
  · rw [GState.sz, szq_go p0, szq_neg n1]
  refine ACallK_of (f45_ok _ _ (by assumption) (by assumption) (by assumption) (by omega)) ?_
  simp -dsimp
  have q2 := szS_le GLive.sz_le a.lives _ p1
  refine ⟨fun n2 => ?_, fun p2 => ?_⟩
  · rw [GState.sz, szq_go p0, szq_go p1, szq_neg n2]
  refine ACallK_of (f46_ok _ _ (by assumption) (by assumption) (by assumption) (by omega)) ?_
  simp -dsimp
  have q3 := szS_le GCell.sz_le a.cs _ p2
  refine ⟨fun n3 => ?_, fun p3 => ?_⟩
  · rw [GState.sz, szq_go p0, szq_go p1, szq_go p2, szq_neg n3]
  rw [GState.sz, szq_go p0, szq_go p1, szq_go p2, szq_go p3]

@[simp] def h40 : Hts := {  }
theorem f40_ok (a : GEdit) : FnR Tryz.prog 40 [.agg [.int .i64 a.kind, .str a.obj, .str a.key, .int .i64 a.val, .int .i64 a.place]] (.agg [.int .i64 a.kind, .str a.obj, .str a.key, .int .i64 a.val, .int .i64 a.place]) := by
  refine FnW.of_AW TryzT_ok 0 (fn := Tryz.f40) (by kernel_rfl) rfl (by kernel_rfl) rfl rfl rfl ?_
  refine AW_of h40 TryzT_ok (by kernel_rfl) ?_
  simp -dsimp

@[simp] def h38 : Hts := {  }
theorem f38_ok (a : GEdit) (l : Int) (hf : a.Fit) (h0 : 0 ≤ l) (h1 : l ≤ 1048576) : FnR Tryz.prog 38 [.agg [.int .i64 a.kind, .str a.obj, .str a.key, .int .i64 a.val, .int .i64 a.place], .v (.int .i64 l)] (.v (.int .i64 (a.sz l))) := by
  simp only [GEdit.Fit] at hf
  obtain ⟨o0, o1⟩ := hf
  refine FnW.of_AW TryzT_ok 0 (fn := Tryz.f38) (by kernel_rfl) rfl (by kernel_rfl) rfl rfl rfl ?_
  refine AW_of h38 TryzT_ok (by kernel_rfl) ?_
  simp -dsimp
  rw [wrap64 (x := l - ↑a.obj.size) (by omega) (by omega)]
  refine ⟨fun n0 => ?_, fun p0 => ?_⟩
  · rw [GEdit.sz, szq_neg n0]
  rw [wrap64 (x := l - ↑a.obj.size - ↑a.key.size) (by omega) (by omega)]
  refine ⟨fun n1 => ?_, fun p1 => ?_⟩
  · rw [GEdit.sz, szq_go p0, szq_neg n1]
  rw [GEdit.sz, szq_go p0, szq_go p1]

@[simp] def h64 : Hts := {  }
theorem f64_ok (a b : GDelta) (h : a.Ok) : FnR Tryz.prog 64 [.agg [.im a.base.length (flat a.base), .im a.know.length (flat a.know), .im a.tallies.length (flat a.tallies), .im a.lives.length (flat a.lives), .im a.dead.length (flat a.dead), .im a.cs.length (flat a.cs)], .agg [.im b.base.length (flat b.base), .im b.know.length (flat b.know), .im b.tallies.length (flat b.tallies), .im b.lives.length (flat b.lives), .im b.dead.length (flat b.dead), .im b.cs.length (flat b.cs)]] (.v (.bool (decide (a = b)))) := by
  simp only [GDelta.Ok] at h
  obtain ⟨o0, o1, o2, o3, o4, o5, o6, o7, o8⟩ := h
  refine FnW.of_AW TryzT_ok 0 (fn := Tryz.f64) (by kernel_rfl) rfl (by kernel_rfl) rfl rfl rfl ?_
  refine AW_of h64 TryzT_ok (by kernel_rfl) ?_
  simp -dsimp
  repeat' (first
    | (refine ACallK_of (f59_ok _ _ (by assumption)) ?_; simp -dsimp)
    | (refine ACallK_of (f60_ok _ _ (by assumption)) ?_; simp -dsimp)
    | (refine ACallK_of (f61_ok _ _ (by assumption)) ?_; simp -dsimp)
    | (refine ACallK_of (f167_ok _ _ (by assumption)) ?_; simp -dsimp)
    | (refine ACallK_of (f62_ok _ _ (by assumption)) ?_; simp -dsimp)
    | refine And.intro ?_ ?_
    | intro _)
  all_goals first | assumption | (apply GDelta.ext <;> assumption) | (subst_vars; simp_all; done) | grind

@[simp] def h56 : Hts := {  }
theorem f56_ok (a : GDelta) (h : a.Ok) : FnR Tryz.prog 56 [.agg [.im a.base.length (flat a.base), .im a.know.length (flat a.know), .im a.tallies.length (flat a.tallies), .im a.lives.length (flat a.lives), .im a.dead.length (flat a.dead), .im a.cs.length (flat a.cs)]] (.agg [.ow 3 1 a.base.length (flat a.base), .ow 3 1 a.know.length (flat a.know), .ow 179 3 a.tallies.length (flat a.tallies), .ow 182 6 a.lives.length (flat a.lives), .ow 47 2 a.dead.length (flat a.dead), .ow 185 8 a.cs.length (flat a.cs)]) := by
  simp only [GDelta.Ok] at h
  obtain ⟨o0, o1, o2, o3, o4, o5, o6, o7, o8⟩ := h
  refine FnW.of_AW TryzT_ok 0 (fn := Tryz.f56) (by kernel_rfl) rfl (by kernel_rfl) rfl rfl rfl ?_
  refine AW_of h56 TryzT_ok (by kernel_rfl) ?_
  simp -dsimp
  repeat' (first
    | (refine ACallK_of (f51_ok _ (by assumption)) ?_; simp -dsimp)
    | (refine ACallK_of (f52_ok _ (by assumption)) ?_; simp -dsimp)
    | (refine ACallK_of (f53_ok _ (by assumption)) ?_; simp -dsimp)
    | (refine ACallK_of (f144_ok _ (by assumption)) ?_; simp -dsimp)
    | (refine ACallK_of (f54_ok _ (by assumption)) ?_; simp -dsimp)
    | refine And.intro ?_ ?_)

@[simp] def h48 : Hts := {  }
theorem f48_ok (a : GDelta) (l : Int) (hf : a.Fit) (h0 : 0 ≤ l) (h1 : l ≤ 1048576) : FnR Tryz.prog 48 [.agg [.im a.base.length (flat a.base), .im a.know.length (flat a.know), .im a.tallies.length (flat a.tallies), .im a.lives.length (flat a.lives), .im a.dead.length (flat a.dead), .im a.cs.length (flat a.cs)], .v (.int .i64 l)] (.v (.int .i64 (a.sz l))) := by
  simp only [GDelta.Fit] at hf
  obtain ⟨o0, o1, o2, o3, o4, o5, o6, o7, o8⟩ := hf
  refine FnW.of_AW TryzT_ok 0 (fn := Tryz.f48) (by kernel_rfl) rfl (by kernel_rfl) rfl rfl rfl ?_
  refine AW_of h48 TryzT_ok (by kernel_rfl) ?_
  simp -dsimp
  refine ACallK_of (f43_ok _ _ (by assumption) (by assumption) (by omega)) ?_
  simp -dsimp
  have q0 := szLen_le a.base _ h0
  refine ⟨fun n0 => ?_, fun p0 => ?_⟩
  · rw [GDelta.sz, szq_neg n0]
  refine ACallK_of (f43_ok _ _ (by assumption) (by assumption) (by omega)) ?_
  simp -dsimp
  have q1 := szLen_le a.know _ p0
  refine ⟨fun n1 => ?_, fun p1 => ?_⟩
  · rw [GDelta.sz, szq_go p0, szq_neg n1]
  refine ACallK_of (f44_ok _ _ (by assumption) (by assumption) (by assumption) (by omega)) ?_
  simp -dsimp
  have q2 := szS_le GTally.sz_le a.tallies _ p1
  refine ⟨fun n2 => ?_, fun p2 => ?_⟩
  · rw [GDelta.sz, szq_go p0, szq_go p1, szq_neg n2]
  refine ACallK_of (f45_ok _ _ (by assumption) (by assumption) (by assumption) (by omega)) ?_
  simp -dsimp
  have q3 := szS_le GLive.sz_le a.lives _ p2
  refine ⟨fun n3 => ?_, fun p3 => ?_⟩
  · rw [GDelta.sz, szq_go p0, szq_go p1, szq_go p2, szq_neg n3]
  refine ACallK_of (f131_ok _ _ (by assumption) (by assumption) (by omega)) ?_
  simp -dsimp
  have q4 := szLen_le a.dead _ p3
  refine ⟨fun n4 => ?_, fun p4 => ?_⟩
  · rw [GDelta.sz, szq_go p0, szq_go p1, szq_go p2, szq_go p3, szq_neg n4]
  refine ACallK_of (f46_ok _ _ (by assumption) (by assumption) (by assumption) (by omega)) ?_
  simp -dsimp
  have q5 := szS_le GCell.sz_le a.cs _ p4
  refine ⟨fun n5 => ?_, fun p5 => ?_⟩
  · rw [GDelta.sz, szq_go p0, szq_go p1, szq_go p2, szq_go p3, szq_go p4, szq_neg n5]
  rw [GDelta.sz, szq_go p0, szq_go p1, szq_go p2, szq_go p3, szq_go p4, szq_go p5]

@[simp] def h182 : Hts := {  }
theorem f182_ok (a b : GCommit) (h : a.Ok) : FnR Tryz.prog 182 [.agg [.int .i64 a.id.rep, .int .i64 a.id.seq, .im a.ups.length (flat a.ups), .im a.state.know.length (flat a.state.know), .im a.state.tallies.length (flat a.state.tallies), .im a.state.lives.length (flat a.state.lives), .im a.state.cs.length (flat a.state.cs)], .agg [.int .i64 b.id.rep, .int .i64 b.id.seq, .im b.ups.length (flat b.ups), .im b.state.know.length (flat b.state.know), .im b.state.tallies.length (flat b.state.tallies), .im b.state.lives.length (flat b.state.lives), .im b.state.cs.length (flat b.state.cs)]] (.v (.bool (decide (a = b)))) := by
  simp only [GCommit.Ok] at h
  obtain ⟨o0, o1⟩ := h
  refine FnW.of_AW TryzT_ok 0 (fn := Tryz.f182) (by kernel_rfl) rfl (by kernel_rfl) rfl rfl rfl ?_
  refine AW_of h182 TryzT_ok (by kernel_rfl) ?_
  simp -dsimp
  repeat' (first
    | (refine ACallK_of (f166_ok _ _) ?_; simp -dsimp)
    | (refine ACallK_of (f59_ok _ _ (by assumption)) ?_; simp -dsimp)
    | (refine ACallK_of (f15_ok _ _ (by assumption)) ?_; simp -dsimp)
    | refine And.intro ?_ ?_
    | intro _)
  all_goals first | assumption | (apply GCommit.ext <;> assumption) | (subst_vars; simp_all; done) | grind

@[simp] def h83 : Hts := { dr := fun id => if id = 6 then [{}, {}, {}, {}, {}, {}, {}, {}, { cr := true }, {}] else [] }
theorem f83_ok (a b : List GCommit) (ha : a.length ≤ 1073741824) (he : ∀ x, x ∈ a → x.Ok) : FnR Tryz.prog 83 [.v (.im a.length (flat a)), .v (.im b.length (flat b))] (.v (.bool (decide (a = b)))) := by
  refine FnW.of_AW TryzT_ok 0 (fn := Tryz.f83) (by kernel_rfl) rfl (by kernel_rfl) rfl rfl rfl ?_
  refine AW_of h83 TryzT_ok (by kernel_rfl) ?_
  simp -dsimp
  refine ⟨fun h e => h (by rw [e]), fun hl => ?_⟩
  replace hl : a.length = b.length := by omega
  refine AWh_loop (fun i : Nat => i ≤ a.length ∧ ∀ j : Nat, j < i → nth a j = nth b j) (fun i => mkE [(0, .c (.im a.length (flat a))), (1, .c (.im b.length (flat b))), (5, .c (.int .i64 i))] []) (fun i => a.length - i) 0 (Wk_to [0, 1, 5] [] rfl rfl (by simp)) (by simp) ?_
  rintro i ⟨hi, hall⟩
  refine AW_of h83 TryzT_ok (by kernel_rfl) ?_
  rcases Nat.lt_or_ge i a.length with h1 | h1
  · have h2 : i < b.length := by omega
    simp -dsimp [h1, h2, ne_of_lt h1, ne_of_lt h2]
    first | refine ⟨by omega, by omega, ?_⟩ | skip
    refine ACallK_of (f182_ok _ _ (he _ (nth_mem h1))) ?_
    simp -dsimp
    refine ⟨fun h e => h (by rw [e]), fun h => ?_⟩
    refine Back_of (i + 1) [0, 1, 5] [] rfl rfl (by simp; rw [wrap64 (by omega) (by omega)]) ⟨by omega, fun j hj => ?_⟩ (by omega)
    by_cases e : j = i
    · subst e; exact h
    · exact hall j (by omega)
  · simp -dsimp [Nat.not_lt.2 h1]
    exact list_eq_of_nth hl (fun j hj => hall j (by omega))

@[simp] def h177 : Hts := {  }
theorem f177_ok (a : GCommit) (h : a.Ok) : FnR Tryz.prog 177 [.agg [.int .i64 a.id.rep, .int .i64 a.id.seq, .im a.ups.length (flat a.ups), .im a.state.know.length (flat a.state.know), .im a.state.tallies.length (flat a.state.tallies), .im a.state.lives.length (flat a.state.lives), .im a.state.cs.length (flat a.state.cs)]] (.agg [.int .i64 a.id.rep, .int .i64 a.id.seq, .ow 3 1 a.ups.length (flat a.ups), .ow 3 1 a.state.know.length (flat a.state.know), .ow 179 3 a.state.tallies.length (flat a.state.tallies), .ow 182 6 a.state.lives.length (flat a.state.lives), .ow 185 8 a.state.cs.length (flat a.state.cs)]) := by
  simp only [GCommit.Ok] at h
  obtain ⟨o0, o1⟩ := h
  refine FnW.of_AW TryzT_ok 0 (fn := Tryz.f177) (by kernel_rfl) rfl (by kernel_rfl) rfl rfl rfl ?_
  refine AW_of h177 TryzT_ok (by kernel_rfl) ?_
  simp -dsimp
  repeat' (first
    | (refine ACallK_of (f143_ok _) ?_; simp -dsimp)
    | (refine ACallK_of (f51_ok _ (by assumption)) ?_; simp -dsimp)
    | (refine ACallK_of (f12_ok _ (by assumption)) ?_; simp -dsimp)
    | refine And.intro ?_ ?_)

@[simp] def h79 : Hts := {  }
theorem f79_ok (a : List GCommit) (ha : a.length ≤ 1073741824) (he : ∀ x, x ∈ a → x.Ok) : FnR Tryz.prog 79 [.v (.im a.length (flat a))] (.v (.ow 129 7 a.length (flatO a))) := by
  refine FnW.of_AW TryzT_ok 0 (fn := Tryz.f79) (by kernel_rfl) rfl (by kernel_rfl) rfl rfl rfl ?_
  refine AW_of h79 TryzT_ok (by kernel_rfl) ?_
  simp -dsimp
  refine ⟨by simp [capMax]; omega, ?_⟩
  refine AWh_loop (fun i : Nat => i ≤ a.length) (fun i => mkE [(0, .c (.im a.length (flat a))), (3, .arr 448), (4, .c (.int .i64 i))] [(448, .arr 0 129 7 a.length (flatO (a.take i) ++ flat (List.replicate (a.length - i) (⟨⟨0, 0⟩, [], ⟨[], [], [], []⟩⟩ : GCommit))))]) (fun i => a.length - i) 0 (Wk_to [0, 3, 4] [(448, 448)] rfl rfl (by simp [commit_rep, flatO_nil])) (by simp) ?_
  rintro i hi
  refine AW_of h79 TryzT_ok (by kernel_rfl) ?_
  rcases Nat.lt_or_ge i a.length with h1 | h1
  · have hs : a.take (i + 1) = a.take i ++ [nth a i] := by rw [List.take_add_one, List.getElem?_eq_getElem h1, nth_eq h1]; rfl
    simp -dsimp [h1, ne_of_lt h1]
    first | refine ⟨by omega, ?_⟩ | skip
    refine ACallK_of (f177_ok _ (he _ (nth_mem h1))) ?_
    simp -dsimp [h1]
    first | refine ⟨by omega, ?_⟩ | skip
    refine Back_of (i + 1) [0, 3, 4] [(448, 448)] rfl rfl ?_ (by omega) (by omega)
    simp -dsimp
    rw [wrap64 (by omega) (by omega), hs]
  · simp -dsimp [Nat.not_lt.2 h1]
    have : i = a.length := by omega
    subst this
    simp

@[simp] def h170 : Hts := {  }
theorem f170_ok (a : GCommit) (l : Int) (hf : a.Fit) (h0 : 0 ≤ l) (h1 : l ≤ 1048576) : FnR Tryz.prog 170 [.agg [.int .i64 a.id.rep, .int .i64 a.id.seq, .im a.ups.length (flat a.ups), .im a.state.know.length (flat a.state.know), .im a.state.tallies.length (flat a.state.tallies), .im a.state.lives.length (flat a.state.lives), .im a.state.cs.length (flat a.state.cs)], .v (.int .i64 l)] (.v (.int .i64 (a.sz l))) := by
  simp only [GCommit.Fit] at hf
  obtain ⟨o0, o1⟩ := hf
  refine FnW.of_AW TryzT_ok 0 (fn := Tryz.f170) (by kernel_rfl) rfl (by kernel_rfl) rfl rfl rfl ?_
  refine AW_of h170 TryzT_ok (by kernel_rfl) ?_
  simp -dsimp
  refine ACallK_of (f43_ok _ _ (by assumption) (by assumption) (by omega)) ?_
  simp -dsimp
  have q0 := szLen_le a.ups _ h0
  refine ⟨fun n0 => ?_, fun p0 => ?_⟩
  · rw [GCommit.sz, szq_neg n0]
  refine ACallK_of (f9_ok _ _ (by assumption) (by assumption) (by omega)) ?_
  simp -dsimp
  have q1 := GState.sz_le a.state _ p0
  refine ⟨fun n1 => ?_, fun p1 => ?_⟩
  · rw [GCommit.sz, szq_go p0, szq_neg n1]
  rw [GCommit.sz, szq_go p0, szq_go p1]

@[simp] def h75 : Hts := {  }
theorem f75_ok (a : List GCommit) (l : Int) (ha : a.length ≤ 9223372036854775807) (hf : ∀ x, x ∈ a → x.Fit) (h0 : 0 ≤ l) (h1 : l ≤ 1048576) : FnR Tryz.prog 75 [.v (.im a.length (flat a)), .v (.int .i64 l)] (.v (.int .i64 (szS GCommit.sz a l))) := by
  refine FnW.of_AW TryzT_ok 0 (fn := Tryz.f75) (by kernel_rfl) rfl (by kernel_rfl) rfl rfl rfl ?_
  refine AW_of h75 TryzT_ok (by kernel_rfl) ?_
  simp -dsimp
  rw [wrap64 (x := l - ↑a.length) (by omega) (by omega)]
  refine ⟨fun h => ?_, fun h => ?_⟩
  · rw [szS, szq_neg h]
  rw [szS, szq_go h]
  refine AWh_loop (fun s : Nat × Int => s.1 ≤ a.length ∧ 0 ≤ s.2 ∧ s.2 ≤ 1048576 ∧ szGo GCommit.sz (a.drop s.1) s.2 = szGo GCommit.sz a (l - a.length)) (fun s => mkE [(0, .c (.im a.length (flat a))), (1, .c (.int .i64 s.2)), (5, .c (.int .i64 s.1))] []) (fun s => a.length - s.1) (0, l - a.length) (Wk_to [0, 1, 5] [] rfl rfl (by simp)) ⟨by simp, h, by simp; omega, by simp⟩ ?_
  rintro ⟨i, m⟩ ⟨hi, hm0, hm1, hinv⟩
  simp only at hi hm0 hm1 hinv
  refine AW_of h75 TryzT_ok (by kernel_rfl) ?_
  rcases Nat.lt_or_ge i a.length with h3 | h3
  · simp -dsimp [h3, ne_of_lt h3]
    first | refine ⟨by omega, ?_⟩ | skip
    refine ACallK_of (f170_ok _ _ (hf _ (nth_mem h3)) (by assumption) (by omega)) ?_
    simp -dsimp
    rw [szGo_drop h3] at hinv
    have hle := GCommit.sz_le (nth a i) m hm0
    refine ⟨fun hn => ?_, fun hp => ?_⟩
    · rw [← hinv, szq_neg hn]
    · rw [szq_go hp] at hinv
      refine Back_of (i + 1, GCommit.sz (nth a i) m) [0, 1, 5] [] rfl rfl (by simp; rw [wrap64 (by omega) (by omega)]) ⟨by simp; omega, hp, by simp; omega, hinv⟩ (by simp; omega)
  · have : i = a.length := by omega
    subst this
    simp -dsimp
    rw [← hinv, List.drop_of_length_le (Nat.le_refl _)]
    rfl

@[simp] def h24 : Hts := {  }
theorem f24_ok (a b : GGraph) (h : a.Ok) : FnR Tryz.prog 24 [.agg [.im a.commits.length (flat a.commits), .int .i64 a.head], .agg [.im b.commits.length (flat b.commits), .int .i64 b.head]] (.v (.bool (decide (a = b)))) := by
  simp only [GGraph.Ok] at h
  obtain ⟨o0, o1⟩ := h
  refine FnW.of_AW TryzT_ok 0 (fn := Tryz.f24) (by kernel_rfl) rfl (by kernel_rfl) rfl rfl rfl ?_
  refine AW_of h24 TryzT_ok (by kernel_rfl) ?_
  simp -dsimp
  repeat' (first
    | (refine ACallK_of (f83_ok _ _ (by assumption) (by assumption)) ?_; simp -dsimp)
    | refine And.intro ?_ ?_
    | intro _)
  all_goals first | assumption | (apply GGraph.ext <;> assumption) | (subst_vars; simp_all; done) | grind

@[simp] def h22 : Hts := {  }
theorem f22_ok (a : GGraph) (h : a.Ok) : FnR Tryz.prog 22 [.agg [.im a.commits.length (flat a.commits), .int .i64 a.head]] (.agg [.ow 129 7 a.commits.length (flatO a.commits), .int .i64 a.head]) := by
  simp only [GGraph.Ok] at h
  obtain ⟨o0, o1⟩ := h
  refine FnW.of_AW TryzT_ok 0 (fn := Tryz.f22) (by kernel_rfl) rfl (by kernel_rfl) rfl rfl rfl ?_
  refine AW_of h22 TryzT_ok (by kernel_rfl) ?_
  simp -dsimp
  repeat' (first
    | (refine ACallK_of (f79_ok _ (by assumption) (by assumption)) ?_; simp -dsimp)
    | refine And.intro ?_ ?_)

@[simp] def h20 : Hts := {  }
theorem f20_ok (a : GGraph) (l : Int) (hf : a.Fit) (h0 : 0 ≤ l) (h1 : l ≤ 1048576) : FnR Tryz.prog 20 [.agg [.im a.commits.length (flat a.commits), .int .i64 a.head], .v (.int .i64 l)] (.v (.int .i64 (a.sz l))) := by
  simp only [GGraph.Fit] at hf
  obtain ⟨o0, o1⟩ := hf
  refine FnW.of_AW TryzT_ok 0 (fn := Tryz.f20) (by kernel_rfl) rfl (by kernel_rfl) rfl rfl rfl ?_
  refine AW_of h20 TryzT_ok (by kernel_rfl) ?_
  simp -dsimp
  refine ACallK_of (f75_ok _ _ (by assumption) (by assumption) (by assumption) (by omega)) ?_
  simp -dsimp
  have q0 := szS_le GCommit.sz_le a.commits _ h0
  refine ⟨fun n0 => ?_, fun p0 => ?_⟩
  · rw [GGraph.sz, szq_neg n0]
  rw [GGraph.sz, szq_go p0]

@[simp] def h16 : Hts := {  }
theorem f16_ok (a b : GUnit) (h : a.Ok) : FnR Tryz.prog 16 [.agg [.bool a.batch, .int .i64 a.act.dot.rep, .int .i64 a.act.dot.seq, .int .i64 a.act.time, .im a.act.knew.length (flat a.act.knew), .int .i64 a.act.kind, .str a.act.obj, .str a.act.key, .int .i64 a.act.val, .int .i64 a.act.ref.rep, .int .i64 a.act.ref.seq, .im a.delta.base.length (flat a.delta.base), .im a.delta.know.length (flat a.delta.know), .im a.delta.tallies.length (flat a.delta.tallies), .im a.delta.lives.length (flat a.delta.lives), .im a.delta.dead.length (flat a.delta.dead), .im a.delta.cs.length (flat a.delta.cs)], .agg [.bool b.batch, .int .i64 b.act.dot.rep, .int .i64 b.act.dot.seq, .int .i64 b.act.time, .im b.act.knew.length (flat b.act.knew), .int .i64 b.act.kind, .str b.act.obj, .str b.act.key, .int .i64 b.act.val, .int .i64 b.act.ref.rep, .int .i64 b.act.ref.seq, .im b.delta.base.length (flat b.delta.base), .im b.delta.know.length (flat b.delta.know), .im b.delta.tallies.length (flat b.delta.tallies), .im b.delta.lives.length (flat b.delta.lives), .im b.delta.dead.length (flat b.delta.dead), .im b.delta.cs.length (flat b.delta.cs)]] (.v (.bool (decide (a = b)))) := by
  simp only [GUnit.Ok] at h
  obtain ⟨o0, o1⟩ := h
  refine FnW.of_AW TryzT_ok 0 (fn := Tryz.f16) (by kernel_rfl) rfl (by kernel_rfl) rfl rfl rfl ?_
  refine AW_of h16 TryzT_ok (by kernel_rfl) ?_
  simp -dsimp
  repeat' (first
    | (refine ACallK_of (f63_ok _ _ (by assumption)) ?_; simp -dsimp)
    | (refine ACallK_of (f64_ok _ _ (by assumption)) ?_; simp -dsimp)
    | refine And.intro ?_ ?_
    | intro _)
  all_goals first | assumption | (apply GUnit.ext <;> assumption) | (subst_vars; simp_all; done) | grind

@[simp] def h96 : Hts := { dr := fun id => if id = 6 then [{}, {}, {}, {}, {}, {}, {}, {}, { cr := true }, {}] else [] }
theorem f96_ok (a b : List GUnit) (ha : a.length ≤ 1073741824) (he : ∀ x, x ∈ a → x.Ok) : FnR Tryz.prog 96 [.v (.im a.length (flat a)), .v (.im b.length (flat b))] (.v (.bool (decide (a = b)))) := by
  refine FnW.of_AW TryzT_ok 0 (fn := Tryz.f96) (by kernel_rfl) rfl (by kernel_rfl) rfl rfl rfl ?_
  refine AW_of h96 TryzT_ok (by kernel_rfl) ?_
  simp -dsimp
  refine ⟨fun h e => h (by rw [e]), fun hl => ?_⟩
  replace hl : a.length = b.length := by omega
  refine AWh_loop (fun i : Nat => i ≤ a.length ∧ ∀ j : Nat, j < i → nth a j = nth b j) (fun i => mkE [(0, .c (.im a.length (flat a))), (1, .c (.im b.length (flat b))), (5, .c (.int .i64 i))] []) (fun i => a.length - i) 0 (Wk_to [0, 1, 5] [] rfl rfl (by simp)) (by simp) ?_
  rintro i ⟨hi, hall⟩
  refine AW_of h96 TryzT_ok (by kernel_rfl) ?_
  rcases Nat.lt_or_ge i a.length with h1 | h1
  · have h2 : i < b.length := by omega
    simp -dsimp [h1, h2, ne_of_lt h1, ne_of_lt h2]
    first | refine ⟨by omega, by omega, ?_⟩ | skip
    refine ACallK_of (f16_ok _ _ (he _ (nth_mem h1))) ?_
    simp -dsimp
    refine ⟨fun h e => h (by rw [e]), fun h => ?_⟩
    refine Back_of (i + 1) [0, 1, 5] [] rfl rfl (by simp; rw [wrap64 (by omega) (by omega)]) ⟨by omega, fun j hj => ?_⟩ (by omega)
    by_cases e : j = i
    · subst e; exact h
    · exact hall j (by omega)
  · simp -dsimp [Nat.not_lt.2 h1]
    exact list_eq_of_nth hl (fun j hj => hall j (by omega))

@[simp] def h13 : Hts := {  }
theorem f13_ok (a : GUnit) (h : a.Ok) : FnR Tryz.prog 13 [.agg [.bool a.batch, .int .i64 a.act.dot.rep, .int .i64 a.act.dot.seq, .int .i64 a.act.time, .im a.act.knew.length (flat a.act.knew), .int .i64 a.act.kind, .str a.act.obj, .str a.act.key, .int .i64 a.act.val, .int .i64 a.act.ref.rep, .int .i64 a.act.ref.seq, .im a.delta.base.length (flat a.delta.base), .im a.delta.know.length (flat a.delta.know), .im a.delta.tallies.length (flat a.delta.tallies), .im a.delta.lives.length (flat a.delta.lives), .im a.delta.dead.length (flat a.delta.dead), .im a.delta.cs.length (flat a.delta.cs)]] (.agg [.bool a.batch, .int .i64 a.act.dot.rep, .int .i64 a.act.dot.seq, .int .i64 a.act.time, .ow 3 1 a.act.knew.length (flat a.act.knew), .int .i64 a.act.kind, .str a.act.obj, .str a.act.key, .int .i64 a.act.val, .int .i64 a.act.ref.rep, .int .i64 a.act.ref.seq, .ow 3 1 a.delta.base.length (flat a.delta.base), .ow 3 1 a.delta.know.length (flat a.delta.know), .ow 179 3 a.delta.tallies.length (flat a.delta.tallies), .ow 182 6 a.delta.lives.length (flat a.delta.lives), .ow 47 2 a.delta.dead.length (flat a.delta.dead), .ow 185 8 a.delta.cs.length (flat a.delta.cs)]) := by
  simp only [GUnit.Ok] at h
  obtain ⟨o0, o1⟩ := h
  refine FnW.of_AW TryzT_ok 0 (fn := Tryz.f13) (by kernel_rfl) rfl (by kernel_rfl) rfl rfl rfl ?_
  refine AW_of h13 TryzT_ok (by kernel_rfl) ?_
  simp -dsimp
  repeat' (first
    | (refine ACallK_of (f55_ok _ (by assumption)) ?_; simp -dsimp)
    | (refine ACallK_of (f56_ok _ (by assumption)) ?_; simp -dsimp)
    | refine And.intro ?_ ?_)

@[simp] def h91 : Hts := {  }
theorem f91_ok (a : List GUnit) (ha : a.length ≤ 1073741824) (he : ∀ x, x ∈ a → x.Ok) : FnR Tryz.prog 91 [.v (.im a.length (flat a))] (.v (.ow 54 17 a.length (flatO a))) := by
  refine FnW.of_AW TryzT_ok 0 (fn := Tryz.f91) (by kernel_rfl) rfl (by kernel_rfl) rfl rfl rfl ?_
  refine AW_of h91 TryzT_ok (by kernel_rfl) ?_
  simp -dsimp
  refine ⟨by simp [capMax]; omega, ?_⟩
  refine AWh_loop (fun i : Nat => i ≤ a.length) (fun i => mkE [(0, .c (.im a.length (flat a))), (3, .arr 448), (4, .c (.int .i64 i))] [(448, .arr 0 54 17 a.length (flatO (a.take i) ++ flat (List.replicate (a.length - i) (⟨false, ⟨⟨0, 0⟩, 0, [], 0, ⟨#[]⟩, ⟨#[]⟩, 0, ⟨0, 0⟩⟩, ⟨[], [], [], [], [], []⟩⟩ : GUnit))))]) (fun i => a.length - i) 0 (Wk_to [0, 3, 4] [(448, 448)] rfl rfl (by simp [unit_rep, flatO_nil])) (by simp) ?_
  rintro i hi
  refine AW_of h91 TryzT_ok (by kernel_rfl) ?_
  rcases Nat.lt_or_ge i a.length with h1 | h1
  · have hs : a.take (i + 1) = a.take i ++ [nth a i] := by rw [List.take_add_one, List.getElem?_eq_getElem h1, nth_eq h1]; rfl
    simp -dsimp [h1, ne_of_lt h1]
    first | refine ⟨by omega, ?_⟩ | skip
    refine ACallK_of (f13_ok _ (he _ (nth_mem h1))) ?_
    simp -dsimp [h1]
    first | refine ⟨by omega, ?_⟩ | skip
    refine Back_of (i + 1) [0, 3, 4] [(448, 448)] rfl rfl ?_ (by omega) (by omega)
    simp -dsimp
    rw [wrap64 (by omega) (by omega), hs]
  · simp -dsimp [Nat.not_lt.2 h1]
    have : i = a.length := by omega
    subst this
    simp

@[simp] def h10 : Hts := {  }
theorem f10_ok (a : GUnit) (l : Int) (hf : a.Fit) (h0 : 0 ≤ l) (h1 : l ≤ 1048576) : FnR Tryz.prog 10 [.agg [.bool a.batch, .int .i64 a.act.dot.rep, .int .i64 a.act.dot.seq, .int .i64 a.act.time, .im a.act.knew.length (flat a.act.knew), .int .i64 a.act.kind, .str a.act.obj, .str a.act.key, .int .i64 a.act.val, .int .i64 a.act.ref.rep, .int .i64 a.act.ref.seq, .im a.delta.base.length (flat a.delta.base), .im a.delta.know.length (flat a.delta.know), .im a.delta.tallies.length (flat a.delta.tallies), .im a.delta.lives.length (flat a.delta.lives), .im a.delta.dead.length (flat a.delta.dead), .im a.delta.cs.length (flat a.delta.cs)], .v (.int .i64 l)] (.v (.int .i64 (a.sz l))) := by
  simp only [GUnit.Fit] at hf
  obtain ⟨o0, o1⟩ := hf
  refine FnW.of_AW TryzT_ok 0 (fn := Tryz.f10) (by kernel_rfl) rfl (by kernel_rfl) rfl rfl rfl ?_
  refine AW_of h10 TryzT_ok (by kernel_rfl) ?_
  simp -dsimp
  refine ACallK_of (f47_ok _ _ (by assumption) (by assumption) (by omega)) ?_
  simp -dsimp
  have q0 := GAct.sz_le a.act _ h0
  refine ⟨fun n0 => ?_, fun p0 => ?_⟩
  · rw [GUnit.sz, szq_neg n0]
  refine ACallK_of (f48_ok _ _ (by assumption) (by assumption) (by omega)) ?_
  simp -dsimp
  have q1 := GDelta.sz_le a.delta _ p0
  refine ⟨fun n1 => ?_, fun p1 => ?_⟩
  · rw [GUnit.sz, szq_go p0, szq_neg n1]
  rw [GUnit.sz, szq_go p0, szq_go p1]

@[simp] def h85 : Hts := {  }
theorem f85_ok (a : List GUnit) (l : Int) (ha : a.length ≤ 9223372036854775807) (hf : ∀ x, x ∈ a → x.Fit) (h0 : 0 ≤ l) (h1 : l ≤ 1048576) : FnR Tryz.prog 85 [.v (.im a.length (flat a)), .v (.int .i64 l)] (.v (.int .i64 (szS GUnit.sz a l))) := by
  refine FnW.of_AW TryzT_ok 0 (fn := Tryz.f85) (by kernel_rfl) rfl (by kernel_rfl) rfl rfl rfl ?_
  refine AW_of h85 TryzT_ok (by kernel_rfl) ?_
  simp -dsimp
  rw [wrap64 (x := l - ↑a.length) (by omega) (by omega)]
  refine ⟨fun h => ?_, fun h => ?_⟩
  · rw [szS, szq_neg h]
  rw [szS, szq_go h]
  refine AWh_loop (fun s : Nat × Int => s.1 ≤ a.length ∧ 0 ≤ s.2 ∧ s.2 ≤ 1048576 ∧ szGo GUnit.sz (a.drop s.1) s.2 = szGo GUnit.sz a (l - a.length)) (fun s => mkE [(0, .c (.im a.length (flat a))), (1, .c (.int .i64 s.2)), (5, .c (.int .i64 s.1))] []) (fun s => a.length - s.1) (0, l - a.length) (Wk_to [0, 1, 5] [] rfl rfl (by simp)) ⟨by simp, h, by simp; omega, by simp⟩ ?_
  rintro ⟨i, m⟩ ⟨hi, hm0, hm1, hinv⟩
  simp only at hi hm0 hm1 hinv
  refine AW_of h85 TryzT_ok (by kernel_rfl) ?_
  rcases Nat.lt_or_ge i a.length with h3 | h3
  · simp -dsimp [h3, ne_of_lt h3]
    first | refine ⟨by omega, ?_⟩ | skip
    refine ACallK_of (f10_ok _ _ (hf _ (nth_mem h3)) (by assumption) (by omega)) ?_
    simp -dsimp
    rw [szGo_drop h3] at hinv
    have hle := GUnit.sz_le (nth a i) m hm0
    refine ⟨fun hn => ?_, fun hp => ?_⟩
    · rw [← hinv, szq_neg hn]
    · rw [szq_go hp] at hinv
      refine Back_of (i + 1, GUnit.sz (nth a i) m) [0, 1, 5] [] rfl rfl (by simp; rw [wrap64 (by omega) (by omega)]) ⟨by simp; omega, hp, by simp; omega, hinv⟩ (by simp; omega)
  · have : i = a.length := by omega
    subst this
    simp -dsimp
    rw [← hinv, List.drop_of_length_le (Nat.le_refl _)]
    rfl

@[simp] def h30 : Hts := {  }
theorem f30_ok (a b : GLog) (h : a.Ok) : FnR Tryz.prog 30 [.agg [.int .i64 a.rep, .int .i64 a.time, .im a.state.know.length (flat a.state.know), .im a.state.tallies.length (flat a.state.tallies), .im a.state.lives.length (flat a.state.lives), .im a.state.cs.length (flat a.state.cs), .im a.units.length (flat a.units), .im a.waits.length (flat a.waits)], .agg [.int .i64 b.rep, .int .i64 b.time, .im b.state.know.length (flat b.state.know), .im b.state.tallies.length (flat b.state.tallies), .im b.state.lives.length (flat b.state.lives), .im b.state.cs.length (flat b.state.cs), .im b.units.length (flat b.units), .im b.waits.length (flat b.waits)]] (.v (.bool (decide (a = b)))) := by
  simp only [GLog.Ok] at h
  obtain ⟨o0, o1, o2, o3, o4⟩ := h
  refine FnW.of_AW TryzT_ok 0 (fn := Tryz.f30) (by kernel_rfl) rfl (by kernel_rfl) rfl rfl rfl ?_
  refine AW_of h30 TryzT_ok (by kernel_rfl) ?_
  simp -dsimp
  repeat' (first
    | (refine ACallK_of (f15_ok _ _ (by assumption)) ?_; simp -dsimp)
    | (refine ACallK_of (f96_ok _ _ (by assumption) (by assumption)) ?_; simp -dsimp)
    | refine And.intro ?_ ?_
    | intro _)
  all_goals first | assumption | (apply GLog.ext <;> assumption) | (subst_vars; simp_all; done) | grind

@[simp] def h28 : Hts := {  }
theorem f28_ok (a : GLog) (h : a.Ok) : FnR Tryz.prog 28 [.agg [.int .i64 a.rep, .int .i64 a.time, .im a.state.know.length (flat a.state.know), .im a.state.tallies.length (flat a.state.tallies), .im a.state.lives.length (flat a.state.lives), .im a.state.cs.length (flat a.state.cs), .im a.units.length (flat a.units), .im a.waits.length (flat a.waits)]] (.agg [.int .i64 a.rep, .int .i64 a.time, .ow 3 1 a.state.know.length (flat a.state.know), .ow 179 3 a.state.tallies.length (flat a.state.tallies), .ow 182 6 a.state.lives.length (flat a.state.lives), .ow 185 8 a.state.cs.length (flat a.state.cs), .ow 54 17 a.units.length (flatO a.units), .ow 54 17 a.waits.length (flatO a.waits)]) := by
  simp only [GLog.Ok] at h
  obtain ⟨o0, o1, o2, o3, o4⟩ := h
  refine FnW.of_AW TryzT_ok 0 (fn := Tryz.f28) (by kernel_rfl) rfl (by kernel_rfl) rfl rfl rfl ?_
  refine AW_of h28 TryzT_ok (by kernel_rfl) ?_
  simp -dsimp
  repeat' (first
    | (refine ACallK_of (f12_ok _ (by assumption)) ?_; simp -dsimp)
    | (refine ACallK_of (f91_ok _ (by assumption) (by assumption)) ?_; simp -dsimp)
    | refine And.intro ?_ ?_)

@[simp] def h26 : Hts := {  }
theorem f26_ok (a : GLog) (l : Int) (hf : a.Fit) (h0 : 0 ≤ l) (h1 : l ≤ 1048576) : FnR Tryz.prog 26 [.agg [.int .i64 a.rep, .int .i64 a.time, .im a.state.know.length (flat a.state.know), .im a.state.tallies.length (flat a.state.tallies), .im a.state.lives.length (flat a.state.lives), .im a.state.cs.length (flat a.state.cs), .im a.units.length (flat a.units), .im a.waits.length (flat a.waits)], .v (.int .i64 l)] (.v (.int .i64 (a.sz l))) := by
  simp only [GLog.Fit] at hf
  obtain ⟨o0, o1, o2, o3, o4⟩ := hf
  refine FnW.of_AW TryzT_ok 0 (fn := Tryz.f26) (by kernel_rfl) rfl (by kernel_rfl) rfl rfl rfl ?_
  refine AW_of h26 TryzT_ok (by kernel_rfl) ?_
  simp -dsimp
  refine ACallK_of (f9_ok _ _ (by assumption) (by assumption) (by omega)) ?_
  simp -dsimp
  have q0 := GState.sz_le a.state _ h0
  refine ⟨fun n0 => ?_, fun p0 => ?_⟩
  · rw [GLog.sz, szq_neg n0]
  refine ACallK_of (f85_ok _ _ (by assumption) (by assumption) (by assumption) (by omega)) ?_
  simp -dsimp
  have q1 := szS_le GUnit.sz_le a.units _ p0
  refine ⟨fun n1 => ?_, fun p1 => ?_⟩
  · rw [GLog.sz, szq_go p0, szq_neg n1]
  refine ACallK_of (f85_ok _ _ (by assumption) (by assumption) (by assumption) (by omega)) ?_
  simp -dsimp
  have q2 := szS_le GUnit.sz_le a.waits _ p1
  refine ⟨fun n2 => ?_, fun p2 => ?_⟩
  · rw [GLog.sz, szq_go p0, szq_go p1, szq_neg n2]
  rw [GLog.sz, szq_go p0, szq_go p1, szq_go p2]
end Am
