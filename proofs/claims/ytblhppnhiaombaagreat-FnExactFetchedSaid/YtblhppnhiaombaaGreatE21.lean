/- What is the same; acts that are right. No condition. -/
import Derived.Test.YtblhppnhiaombaaGreatT
import Derived.Test.YtblhppnhiaombaaGreatD
import Derived.Test.YtblhppnhiaombaaGreatE2
import Derived.Test.YtblhppnhiaombaaGreatE3
import Derived.Test.YtblhppnhiaombaaGreatAm31
namespace Am
open Go Go.Proofs
open Cel (cells)
set_option maxRecDepth 100000
set_option linter.unusedSimpArgs false
set_option linter.unusedVariables false

@[simp] def h188 : Hts := { dr := fun id => if id = 6 then [{}, {}, {}, {}, {}, {}, {}, {}, {}] else [] }
theorem f188_ok (a b : List Int) (ha : a.length ≤ 1073741824) : FnR Tryz.prog 188 [.v (.im a.length (flat a)), .v (.im b.length (flat b))] (.v (.bool (decide (a = b)))) := by
  refine FnW.of_AW TryzT_ok 0 (fn := Tryz.f188) (by kernel_rfl) rfl (by kernel_rfl) rfl rfl rfl ?_
  refine AW_of h188 TryzT_ok (by kernel_rfl) ?_
  simp -dsimp
  refine ⟨fun h e => h (by rw [e]), fun hl => ?_⟩
  replace hl : a.length = b.length := by omega
  refine AWh_loop (fun i : Nat => i ≤ a.length ∧ ∀ j : Nat, j < i → nth a j = nth b j) (fun i => mkE [(0, .c (.im a.length (flat a))), (1, .c (.im b.length (flat b))), (12, .c (.int .i64 a.length)), (13, .c (.int .i64 i))] []) (fun i => a.length - i) 0 (Wk_to [0, 1, 12, 13] [] rfl rfl (by simp)) (by simp) ?_
  rintro i ⟨hi, hall⟩
  refine AW_of h188 TryzT_ok (by kernel_rfl) ?_
  rcases Nat.lt_or_ge i a.length with h1 | h1
  · have h2 : i < b.length := by omega
    simp -dsimp [h1, h2, ne_of_lt h1, ne_of_lt h2]
    refine ⟨fun h => ?_, ?_⟩
    · rintro rfl
      simp at h
    intros
    refine Back_of (i + 1) [0, 1, 12, 13] [] rfl rfl (by simp; rw [wrap64 (by omega) (by omega)]) ⟨by omega, fun j hj => ?_⟩ (by omega)
    by_cases e : j = i
    · subst e
      first | assumption | (apply Int.ext <;> first | assumption | (apply GDot.ext <;> assumption))
    · exact hall j (by omega)
  · simp -dsimp [Nat.not_lt.2 h1]
    exact list_eq_of_nth hl (fun j hj => hall j (by omega))

@[simp] def h189 : Hts := { dr := fun id => if id = 6 then [{}, {}, {}, {}, {}, {}, {}, {}, {}] else [] }
theorem f189_ok (a b : List GTally) (ha : a.length ≤ 1073741824) : FnR Tryz.prog 189 [.v (.im a.length (flat a)), .v (.im b.length (flat b))] (.v (.bool (decide (a = b)))) := by
  refine FnW.of_AW TryzT_ok 0 (fn := Tryz.f189) (by kernel_rfl) rfl (by kernel_rfl) rfl rfl rfl ?_
  refine AW_of h189 TryzT_ok (by kernel_rfl) ?_
  simp -dsimp
  refine ⟨fun h e => h (by rw [e]), fun hl => ?_⟩
  replace hl : a.length = b.length := by omega
  refine AWh_loop (fun i : Nat => i ≤ a.length ∧ ∀ j : Nat, j < i → nth a j = nth b j) (fun i => mkE [(0, .c (.im a.length (flat a))), (1, .c (.im b.length (flat b))), (12, .c (.int .i64 a.length)), (13, .c (.int .i64 i))] []) (fun i => a.length - i) 0 (Wk_to [0, 1, 12, 13] [] rfl rfl (by simp)) (by simp) ?_
  rintro i ⟨hi, hall⟩
  refine AW_of h189 TryzT_ok (by kernel_rfl) ?_
  rcases Nat.lt_or_ge i a.length with h1 | h1
  · have h2 : i < b.length := by omega
    simp -dsimp [h1, h2, ne_of_lt h1, ne_of_lt h2]
    refine ⟨by omega, by omega, ?_⟩
    refine ⟨fun h => ?_, ?_⟩
    · rintro rfl
      simp at h
    intros
    refine Back_of (i + 1) [0, 1, 12, 13] [] rfl rfl (by simp; rw [wrap64 (by omega) (by omega)]) ⟨by omega, fun j hj => ?_⟩ (by omega)
    by_cases e : j = i
    · subst e
      first | assumption | (apply GTally.ext <;> first | assumption | (apply GDot.ext <;> assumption))
    · exact hall j (by omega)
  · simp -dsimp [Nat.not_lt.2 h1]
    exact list_eq_of_nth hl (fun j hj => hall j (by omega))

@[simp] def h190 : Hts := { dr := fun id => if id = 6 then [{}, {}, {}, {}, {}, {}, {}, {}, {}] else [] }
theorem f190_ok (a b : List GLive) (ha : a.length ≤ 1073741824) : FnR Tryz.prog 190 [.v (.im a.length (flat a)), .v (.im b.length (flat b))] (.v (.bool (decide (a = b)))) := by
  refine FnW.of_AW TryzT_ok 0 (fn := Tryz.f190) (by kernel_rfl) rfl (by kernel_rfl) rfl rfl rfl ?_
  refine AW_of h190 TryzT_ok (by kernel_rfl) ?_
  simp -dsimp
  refine ⟨fun h e => h (by rw [e]), fun hl => ?_⟩
  replace hl : a.length = b.length := by omega
  refine AWh_loop (fun i : Nat => i ≤ a.length ∧ ∀ j : Nat, j < i → nth a j = nth b j) (fun i => mkE [(0, .c (.im a.length (flat a))), (1, .c (.im b.length (flat b))), (12, .c (.int .i64 a.length)), (13, .c (.int .i64 i))] []) (fun i => a.length - i) 0 (Wk_to [0, 1, 12, 13] [] rfl rfl (by simp)) (by simp) ?_
  rintro i ⟨hi, hall⟩
  refine AW_of h190 TryzT_ok (by kernel_rfl) ?_
  rcases Nat.lt_or_ge i a.length with h1 | h1
  · have h2 : i < b.length := by omega
    simp -dsimp [h1, h2, ne_of_lt h1, ne_of_lt h2]
    refine ⟨by omega, by omega, ?_⟩
    refine ⟨fun h => ?_, ?_⟩
    · rintro rfl
      simp at h
    intros
    refine Back_of (i + 1) [0, 1, 12, 13] [] rfl rfl (by simp; rw [wrap64 (by omega) (by omega)]) ⟨by omega, fun j hj => ?_⟩ (by omega)
    by_cases e : j = i
    · subst e
      first | assumption | (apply GLive.ext <;> first | assumption | (apply GDot.ext <;> assumption))
    · exact hall j (by omega)
  · simp -dsimp [Nat.not_lt.2 h1]
    exact list_eq_of_nth hl (fun j hj => hall j (by omega))

@[simp] def h247 : Hts := { dr := fun id => if id = 6 then [{}, {}, {}, {}, {}, {}, {}, {}, {}] else [] }
theorem f247_ok (a b : List GDot) (ha : a.length ≤ 1073741824) : FnR Tryz.prog 247 [.v (.im a.length (flat a)), .v (.im b.length (flat b))] (.v (.bool (decide (a = b)))) := by
  refine FnW.of_AW TryzT_ok 0 (fn := Tryz.f247) (by kernel_rfl) rfl (by kernel_rfl) rfl rfl rfl ?_
  refine AW_of h247 TryzT_ok (by kernel_rfl) ?_
  simp -dsimp
  refine ⟨fun h e => h (by rw [e]), fun hl => ?_⟩
  replace hl : a.length = b.length := by omega
  refine AWh_loop (fun i : Nat => i ≤ a.length ∧ ∀ j : Nat, j < i → nth a j = nth b j) (fun i => mkE [(0, .c (.im a.length (flat a))), (1, .c (.im b.length (flat b))), (12, .c (.int .i64 a.length)), (13, .c (.int .i64 i))] []) (fun i => a.length - i) 0 (Wk_to [0, 1, 12, 13] [] rfl rfl (by simp)) (by simp) ?_
  rintro i ⟨hi, hall⟩
  refine AW_of h247 TryzT_ok (by kernel_rfl) ?_
  rcases Nat.lt_or_ge i a.length with h1 | h1
  · have h2 : i < b.length := by omega
    simp -dsimp [h1, h2, ne_of_lt h1, ne_of_lt h2]
    refine ⟨by omega, by omega, ?_⟩
    refine ⟨fun h => ?_, ?_⟩
    · rintro rfl
      simp at h
    intros
    refine Back_of (i + 1) [0, 1, 12, 13] [] rfl rfl (by simp; rw [wrap64 (by omega) (by omega)]) ⟨by omega, fun j hj => ?_⟩ (by omega)
    by_cases e : j = i
    · subst e
      first | assumption | (apply GDot.ext <;> first | assumption | (apply GDot.ext <;> assumption))
    · exact hall j (by omega)
  · simp -dsimp [Nat.not_lt.2 h1]
    exact list_eq_of_nth hl (fun j hj => hall j (by omega))

@[simp] def h191 : Hts := { dr := fun id => if id = 6 then [{}, {}, {}, {}, {}, {}, {}, {}, {}] else [] }
theorem f191_ok (a b : List GCell) (ha : a.length ≤ 1073741824) : FnR Tryz.prog 191 [.v (.im a.length (flat a)), .v (.im b.length (flat b))] (.v (.bool (decide (a = b)))) := by
  refine FnW.of_AW TryzT_ok 0 (fn := Tryz.f191) (by kernel_rfl) rfl (by kernel_rfl) rfl rfl rfl ?_
  refine AW_of h191 TryzT_ok (by kernel_rfl) ?_
  simp -dsimp
  refine ⟨fun h e => h (by rw [e]), fun hl => ?_⟩
  replace hl : a.length = b.length := by omega
  refine AWh_loop (fun i : Nat => i ≤ a.length ∧ ∀ j : Nat, j < i → nth a j = nth b j) (fun i => mkE [(0, .c (.im a.length (flat a))), (1, .c (.im b.length (flat b))), (12, .c (.int .i64 a.length)), (13, .c (.int .i64 i))] []) (fun i => a.length - i) 0 (Wk_to [0, 1, 12, 13] [] rfl rfl (by simp)) (by simp) ?_
  rintro i ⟨hi, hall⟩
  refine AW_of h191 TryzT_ok (by kernel_rfl) ?_
  rcases Nat.lt_or_ge i a.length with h1 | h1
  · have h2 : i < b.length := by omega
    simp -dsimp [h1, h2, ne_of_lt h1, ne_of_lt h2]
    refine ⟨by omega, by omega, ?_⟩
    refine ⟨fun h => ?_, ?_⟩
    · rintro rfl
      simp at h
    intros
    refine Back_of (i + 1) [0, 1, 12, 13] [] rfl rfl (by simp; rw [wrap64 (by omega) (by omega)]) ⟨by omega, fun j hj => ?_⟩ (by omega)
    by_cases e : j = i
    · subst e
      first | assumption | (apply GCell.ext <;> first | assumption | (apply GDot.ext <;> assumption))
    · exact hall j (by omega)
  · simp -dsimp [Nat.not_lt.2 h1]
    exact list_eq_of_nth hl (fun j hj => hall j (by omega))

@[simp] def h185 : Hts := { dr := fun id => if id = 6 then [{}, {}, {}, {}, {}, {}, {}, {}, {}] else [] }
theorem f185_ok (a b : List Int) (ha : a.length ≤ 1073741824) : FnR Tryz.prog 185 [.v (.im a.length (flat a)), .v (.im b.length (flat b))] (.v (.bool (decide (a = b)))) := by
  refine FnW.of_AW TryzT_ok 0 (fn := Tryz.f185) (by kernel_rfl) rfl (by kernel_rfl) rfl rfl rfl ?_
  refine AW_of h185 TryzT_ok (by kernel_rfl) ?_
  simp -dsimp
  refine ⟨fun h e => h (by rw [e]), fun hl => ?_⟩
  replace hl : a.length = b.length := by omega
  refine AWh_loop (fun i : Nat => i ≤ a.length ∧ ∀ j : Nat, j < i → nth a j = nth b j) (fun i => mkE [(0, .c (.im a.length (flat a))), (1, .c (.im b.length (flat b))), (5, .c (.int .i64 i))] []) (fun i => a.length - i) 0 (Wk_to [0, 1, 5] [] rfl rfl (by simp)) (by simp) ?_
  rintro i ⟨hi, hall⟩
  refine AW_of h185 TryzT_ok (by kernel_rfl) ?_
  rcases Nat.lt_or_ge i a.length with h1 | h1
  · have h2 : i < b.length := by omega
    simp -dsimp [h1, h2, ne_of_lt h1, ne_of_lt h2]
    refine ⟨fun h => ?_, ?_⟩
    · rintro rfl
      simp at h
    intros
    refine Back_of (i + 1) [0, 1, 5] [] rfl rfl (by simp; rw [wrap64 (by omega) (by omega)]) ⟨by omega, fun j hj => ?_⟩ (by omega)
    by_cases e : j = i
    · subst e
      first | assumption | (apply Int.ext <;> first | assumption | (apply GDot.ext <;> assumption))
    · exact hall j (by omega)
  · simp -dsimp [Nat.not_lt.2 h1]
    exact list_eq_of_nth hl (fun j hj => hall j (by omega))
@[simp] def h203 : Hts := { mergeF := fun _ => true }
set_option maxHeartbeats 1000000 in
theorem f203_ok (a b : GAct) (h : a.Ok) : FnR Tryz.prog 203 [.agg [.int .i64 a.dot.rep, .int .i64 a.dot.seq, .int .i64 a.time, .im a.knew.length (flat a.knew), .int .i64 a.kind, .str a.obj, .str a.key, .int .i64 a.val, .int .i64 a.ref.rep, .int .i64 a.ref.seq], .agg [.int .i64 b.dot.rep, .int .i64 b.dot.seq, .int .i64 b.time, .im b.knew.length (flat b.knew), .int .i64 b.kind, .str b.obj, .str b.key, .int .i64 b.val, .int .i64 b.ref.rep, .int .i64 b.ref.seq]] (.v (.bool (decide (a = b)))) := by
  simp only [GAct.Ok] at h
  obtain ⟨o0, o1, o2⟩ := h
  refine FnW.of_AW TryzT_ok 0 (fn := Tryz.f203) (by kernel_rfl) rfl (by kernel_rfl) rfl rfl rfl ?_
  refine AW_of h203 TryzT_ok (by kernel_rfl) ?_
  simp -dsimp
  refine ACallK_of (f185_ok _ _ o0) ?_
  simp -dsimp
  rw [Bool.eq_iff_iff]
  simp [GAct.ext_iff, GDot.ext_iff]
  grind

@[simp] def h186 : Hts := { mergeF := fun _ => true }
set_option maxHeartbeats 1000000 in
theorem f186_ok (a b : GAct) (h : a.Ok) : FnR Tryz.prog 186 [.agg [.int .i64 a.dot.rep, .int .i64 a.dot.seq, .int .i64 a.time, .im a.knew.length (flat a.knew), .int .i64 a.kind, .str a.obj, .str a.key, .int .i64 a.val, .int .i64 a.ref.rep, .int .i64 a.ref.seq], .agg [.int .i64 b.dot.rep, .int .i64 b.dot.seq, .int .i64 b.time, .im b.knew.length (flat b.knew), .int .i64 b.kind, .str b.obj, .str b.key, .int .i64 b.val, .int .i64 b.ref.rep, .int .i64 b.ref.seq]] (.v (.bool (decide (a = b)))) := by
  simp only [GAct.Ok] at h
  obtain ⟨o0, o1, o2⟩ := h
  refine FnW.of_AW TryzT_ok 0 (fn := Tryz.f186) (by kernel_rfl) rfl (by kernel_rfl) rfl rfl rfl ?_
  refine AW_of h186 TryzT_ok (by kernel_rfl) ?_
  simp -dsimp
  refine ACallK_of (f188_ok _ _ o0) ?_
  simp -dsimp
  rw [Bool.eq_iff_iff]
  simp [GAct.ext_iff, GDot.ext_iff]
  grind

@[simp] def h187 : Hts := { mergeF := fun _ => true }
set_option maxHeartbeats 1000000 in
theorem f187_ok (a b : GDelta) (h : a.Ok) : FnR Tryz.prog 187 [.agg [.im a.base.length (flat a.base), .im a.know.length (flat a.know), .im a.tallies.length (flat a.tallies), .im a.lives.length (flat a.lives), .im a.dead.length (flat a.dead), .im a.cs.length (flat a.cs)], .agg [.im b.base.length (flat b.base), .im b.know.length (flat b.know), .im b.tallies.length (flat b.tallies), .im b.lives.length (flat b.lives), .im b.dead.length (flat b.dead), .im b.cs.length (flat b.cs)]] (.v (.bool (decide (a = b)))) := by
  simp only [GDelta.Ok] at h
  obtain ⟨o0, o1, o2, o3, o4, o5, o6, o7, o8⟩ := h
  refine FnW.of_AW TryzT_ok 0 (fn := Tryz.f187) (by kernel_rfl) rfl (by kernel_rfl) rfl rfl rfl ?_
  refine AW_of h187 TryzT_ok (by kernel_rfl) ?_
  simp -dsimp
  refine ACallK_of (f188_ok _ _ o0) ?_
  simp -dsimp
  refine ACallK_of (f188_ok _ _ o1) ?_
  simp -dsimp
  refine ACallK_of (f189_ok _ _ o2) ?_
  simp -dsimp
  refine ACallK_of (f190_ok _ _ o4) ?_
  simp -dsimp
  refine ACallK_of (f247_ok _ _ o6) ?_
  simp -dsimp
  refine ACallK_of (f191_ok _ _ o7) ?_
  simp -dsimp
  rw [Bool.eq_iff_iff]
  simp [GDelta.ext_iff]
  try grind
end Am
