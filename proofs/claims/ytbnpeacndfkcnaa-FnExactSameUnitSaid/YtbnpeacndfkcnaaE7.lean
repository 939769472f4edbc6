/- States, changes and units held against each other. No condition. -/
import Derived.Test.YtbnpeacndfkcnaaE6
namespace Am
open Go Go.Proofs
open Cel (cells)
set_option maxRecDepth 100000

@[simp] def h96 : Hts := { merge := fun _ => true, dr := fun id => if id = 6 then [{}, {}, {}, {}, {}, {}, {}, {}, {}, {}, {}] else if id = 11 then [{}, {}, {}, {}, {}, {}, {}, {}, {}, {}, {}] else if id = 16 then [{}, {}, {}, {}, {}, {}, {}, {}, {}, {}, {}] else [] }
@[simp] def h43 : Hts := { merge := fun _ => true, dr := fun id => if id = 6 then [{}, {}, {}, {}, {}, {}, {}, {}, {}, {}, {}] else [] }
theorem f96_ok (a b : GState) (h : a.Ok) : FnR Try.prog 96 [.agg [.im a.know.length (flat a.know), .im a.tallies.length (flat a.tallies), .im a.lives.length (flat a.lives), .im a.cs.length (flat a.cs)], .agg [.im b.know.length (flat b.know), .im b.tallies.length (flat b.tallies), .im b.lives.length (flat b.lives), .im b.cs.length (flat b.cs)]] (.v (.bool (decide (a = b)))) := by
  simp only [GState.Ok] at h
  obtain ⟨o0, o1, o2, o3, o4, o5, o6⟩ := h
  refine FnR.of_AW TryT_ok (fn := Try.f96) (by kernel_rfl) rfl (by kernel_rfl) rfl rfl rfl ?_
  refine AW_of h96 TryT_ok (by kernel_rfl) ?_
  simp -dsimp
  refine ACallK_of (f95_ok _ _ (by assumption)) ?_
  simp -dsimp
  refine ⟨fun h => ?_, fun hk => ?_⟩
  · rintro rfl
    simp at h
  rintro l1 l2 l3
  refine AWh_loop (fun i : Nat => i ≤ a.tallies.length ∧ ∀ j : Nat, j < i → nth a.tallies j = nth b.tallies j) (fun i => mkE [(2, .box 128 0), (3, .box 192 0), (5, .c (.int .i64 i))] [(128, .box [.c (.im a.know.length (flat a.know)), .c (.im a.tallies.length (flat a.tallies)), .c (.im a.lives.length (flat a.lives)), .c (.im a.cs.length (flat a.cs))]), (192, .box [.c (.im b.know.length (flat b.know)), .c (.im b.tallies.length (flat b.tallies)), .c (.im b.lives.length (flat b.lives)), .c (.im b.cs.length (flat b.cs))])]) (fun i => a.tallies.length - i) 0 (Wk_to [2, 3, 5] [(128, 128), (192, 192)] rfl rfl (by simp)) (by simp) ?_
  rintro i ⟨hi, hall⟩
  refine AW_of h96 TryT_ok (by kernel_rfl) ?_
  rcases Nat.lt_or_ge i a.tallies.length with h1 | h1
  · have h2 : i < b.tallies.length := by omega
    simp -dsimp [h1, h2, ne_of_lt h1, ne_of_lt h2]
    refine ⟨by omega, by omega, ?_⟩
    refine ⟨fun h => ?_, ?_⟩
    · rintro rfl
      simp at h
    intros
    refine Back_of (i + 1) [2, 3, 5] [(128, 128), (192, 192)] rfl rfl (by simp; rw [wrap64 (by omega) (by omega)]) ⟨by omega, fun j hj => ?_⟩ (by omega)
    by_cases e : j = i
    · subst e
      first | assumption | (apply GTally.ext <;> first | assumption | (apply GDot.ext <;> assumption))
    · exact hall j (by omega)
  simp -dsimp [Nat.not_lt.2 h1]
  have e_tallies : a.tallies = b.tallies := list_eq_of_nth (by omega) (fun j hj => hall j (by omega))
  clear hall hi h1
  refine AWh_loop (fun i : Nat => i ≤ a.lives.length ∧ ∀ j : Nat, j < i → nth a.lives j = nth b.lives j) (fun i => mkE [(2, .box 128 0), (3, .box 192 0), (6, .c (.int .i64 i))] [(128, .box [.c (.im a.know.length (flat a.know)), .c (.im a.tallies.length (flat a.tallies)), .c (.im a.lives.length (flat a.lives)), .c (.im a.cs.length (flat a.cs))]), (192, .box [.c (.im b.know.length (flat b.know)), .c (.im b.tallies.length (flat b.tallies)), .c (.im b.lives.length (flat b.lives)), .c (.im b.cs.length (flat b.cs))])]) (fun i => a.lives.length - i) 0 (Wk_to [2, 3, 6] [(128, 128), (192, 192)] rfl rfl (by simp)) (by simp) ?_
  rintro i ⟨hi, hall⟩
  refine AW_of h96 TryT_ok (by kernel_rfl) ?_
  rcases Nat.lt_or_ge i a.lives.length with h1 | h1
  · have h2 : i < b.lives.length := by omega
    simp -dsimp [h1, h2, ne_of_lt h1, ne_of_lt h2]
    refine ⟨by omega, by omega, ?_⟩
    refine ⟨fun h => ?_, ?_⟩
    · rintro rfl
      simp at h
    intros
    refine Back_of (i + 1) [2, 3, 6] [(128, 128), (192, 192)] rfl rfl (by simp; rw [wrap64 (by omega) (by omega)]) ⟨by omega, fun j hj => ?_⟩ (by omega)
    by_cases e : j = i
    · subst e
      first | assumption | (apply GLive.ext <;> first | assumption | (apply GDot.ext <;> assumption))
    · exact hall j (by omega)
  simp -dsimp [Nat.not_lt.2 h1]
  have e_lives : a.lives = b.lives := list_eq_of_nth (by omega) (fun j hj => hall j (by omega))
  clear hall hi h1
  refine AWh_loop (fun i : Nat => i ≤ a.cs.length ∧ ∀ j : Nat, j < i → nth a.cs j = nth b.cs j) (fun i => mkE [(2, .box 128 0), (3, .box 192 0), (7, .c (.int .i64 i))] [(128, .box [.c (.im a.know.length (flat a.know)), .c (.im a.tallies.length (flat a.tallies)), .c (.im a.lives.length (flat a.lives)), .c (.im a.cs.length (flat a.cs))]), (192, .box [.c (.im b.know.length (flat b.know)), .c (.im b.tallies.length (flat b.tallies)), .c (.im b.lives.length (flat b.lives)), .c (.im b.cs.length (flat b.cs))])]) (fun i => a.cs.length - i) 0 (Wk_to [2, 3, 7] [(128, 128), (192, 192)] rfl rfl (by simp)) (by simp) ?_
  rintro i ⟨hi, hall⟩
  refine AW_of h96 TryT_ok (by kernel_rfl) ?_
  rcases Nat.lt_or_ge i a.cs.length with h1 | h1
  · have h2 : i < b.cs.length := by omega
    simp -dsimp [h1, h2, ne_of_lt h1, ne_of_lt h2]
    refine ⟨by omega, by omega, ?_⟩
    refine ⟨fun h => ?_, ?_⟩
    · rintro rfl
      simp at h
    intros
    refine Back_of (i + 1) [2, 3, 7] [(128, 128), (192, 192)] rfl rfl (by simp; rw [wrap64 (by omega) (by omega)]) ⟨by omega, fun j hj => ?_⟩ (by omega)
    by_cases e : j = i
    · subst e
      first | assumption | (apply GCell.ext <;> first | assumption | (apply GDot.ext <;> assumption))
    · exact hall j (by omega)
  simp -dsimp [Nat.not_lt.2 h1]
  have e_cs : a.cs = b.cs := list_eq_of_nth (by omega) (fun j hj => hall j (by omega))
  clear hall hi h1
  exact GState.ext hk e_tallies e_lives e_cs

theorem f43_ok (a b : GDelta) (h : a.Ok) : FnR Try.prog 43 [.agg [.im a.base.length (flat a.base), .im a.know.length (flat a.know), .im a.tallies.length (flat a.tallies), .im a.lives.length (flat a.lives), .im a.dead.length (flat a.dead), .im a.cs.length (flat a.cs)], .agg [.im b.base.length (flat b.base), .im b.know.length (flat b.know), .im b.tallies.length (flat b.tallies), .im b.lives.length (flat b.lives), .im b.dead.length (flat b.dead), .im b.cs.length (flat b.cs)]] (.v (.bool (decide (a = b)))) := by
  simp only [GDelta.Ok] at h
  obtain ⟨o0, o1, o2, o3, o4, o5, o6, o7, o8⟩ := h
  refine FnR.of_AW TryT_ok (fn := Try.f43) (by kernel_rfl) rfl (by kernel_rfl) rfl rfl rfl ?_
  refine AW_of h43 TryT_ok (by kernel_rfl) ?_
  simp -dsimp
  refine ACallK_of (f95_ok _ _ (by assumption)) ?_
  simp -dsimp
  refine ⟨fun h => ?_, fun hk => ?_⟩
  · rintro rfl
    simp at h
  rintro l1
  refine AWh_loop (fun i : Nat => i ≤ a.dead.length ∧ ∀ j : Nat, j < i → nth a.dead j = nth b.dead j) (fun i => mkE [(2, .box 128 0), (3, .box 192 0), (5, .c (.int .i64 i))] [(128, .box [.c (.im a.base.length (flat a.base)), .c (.im a.know.length (flat a.know)), .c (.im a.tallies.length (flat a.tallies)), .c (.im a.lives.length (flat a.lives)), .c (.im a.dead.length (flat a.dead)), .c (.im a.cs.length (flat a.cs))]), (192, .box [.c (.im b.base.length (flat b.base)), .c (.im b.know.length (flat b.know)), .c (.im b.tallies.length (flat b.tallies)), .c (.im b.lives.length (flat b.lives)), .c (.im b.dead.length (flat b.dead)), .c (.im b.cs.length (flat b.cs))])]) (fun i => a.dead.length - i) 0 (Wk_to [2, 3, 5] [(128, 128), (192, 192)] rfl rfl (by simp)) (by simp) ?_
  rintro i ⟨hi, hall⟩
  refine AW_of h43 TryT_ok (by kernel_rfl) ?_
  rcases Nat.lt_or_ge i a.dead.length with h1 | h1
  · have h2 : i < b.dead.length := by omega
    simp -dsimp [h1, h2, ne_of_lt h1, ne_of_lt h2]
    refine ⟨by omega, by omega, ?_⟩
    refine ⟨fun h => ?_, ?_⟩
    · rintro rfl
      simp at h
    intros
    refine Back_of (i + 1) [2, 3, 5] [(128, 128), (192, 192)] rfl rfl (by simp; rw [wrap64 (by omega) (by omega)]) ⟨by omega, fun j hj => ?_⟩ (by omega)
    by_cases e : j = i
    · subst e
      first | assumption | (apply GDot.ext <;> first | assumption | (apply GDot.ext <;> assumption))
    · exact hall j (by omega)
  simp -dsimp [Nat.not_lt.2 h1]
  have e_dead : a.dead = b.dead := list_eq_of_nth (by omega) (fun j hj => hall j (by omega))
  clear hall hi h1
  refine ACallK_of (f96_ok ⟨a.know, a.tallies, a.lives, a.cs⟩ ⟨b.know, b.tallies, b.lives, b.cs⟩ ⟨by assumption, by assumption, by assumption, by assumption, by assumption, by assumption, by assumption⟩) ?_
  simp -dsimp
  rw [Bool.eq_iff_iff]
  simp [GDelta.ext_iff, hk, e_dead]

@[simp] def h23 : Hts := { merge := fun _ => true }
theorem f23_ok (a b : GUnit) (h : a.Ok) : FnR Try.prog 23 [.agg [.bool a.batch, .int .i64 a.act.dot.rep, .int .i64 a.act.dot.seq, .int .i64 a.act.time, .im a.act.knew.length (flat a.act.knew), .int .i64 a.act.kind, .str a.act.obj, .str a.act.key, .int .i64 a.act.val, .int .i64 a.act.ref.rep, .int .i64 a.act.ref.seq, .im a.delta.base.length (flat a.delta.base), .im a.delta.know.length (flat a.delta.know), .im a.delta.tallies.length (flat a.delta.tallies), .im a.delta.lives.length (flat a.delta.lives), .im a.delta.dead.length (flat a.delta.dead), .im a.delta.cs.length (flat a.delta.cs)], .agg [.bool b.batch, .int .i64 b.act.dot.rep, .int .i64 b.act.dot.seq, .int .i64 b.act.time, .im b.act.knew.length (flat b.act.knew), .int .i64 b.act.kind, .str b.act.obj, .str b.act.key, .int .i64 b.act.val, .int .i64 b.act.ref.rep, .int .i64 b.act.ref.seq, .im b.delta.base.length (flat b.delta.base), .im b.delta.know.length (flat b.delta.know), .im b.delta.tallies.length (flat b.delta.tallies), .im b.delta.lives.length (flat b.delta.lives), .im b.delta.dead.length (flat b.delta.dead), .im b.delta.cs.length (flat b.delta.cs)]] (.v (.bool (decide (a = b)))) := by
  simp only [GUnit.Ok] at h
  obtain ⟨o0, o1⟩ := h
  refine FnR.of_AW TryT_ok (fn := Try.f23) (by kernel_rfl) rfl (by kernel_rfl) rfl rfl rfl ?_
  refine AW_of h23 TryT_ok (by kernel_rfl) ?_
  simp -dsimp
  repeat' (first
    | (refine ACallK_of (f42_ok _ _ (by assumption)) ?_; simp -dsimp)
    | (refine ACallK_of (f43_ok _ _ (by assumption)) ?_; simp -dsimp)
    | refine And.intro ?_ ?_
    | intro _)
  all_goals first | assumption | (rw [GUnit.ext_iff]; grind [GDot.ext_iff]) | grind [GUnit.ext_iff, GDot.ext_iff] | (rw [Bool.eq_iff_iff]; simp [GUnit.ext_iff, GDot.ext_iff]; done) | (rw [Bool.eq_iff_iff]; simp [GUnit.ext_iff, GDot.ext_iff]; grind) | trace_state

end Am
