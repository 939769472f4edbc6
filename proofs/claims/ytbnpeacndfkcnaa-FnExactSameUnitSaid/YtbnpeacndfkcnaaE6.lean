/- What is the same. No condition. -/
import Derived.Test.YtbnpeacndfkcnaaE5
namespace Am
open Go Go.Proofs
open Cel (cells)
set_option maxRecDepth 100000

@[simp] def h42 : Hts := { merge := fun _ => true }
theorem f42_ok (a b : GAct) (h : a.Ok) : FnR Try.prog 42 [.agg [.int .i64 a.dot.rep, .int .i64 a.dot.seq, .int .i64 a.time, .im a.knew.length (flat a.knew), .int .i64 a.kind, .str a.obj, .str a.key, .int .i64 a.val, .int .i64 a.ref.rep, .int .i64 a.ref.seq], .agg [.int .i64 b.dot.rep, .int .i64 b.dot.seq, .int .i64 b.time, .im b.knew.length (flat b.knew), .int .i64 b.kind, .str b.obj, .str b.key, .int .i64 b.val, .int .i64 b.ref.rep, .int .i64 b.ref.seq]] (.v (.bool (decide (a = b)))) := by
  simp only [GAct.Ok] at h
  obtain ⟨o0, o1, o2⟩ := h
  refine FnR.of_AW TryT_ok (fn := Try.f42) (by kernel_rfl) rfl (by kernel_rfl) rfl rfl rfl ?_
  refine AW_of h42 TryT_ok (by kernel_rfl) ?_
  simp -dsimp
  repeat' (first
    | (refine ACallK_of (f95_ok _ _ (by assumption)) ?_; simp -dsimp)
    | refine And.intro ?_ ?_
    | intro _)
  all_goals first | assumption | (rw [GAct.ext_iff]; grind [GDot.ext_iff]) | grind [GAct.ext_iff, GDot.ext_iff] | (rw [Bool.eq_iff_iff]; simp [GAct.ext_iff, GDot.ext_iff]; done) | (rw [Bool.eq_iff_iff]; simp [GAct.ext_iff, GDot.ext_iff]; grind) | trace_state

@[simp] def h45 : Hts := { merge := fun _ => true }
theorem f45_ok (a b : GAct) (h : a.Ok) : FnR Try.prog 45 [.agg [.int .i64 a.dot.rep, .int .i64 a.dot.seq, .int .i64 a.time, .im a.knew.length (flat a.knew), .int .i64 a.kind, .str a.obj, .str a.key, .int .i64 a.val, .int .i64 a.ref.rep, .int .i64 a.ref.seq], .agg [.int .i64 b.dot.rep, .int .i64 b.dot.seq, .int .i64 b.time, .im b.knew.length (flat b.knew), .int .i64 b.kind, .str b.obj, .str b.key, .int .i64 b.val, .int .i64 b.ref.rep, .int .i64 b.ref.seq]] (.v (.bool (decide (a = b)))) := by
  simp only [GAct.Ok] at h
  obtain ⟨o0, o1, o2⟩ := h
  refine FnR.of_AW TryT_ok (fn := Try.f45) (by kernel_rfl) rfl (by kernel_rfl) rfl rfl rfl ?_
  refine AW_of h45 TryT_ok (by kernel_rfl) ?_
  simp -dsimp
  repeat' (first
    | (refine ACallK_of (f97_ok _ _ (by assumption)) ?_; simp -dsimp)
    | refine And.intro ?_ ?_
    | intro _)
  all_goals first | assumption | (rw [GAct.ext_iff]; grind [GDot.ext_iff]) | grind [GAct.ext_iff, GDot.ext_iff] | (rw [Bool.eq_iff_iff]; simp [GAct.ext_iff, GDot.ext_iff]; done) | (rw [Bool.eq_iff_iff]; simp [GAct.ext_iff, GDot.ext_iff]; grind) | trace_state

@[simp] def h46 : Hts := { merge := fun _ => true }
theorem f46_ok (a b : GDelta) (h : a.Ok) : FnR Try.prog 46 [.agg [.im a.base.length (flat a.base), .im a.know.length (flat a.know), .im a.tallies.length (flat a.tallies), .im a.lives.length (flat a.lives), .im a.dead.length (flat a.dead), .im a.cs.length (flat a.cs)], .agg [.im b.base.length (flat b.base), .im b.know.length (flat b.know), .im b.tallies.length (flat b.tallies), .im b.lives.length (flat b.lives), .im b.dead.length (flat b.dead), .im b.cs.length (flat b.cs)]] (.v (.bool (decide (a = b)))) := by
  simp only [GDelta.Ok] at h
  obtain ⟨o0, o1, o2, o3, o4, o5, o6, o7, o8⟩ := h
  refine FnR.of_AW TryT_ok (fn := Try.f46) (by kernel_rfl) rfl (by kernel_rfl) rfl rfl rfl ?_
  refine AW_of h46 TryT_ok (by kernel_rfl) ?_
  simp -dsimp
  repeat' (first
    | (refine ACallK_of (f97_ok _ _ (by assumption)) ?_; simp -dsimp)
    | (refine ACallK_of (f98_ok _ _ (by assumption)) ?_; simp -dsimp)
    | (refine ACallK_of (f99_ok _ _ (by assumption)) ?_; simp -dsimp)
    | (refine ACallK_of (f100_ok _ _ (by assumption)) ?_; simp -dsimp)
    | (refine ACallK_of (f101_ok _ _ (by assumption)) ?_; simp -dsimp)
    | refine And.intro ?_ ?_
    | intro _)
  all_goals first | assumption | (rw [GDelta.ext_iff]; grind [GDot.ext_iff]) | grind [GDelta.ext_iff, GDot.ext_iff] | (rw [Bool.eq_iff_iff]; simp [GDelta.ext_iff, GDot.ext_iff]; done) | (rw [Bool.eq_iff_iff]; simp [GDelta.ext_iff, GDot.ext_iff]; grind) | trace_state

@[simp] def h25 : Hts := { merge := fun _ => true }
theorem f25_ok (a b : GUnit) (h : a.Ok) : FnR Try.prog 25 [.agg [.bool a.batch, .int .i64 a.act.dot.rep, .int .i64 a.act.dot.seq, .int .i64 a.act.time, .im a.act.knew.length (flat a.act.knew), .int .i64 a.act.kind, .str a.act.obj, .str a.act.key, .int .i64 a.act.val, .int .i64 a.act.ref.rep, .int .i64 a.act.ref.seq, .im a.delta.base.length (flat a.delta.base), .im a.delta.know.length (flat a.delta.know), .im a.delta.tallies.length (flat a.delta.tallies), .im a.delta.lives.length (flat a.delta.lives), .im a.delta.dead.length (flat a.delta.dead), .im a.delta.cs.length (flat a.delta.cs)], .agg [.bool b.batch, .int .i64 b.act.dot.rep, .int .i64 b.act.dot.seq, .int .i64 b.act.time, .im b.act.knew.length (flat b.act.knew), .int .i64 b.act.kind, .str b.act.obj, .str b.act.key, .int .i64 b.act.val, .int .i64 b.act.ref.rep, .int .i64 b.act.ref.seq, .im b.delta.base.length (flat b.delta.base), .im b.delta.know.length (flat b.delta.know), .im b.delta.tallies.length (flat b.delta.tallies), .im b.delta.lives.length (flat b.delta.lives), .im b.delta.dead.length (flat b.delta.dead), .im b.delta.cs.length (flat b.delta.cs)]] (.v (.bool (decide (a = b)))) := by
  simp only [GUnit.Ok] at h
  obtain ⟨o0, o1⟩ := h
  refine FnR.of_AW TryT_ok (fn := Try.f25) (by kernel_rfl) rfl (by kernel_rfl) rfl rfl rfl ?_
  refine AW_of h25 TryT_ok (by kernel_rfl) ?_
  simp -dsimp
  repeat' (first
    | (refine ACallK_of (f45_ok _ _ (by assumption)) ?_; simp -dsimp)
    | (refine ACallK_of (f46_ok _ _ (by assumption)) ?_; simp -dsimp)
    | refine And.intro ?_ ?_
    | intro _)
  all_goals first | assumption | (rw [GUnit.ext_iff]; grind [GDot.ext_iff]) | grind [GUnit.ext_iff, GDot.ext_iff] | (rw [Bool.eq_iff_iff]; simp [GUnit.ext_iff, GDot.ext_iff]; done) | (rw [Bool.eq_iff_iff]; simp [GUnit.ext_iff, GDot.ext_iff]; grind) | trace_state

end Am
