/- The law FnExactSameUnit in its function. No condition. -/
import Derived.Test.YtbnpeacndfkcnaaE7
namespace Am
open Go Go.Proofs
open Cel (cells)
set_option maxRecDepth 100000

@[simp] def h6 : Hts := { merge := fun _ => true, dr := fun id => if id = 8 then [{}, { cr := true }, { mb := [21] }, { cr := true }, { cr := true }, {}] else if id = 14 then [{ mb := [37] }, {}, { cr := true }, { cr := true }, {}] else if id = 16 then [{ mb := [42] }, {}, { cr := true }, { cr := true }, {}] else [] }
theorem f6_ok (a b : GUnit) (ha : a.Fit) (hb : b.Fit) : FnR Try.prog 6 [.agg [.bool a.batch, .int .i64 a.act.dot.rep, .int .i64 a.act.dot.seq, .int .i64 a.act.time, .im a.act.knew.length (flat a.act.knew), .int .i64 a.act.kind, .str a.act.obj, .str a.act.key, .int .i64 a.act.val, .int .i64 a.act.ref.rep, .int .i64 a.act.ref.seq, .im a.delta.base.length (flat a.delta.base), .im a.delta.know.length (flat a.delta.know), .im a.delta.tallies.length (flat a.delta.tallies), .im a.delta.lives.length (flat a.delta.lives), .im a.delta.dead.length (flat a.delta.dead), .im a.delta.cs.length (flat a.delta.cs)], .agg [.bool b.batch, .int .i64 b.act.dot.rep, .int .i64 b.act.dot.seq, .int .i64 b.act.time, .im b.act.knew.length (flat b.act.knew), .int .i64 b.act.kind, .str b.act.obj, .str b.act.key, .int .i64 b.act.val, .int .i64 b.act.ref.rep, .int .i64 b.act.ref.seq, .im b.delta.base.length (flat b.delta.base), .im b.delta.know.length (flat b.delta.know), .im b.delta.tallies.length (flat b.delta.tallies), .im b.delta.lives.length (flat b.delta.lives), .im b.delta.dead.length (flat b.delta.dead), .im b.delta.cs.length (flat b.delta.cs)]] (.v (.bool true)) := by
  refine FnR.of_AW TryT_ok (fn := Try.f6) (by kernel_rfl) rfl (by kernel_rfl) rfl rfl rfl ?_
  refine AW_of h6 TryT_ok (by kernel_rfl) ?_
  simp -dsimp
  refine ACallK_of (f22_ok _ _ ha (by omega) (by omega)) ?_
  simp -dsimp
  intro p0
  have q0 := GUnit.sz_le a 1048576 (by omega)
  refine ACallK_of (f22_ok _ _ hb (by omega) (by omega)) ?_
  simp -dsimp
  intro p1
  have oa := GUnit.sz_ok (by omega) (by omega) p0
  have ob := GUnit.sz_ok p0 (by omega) p1
  clear q0 p0 p1
  repeat' (first
    | (refine ACallK_of (f24_ok _ (by assumption)) ?_; simp -dsimp)
    | (refine ACallK_of (f23_ok _ _ (by assumption)) ?_; simp -dsimp)
    | (refine ACallK_of (f25_ok _ _ (by assumption)) ?_; simp -dsimp)
    | (refine ACallK_of (f26_ok _ _ (by assumption)) ?_; simp -dsimp)
    | refine And.intro ?_ ?_
    | intro _)
  all_goals trace_state
end Am
