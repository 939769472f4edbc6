/- UnitText: the law. No condition. -/
import Derived.Test.YtkndgnnfgdfcbaaGreatT
import Derived.Test.YtkndgnnfgdfcbaaGreatF1
import Derived.Test.YtkndgnnfgdfcbaaGreatE24
namespace Am
open Go Go.Proofs
set_option linter.unusedSimpArgs false
set_option linter.unusedVariables false

@[simp] def h3 : Hts := { dr := fun id => if id = 10 then [{ mb := [37] }, {}, { cr := true }, { cr := true }, {}] else [] }
theorem f3_ok (u : GUnit) (hd : u.Fit) : FnR Tryz.prog 3 [.agg [.bool u.batch, .int .i64 u.act.dot.rep, .int .i64 u.act.dot.seq, .int .i64 u.act.time, .im u.act.knew.length (flat u.act.knew), .int .i64 u.act.kind, .str u.act.obj, .str u.act.key, .int .i64 u.act.val, .int .i64 u.act.ref.rep, .int .i64 u.act.ref.seq, .im u.delta.base.length (flat u.delta.base), .im u.delta.know.length (flat u.delta.know), .im u.delta.tallies.length (flat u.delta.tallies), .im u.delta.lives.length (flat u.delta.lives), .im u.delta.dead.length (flat u.delta.dead), .im u.delta.cs.length (flat u.delta.cs)]] (.v (.bool true)) := by
  refine FnW.of_AW TryzT_ok 0 (fn := Tryz.f3) (by kernel_rfl) rfl (by kernel_rfl) rfl rfl rfl ?_
  refine AW_of h3 TryzT_ok (by kernel_rfl) ?_
  simp -dsimp
  refine ACallK_of (f6_ok _ _ hd (by omega) (by omega)) ?_
  simp -dsimp
  refine fun hs => ?_
  have ho := GUnit.sz_ok (by omega) (by omega) hs
  refine ACallK_of (f8_ok _ ho) ?_
  simp -dsimp
  refine ACallK_of (f7_ok _ ho) ?_
  simp -dsimp
  refine ACallK_of (f8_ok _ ho) ?_
  simp -dsimp
  refine ACallK_of (f9_ok _ ho) ?_
  simp -dsimp
  refine ACallK_of (f8_ok _ ho) ?_
  simp -dsimp
  refine ACallK_of (f10_ok _ _ ho) ?_
  simp -dsimp
end Am
