/- StateText: the law. No condition. -/
import Derived.Test.YtlkkgdealgceeaaT
import Derived.Test.YtlkkgdealgceeaaF1
import Derived.Test.YtlkkgdealgceeaaE17
namespace Am
open Go Go.Proofs
set_option linter.unusedSimpArgs false
set_option linter.unusedVariables false

@[simp] def h5 : Hts := { dr := fun id => if id = 10 then [{ mb := [37] }, {}, { cr := true }, { cr := true }, {}] else [] }
theorem f5_ok (s : GState) (hd : s.Fit) : FnR Try.prog 5 [.agg [.im s.know.length (flat s.know), .im s.tallies.length (flat s.tallies), .im s.lives.length (flat s.lives), .im s.cs.length (flat s.cs)]] (.v (.bool true)) := by
  refine FnW.of_AW TryT_ok 0 (fn := Try.f5) (by kernel_rfl) rfl (by kernel_rfl) rfl rfl rfl ?_
  refine AW_of h5 TryT_ok (by kernel_rfl) ?_
  simp -dsimp
  refine ACallK_of (f19_ok _ _ hd (by omega) (by omega)) ?_
  simp -dsimp
  refine fun hs => ?_
  have ho := GState.sz_ok (by omega) (by omega) hs
  refine ACallK_of (f21_ok _ ho) ?_
  simp -dsimp
  refine ACallK_of (f20_ok _ ho) ?_
  simp -dsimp
  refine ACallK_of (f21_ok _ ho) ?_
  simp -dsimp
  refine ACallK_of (f22_ok _ ho) ?_
  simp -dsimp
  refine ACallK_of (f21_ok _ ho) ?_
  simp -dsimp
  refine ACallK_of (f23_ok _ _ ho) ?_
  simp -dsimp
end Am
