/- DeltaText: the law. No condition. -/
import Derived.Test.YtlkkgdealgceeaaT
import Derived.Test.YtlkkgdealgceeaaF1
import Derived.Test.YtlkkgdealgceeaaE15
namespace Am
open Go Go.Proofs
set_option linter.unusedSimpArgs false
set_option linter.unusedVariables false

@[simp] def h6 : Hts := { dr := fun id => if id = 10 then [{ mb := [37] }, {}, { cr := true }, { cr := true }, {}] else [] }
theorem f6_ok (d : GDelta) (hd : d.Fit) : FnR Try.prog 6 [.agg [.im d.base.length (flat d.base), .im d.know.length (flat d.know), .im d.tallies.length (flat d.tallies), .im d.lives.length (flat d.lives), .im d.dead.length (flat d.dead), .im d.cs.length (flat d.cs)]] (.v (.bool true)) := by
  refine FnW.of_AW TryT_ok 0 (fn := Try.f6) (by kernel_rfl) rfl (by kernel_rfl) rfl rfl rfl ?_
  refine AW_of h6 TryT_ok (by kernel_rfl) ?_
  simp -dsimp
  refine ACallK_of (f9_ok _ _ hd (by omega) (by omega)) ?_
  simp -dsimp
  refine fun hs => ?_
  have ho := GDelta.sz_ok (by omega) (by omega) hs
  refine ACallK_of (f11_ok _ ho) ?_
  simp -dsimp
  refine ACallK_of (f24_ok _ ho) ?_
  simp -dsimp
  refine ACallK_of (f11_ok _ ho) ?_
  simp -dsimp
  refine ACallK_of (f25_ok _ ho) ?_
  simp -dsimp
  refine ACallK_of (f11_ok _ ho) ?_
  simp -dsimp
  refine ACallK_of (f13_ok _ _ ho) ?_
  simp -dsimp
end Am
