/- PlaceIn: the law. No condition. -/
import Derived.Test.YtkkaogfjlbigmaaT
import Derived.Test.YtkkaogfjlbigmaaF1
import Derived.Test.YtkkaogfjlbigmaaF2
import Derived.Test.YtkkaogfjlbigmaaG0
import Derived.Test.YtkkaogfjlbigmaaE73
namespace Am
open Go Go.Proofs
set_option linter.unusedSimpArgs false
set_option linter.unusedVariables false

@[simp] def h3 : Hts := { dr := fun id => if id = 12 then [{ mb := [49] }, {}, { cr := true }, { cr := true }, {}] else [] }
set_option maxHeartbeats 2000000 in
theorem f3_ok (a : GState) (o : ByteArray) (i : Int) (hda : a.Fit) (hdo : o.size ≤ 9223372036854775807) (hdi : IntKind.i64.min ≤ i) (hdi' : i ≤ IntKind.i64.max) : FnR Try.prog 3 [.agg [.im a.know.length (flat a.know), .im a.tallies.length (flat a.tallies), .im a.lives.length (flat a.lives), .im a.cs.length (flat a.cs)], .v (.str o), .v (.int .i64 i)] (.v (.bool true)) := by
  refine FnW.of_AW TryT_ok 0 (fn := Try.f3) (by kernel_rfl) rfl (by kernel_rfl) rfl rfl rfl ?_; refine AW_of h3 TryT_ok (by kernel_rfl) ?_
  simp -dsimp
  intro hzo
  refine ACallK_of (f6_ok _ _ hda (by omega) (by omega)) ?_
  simp -dsimp
  refine fun hsa => ?_
  have hoa := GState.sz_ok (by omega) (by omega) hsa
  have hqa := GState.sz_le a 1048576 (by omega)
  have hdi2 : i ≤ 9223372036854775807 := hdi'
  refine ACallK_of (f8_ok _ hoa) ?_
  simp -dsimp
  refine ACallK_of (f7_ok _ _ _ hoa hdi2) ?_
  simp -dsimp
  refine ACallK_of (f8_ok _ hoa) ?_
  simp -dsimp
  refine ACallK_of (f9_ok _ _ _ hoa) ?_
  simp -dsimp
  refine ACallK_of (f10_ok _ _) ?_
  simp -dsimp
  refine ACallK_of (f8_ok _ hoa) ?_
  simp -dsimp
  refine ACallK_of (f11_ok _ _ hoa) ?_
  simp -dsimp
end Am
