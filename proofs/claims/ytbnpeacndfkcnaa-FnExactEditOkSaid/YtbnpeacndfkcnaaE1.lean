/- Functions of the program keep their contracts. No condition. -/
import Derived.Test.YtbnpeacndfkcnaaT
import Derived.Test.YtbnpeacndfkcnaaAm22
namespace Am
open Go Go.Proofs
def spIn (x lo hi : Int) : Bool := decide (lo ≤ x) && decide (x ≤ hi)
theorem f76_ok (x lo hi : Int) : FnR Try.prog 76 [.v (.int .i64 x), .v (.int .i64 lo), .v (.int .i64 hi)] (.v (.bool (spIn x lo hi))) := by
  refine FnR.of_AW TryT_ok (fn := Try.f76) (by kernel_rfl) rfl (by kernel_rfl) rfl rfl rfl ?_
  refine AW_of { merge := fun _ => true } TryT_ok (by kernel_rfl) ?_
  simp -dsimp
  rfl
end Am
