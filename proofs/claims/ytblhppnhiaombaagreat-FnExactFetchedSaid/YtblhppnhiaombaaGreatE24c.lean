/- Numbers copied. No condition. -/
import Derived.Test.YtblhppnhiaombaaGreatT
import Derived.Test.YtblhppnhiaombaaGreatD
import Derived.Test.YtblhppnhiaombaaGreatE2
import Derived.Test.YtblhppnhiaombaaGreatAm31
namespace Am
open Go Go.Proofs
open Cel (cells)
set_option maxRecDepth 100000
set_option linter.unusedSimpArgs false
set_option linter.unusedVariables false

@[simp] def h196 : Hts := {  }
theorem f196_ok (xs : List Int) (h : xs.length ≤ 1073741824) : FnR Tryz.prog 196 [.v (.im xs.length (flat xs))] (.v (.ow 3 1 xs.length (flat xs))) := by
  refine FnW.of_AW TryzT_ok 0 (fn := Tryz.f196) (by kernel_rfl) rfl (by kernel_rfl) rfl rfl rfl ?_
  refine AW_of h196 TryzT_ok (by kernel_rfl) ?_
  simp -dsimp
  simp [capMax]
  omega
end Am
