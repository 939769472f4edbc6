/- Numbers copied. No condition. -/
import Derived.Test.YtpgnllakcjajjaaGreatT
import Derived.Test.YtpgnllakcjajjaaGreatD
import Derived.Test.YtpgnllakcjajjaaGreatE2
import Derived.Test.YtpgnllakcjajjaaGreatAm31
namespace Am
open Go Go.Proofs
open Cel (cells)
set_option maxRecDepth 100000
set_option linter.unusedSimpArgs false
set_option linter.unusedVariables false

@[simp] def h93 : Hts := {  }
theorem f93_ok (xs : List Int) (h : xs.length ≤ 1073741824) : FnR Tryz.prog 93 [.v (.im xs.length (flat xs))] (.v (.ow 3 1 xs.length (flat xs))) := by
  refine FnW.of_AW TryzT_ok 0 (fn := Tryz.f93) (by kernel_rfl) rfl (by kernel_rfl) rfl rfl rfl ?_
  refine AW_of h93 TryzT_ok (by kernel_rfl) ?_
  simp -dsimp
  simp [capMax]
  omega
end Am
