/- GraphOk: the law. No condition. -/
import Derived.Test.YtpgnllakcjajjaaGreatT
import Derived.Test.YtpgnllakcjajjaaGreatF1
import Derived.Test.YtpgnllakcjajjaaGreatF2
import Derived.Test.YtpgnllakcjajjaaGreatG0
import Derived.Test.YtpgnllakcjajjaaGreatE61
namespace Am
open Go Go.Proofs
set_option linter.unusedSimpArgs false
set_option linter.unusedVariables false

@[simp] def h8 : Hts := { dr := fun id => if id = 10 then [{ mb := [24] }, {}, { cr := true }, { cr := true }, {}] else [] }
set_option maxHeartbeats 2000000 in
theorem f8_ok (g : GGraph) (hdg : g.Fit) : FnR Tryz.prog 8 [.agg [.im g.commits.length (flat g.commits), .int .i64 g.head]] (.v (.bool true)) := by
  refine FnW.of_AW TryzT_ok 0 (fn := Tryz.f8) (by kernel_rfl) rfl (by kernel_rfl) rfl rfl rfl ?_
  refine AW_of h8 TryzT_ok (by kernel_rfl) ?_
  simp -dsimp
  refine ACallK_of (f32_ok _ _ hdg (by omega) (by omega)) ?_
  simp -dsimp
  refine fun hsg => ?_
  have hog := GGraph.sz_ok (by omega) (by omega) hsg
  have hqg := GGraph.sz_le g 1048576 (by omega)
  refine ACallK_of (f34_ok _ hog) ?_
  simp -dsimp
  refine ACallK_of (f33_ok _ hog) ?_
  simp -dsimp
  refine ACallK_of (f34_ok _ hog) ?_
  simp -dsimp
  refine ACallK_of (f35_ok _ hog) ?_
  simp -dsimp
  refine ACallK_of (f34_ok _ hog) ?_
  simp -dsimp
  refine ACallK_of (f36_ok _ _ hog) ?_
  simp -dsimp
end Am
