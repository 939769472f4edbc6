/- Behind: the law. No condition. -/
import Derived.Test.YtpgnllakcjajjaaGreatT
import Derived.Test.YtpgnllakcjajjaaGreatF1
import Derived.Test.YtpgnllakcjajjaaGreatF2
import Derived.Test.YtpgnllakcjajjaaGreatG0
import Derived.Test.YtpgnllakcjajjaaGreatE59
namespace Am
open Go Go.Proofs
set_option linter.unusedSimpArgs false
set_option linter.unusedVariables false

@[simp] def h4 : Hts := { dr := fun id => if id = 8 then [{}, { cr := true }, { mb := [21] }, { cr := true }, { cr := true }, {}] else if id = 14 then [{ mb := [37] }, {}, { cr := true }, { cr := true }, {}] else if id = 16 then [{ mb := [42] }, {}, { cr := true }, { cr := true }, {}] else [] }
set_option maxHeartbeats 2000000 in
theorem f4_ok (a : GState) (b : GState) (hda : a.Fit) (hdb : b.Fit) : FnR Tryz.prog 4 [.agg [.im a.know.length (flat a.know), .im a.tallies.length (flat a.tallies), .im a.lives.length (flat a.lives), .im a.cs.length (flat a.cs)], .agg [.im b.know.length (flat b.know), .im b.tallies.length (flat b.tallies), .im b.lives.length (flat b.lives), .im b.cs.length (flat b.cs)]] (.v (.bool true)) := by
  refine FnW.of_AW TryzT_ok 0 (fn := Tryz.f4) (by kernel_rfl) rfl (by kernel_rfl) rfl rfl rfl ?_
  refine AW_of h4 TryzT_ok (by kernel_rfl) ?_
  simp -dsimp
  refine ACallK_of (f9_ok _ _ hda (by omega) (by omega)) ?_
  simp -dsimp
  refine fun hsa => ?_
  have hoa := GState.sz_ok (by omega) (by omega) hsa
  have hqa := GState.sz_le a 1048576 (by omega)
  refine ACallK_of (f9_ok _ _ hdb (by omega) (by omega)) ?_
  simp -dsimp
  refine fun hsb => ?_
  have hob := GState.sz_ok (by omega) (by omega) hsb
  have hqb := GState.sz_le b (a.sz 1048576) (by omega)
  refine ACallK_of (f11_ok _ hoa) ?_
  simp -dsimp
  refine ACallK_of (f11_ok _ hob) ?_
  simp -dsimp
  refine ACallK_of (f16_ok _ _ hoa hob) ?_
  simp -dsimp
  refine ACallK_of (f11_ok _ hoa) ?_
  simp -dsimp
  refine ACallK_of (f11_ok _ hob) ?_
  simp -dsimp
  refine ACallK_of (f17_ok _ _ hoa hob) ?_
  simp -dsimp
  refine ACallK_of (f11_ok _ hoa) ?_
  simp -dsimp
  refine ACallK_of (f13_ok _ _ hoa) ?_
  simp -dsimp
  refine ACallK_of (f11_ok _ hob) ?_
  simp -dsimp
  refine ACallK_of (f13_ok _ _ hob) ?_
  simp -dsimp
end Am
