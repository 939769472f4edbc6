/- BaseOf: the law. No condition. -/
import Derived.Test.YtblhppnhiaombaaGreatT
import Derived.Test.YtblhppnhiaombaaGreatF1
import Derived.Test.YtblhppnhiaombaaGreatF2
import Derived.Test.YtblhppnhiaombaaGreatG0
import Derived.Test.YtblhppnhiaombaaGreatE90
namespace Am
open Go Go.Proofs
set_option linter.unusedSimpArgs false
set_option linter.unusedVariables false

@[simp] def h4 : Hts := { lend := fun f => if f = 17 then [.lend] else if f = 25 then [.lend] else [], dr := fun id => if id = 10 then [{ mb := [37] }, {}, { cr := true }, { cr := true }, {}] else [] }
set_option maxHeartbeats 2000000 in
theorem f4_ok (g : GGraph) (a : Int) (b : Int) (hdg : g.Fit) (hda : IntKind.i64.min ≤ a) (hda' : a ≤ IntKind.i64.max) (hdb : IntKind.i64.min ≤ b) (hdb' : b ≤ IntKind.i64.max) : FnR Tryz.prog 4 [.agg [.im g.commits.length (flat g.commits), .int .i64 g.head], .v (.int .i64 a), .v (.int .i64 b)] (.v (.bool true)) := by
  refine FnW.of_AW TryzT_ok 0 (fn := Tryz.f4) (by kernel_rfl) rfl (by kernel_rfl) rfl rfl rfl ?_; refine AW_of h4 TryzT_ok (by kernel_rfl) ?_
  simp -dsimp
  refine ACallK_of (f20_ok _ _ hdg (by omega) (by omega)) ?_
  simp -dsimp
  refine fun hsg => ?_
  have hog := GGraph.sz_ok (by omega) (by omega) hsg
  have hqg := GGraph.sz_le g 1048576 (by omega)
  have fg := GGraph.sz_fine (by omega) (by omega) hsg
  have b1 := GGraph.mt_ub g fg 1
  have l1 := GGraph.mt_le g 1 (by omega)
  have hw := baseOf_ok hog a b
  have b2 := GState.mt_ub (baseOf g a b) hw 1
  have l2 := GState.mt_le (baseOf g a b) 1 (by omega)
  refine ACallK_of (f22_ok _ hog) ?_
  simp -dsimp
  refine ACallK_of (f21_ok _ hog _ _) ?_
  simp -dsimp
  refine ACallK_of (f22_ok _ hog) ?_
  simp -dsimp
  refine ACallK_of (f23_ok _ hog _ _) ?_
  simp -dsimp
  refine ACallK_of (f15_ok _ _ hw) ?_
  simp -dsimp
  refine ACallK_of (f22_ok _ hog) ?_
  simp -dsimp
  refine ACallK_of (f24_ok _ _ hog) ?_
  simp -dsimp
  refine ACallW_args (by intro us; simp -dsimp; exact ⟨rfl, rfl, rfl⟩) ?_
  refine ACallC_of (fun us => f25_ok _ _ hog (by omega) (by omega)) (by intro us; simp -dsimp; exact ⟨rfl, rfl⟩) ?_
  have ng : ¬ (g.mt 1).2 < 0 := by omega
  have pg : 0 ≤ (g.mt 1).2 := by omega
  simp -dsimp [ng, pg]
  repeat (first | refine ⟨by omega, ?_⟩ | refine ⟨⟨by omega, by omega⟩, ?_⟩ | refine fun _ => ?_)
  refine ACallK_of (f15_ok _ _ hw) ?_
  simp -dsimp [ng, pg]
  repeat (first | refine ⟨by omega, ?_⟩ | refine ⟨⟨by omega, by omega⟩, ?_⟩ | refine fun _ => ?_)
  refine ACallW_args (by intro us; simp -dsimp; exact ⟨rfl, rfl, rfl⟩) ?_
  refine ACallC_of (fun us => f17_ok _ _ hw (by omega) (by omega)) (by intro us; simp -dsimp; exact ⟨rfl, rfl⟩) ?_
  have r0 : ¬ ((baseOf g a b).mt 1).2 < 0 := by omega
  have s0 : 0 ≤ ((baseOf g a b).mt 1).2 := by omega
  simp -dsimp [ng, pg, r0, s0]
  repeat (first | refine ⟨by omega, ?_⟩ | refine ⟨⟨by omega, by omega⟩, ?_⟩ | refine fun _ => ?_)
  refine ACallK_of (f19_ok _ _ hw (by omega) (by omega)) ?_
  simp -dsimp [ng, pg, r0, s0]
  repeat (first | refine ⟨by omega, ?_⟩ | refine ⟨⟨by omega, by omega⟩, ?_⟩ | refine fun _ => ?_)
  refine ACallK_of (f22_ok _ hog) ?_
  simp -dsimp
  refine ACallK_of (f23_ok _ hog _ _) ?_
  simp -dsimp [ng, pg, r0, s0]
  refine ACallK_of (f15_ok _ _ hw) ?_
  simp -dsimp [ng, pg, r0, s0]
  repeat (first | refine ⟨by omega, ?_⟩ | refine ⟨⟨by omega, by omega⟩, ?_⟩ | refine fun _ => ?_)
  refine ACallK_of (f19_ok _ _ hw (by omega) (by omega)) ?_
  simp -dsimp [ng, pg, r0, s0]
  repeat (first | refine ⟨by omega, ?_⟩ | refine ⟨⟨by omega, by omega⟩, ?_⟩ | refine fun _ => ?_)
end Am
