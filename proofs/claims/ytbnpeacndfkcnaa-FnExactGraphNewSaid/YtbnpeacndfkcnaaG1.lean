/- Functions of the program keep their contracts. No condition. -/
import Derived.Test.YtbnpeacndfkcnaaT
import Derived.Test.YtbnpeacndfkcnaaF1
import Derived.Test.YtbnpeacndfkcnaaF2
namespace Am
open Go Go.Proofs

def graphNew : GGraph := ⟨[], -1⟩
@[simp] def h12 : Hts := {  }
theorem f12_ok : FnR Try.prog 12 [] (.agg [.ow 84 7 graphNew.commits.length (flatO graphNew.commits), .int .i64 graphNew.head]) := by
  rw [graphNew]
  refine FnW.of_AW TryT_ok 0 (fn := Try.f12) (by kernel_rfl) rfl (by kernel_rfl) rfl rfl rfl ?_
  refine AW_of h12 TryT_ok (by kernel_rfl) ?_
  simp -dsimp
@[simp] def h13 : Hts := {  }
theorem f13_ok : FnR Try.prog 13 [] (.agg [.ow 84 7 graphNew.commits.length (flatO graphNew.commits), .int .i64 graphNew.head]) := by
  rw [graphNew]
  refine FnW.of_AW TryT_ok 0 (fn := Try.f13) (by kernel_rfl) rfl (by kernel_rfl) rfl rfl rfl ?_
  refine AW_of h13 TryT_ok (by kernel_rfl) ?_
  simp -dsimp
@[simp] def h4 : Hts := { lend := fun f => if f = 15 then [.lend] else [] }
theorem f4_ok : FnR Try.prog 4 [] (.v (.bool true)) := by
  have hok : graphNew.Ok := by simp [graphNew, GGraph.Ok]
  have hB : (graphNew.mt 1).2 ≤ 4611686018427387904 := by simp [graphNew, GGraph.mt, mkS]
  have hle := GGraph.mt_le graphNew 1 (by omega)
  refine FnW.of_AW TryT_ok 0 (fn := Try.f4) (by kernel_rfl) rfl (by kernel_rfl) rfl rfl rfl ?_
  refine AW_of h4 TryT_ok (by kernel_rfl) ?_
  simp -dsimp
  refine ACallK_of (f12_ok) ?_
  simp -dsimp
  refine ACallK_of (f13_ok) ?_
  simp -dsimp
  refine ACallK_of (f14_ok _ _ hok) ?_
  simp -dsimp
  refine ACallW_args (by intro us; simp -dsimp; exact ⟨rfl, rfl, rfl⟩) ?_
  refine ACallC_of (fun us => f15_ok _ _ hok (by omega) (by omega)) (by intro us; simp -dsimp; exact ⟨rfl, rfl⟩) ?_
  simp -dsimp
  refine ACallK_of (f16_ok _ _ hok (by omega) (by omega)) ?_
  simp -dsimp
  refine ⟨by omega, fun _ => ?_⟩
  refine ACallK_of (f13_ok) ?_
  simp -dsimp
  refine ACallK_of (f14_ok _ _ hok) ?_
  simp -dsimp
  refine ACallK_of (f16_ok _ _ hok (by omega) (by omega)) ?_
  simp -dsimp
  omega
