/- LogNew, of both, and the law. No condition. -/
import Derived.Test.YtlkkgdealgceeaaT
import Derived.Test.YtlkkgdealgceeaaF1
import Derived.Test.YtlkkgdealgceeaaF2
import Derived.Test.YtlkkgdealgceeaaAm31
namespace Am
open Go Go.Proofs
open Cel (cells)
set_option linter.unusedSimpArgs false
set_option linter.unusedVariables false

def logNew (r : Int) : GLog := ⟨r, 0, ⟨[0, 0, 0], [], [], []⟩, [], []⟩
def stateNew : GState := ⟨[0, 0, 0], [], [], []⟩
@[simp] def h112 : Hts := {  }
theorem f112_ok : FnR Try.prog 112 [] (.v (.ow 3 1 (([0, 0, 0] : List Int)).length (flat (([0, 0, 0] : List Int))))) := by
  refine FnW.of_AW TryT_ok 0 (fn := Try.f112) (by kernel_rfl) rfl (by kernel_rfl) rfl rfl rfl ?_
  refine AW_of h112 TryT_ok (by kernel_rfl) ?_
  simp -dsimp
  exact ⟨by decide, rfl⟩
@[simp] def h113 : Hts := {  }
theorem f113_ok : FnR Try.prog 113 [] (.v (.ow 3 1 (([0, 0, 0] : List Int)).length (flat (([0, 0, 0] : List Int))))) := by
  refine FnW.of_AW TryT_ok 0 (fn := Try.f113) (by kernel_rfl) rfl (by kernel_rfl) rfl rfl rfl ?_
  refine AW_of h113 TryT_ok (by kernel_rfl) ?_
  simp -dsimp
  exact ⟨by decide, rfl⟩
@[simp] def h62 : Hts := {  }
theorem f62_ok : FnR Try.prog 62 [] (.agg [.ow 3 1 stateNew.know.length (flat stateNew.know), .ow 121 3 stateNew.tallies.length (flat stateNew.tallies), .ow 78 6 stateNew.lives.length (flat stateNew.lives), .ow 80 8 stateNew.cs.length (flat stateNew.cs)]) := by
  rw [stateNew]
  refine FnW.of_AW TryT_ok 0 (fn := Try.f62) (by kernel_rfl) rfl (by kernel_rfl) rfl rfl rfl ?_
  refine AW_of h62 TryT_ok (by kernel_rfl) ?_
  simp -dsimp
  refine ACallK_of (f112_ok) ?_
  simp -dsimp
@[simp] def h63 : Hts := {  }
theorem f63_ok : FnR Try.prog 63 [] (.agg [.ow 3 1 stateNew.know.length (flat stateNew.know), .ow 121 3 stateNew.tallies.length (flat stateNew.tallies), .ow 78 6 stateNew.lives.length (flat stateNew.lives), .ow 80 8 stateNew.cs.length (flat stateNew.cs)]) := by
  rw [stateNew]
  refine FnW.of_AW TryT_ok 0 (fn := Try.f63) (by kernel_rfl) rfl (by kernel_rfl) rfl rfl rfl ?_
  refine AW_of h63 TryT_ok (by kernel_rfl) ?_
  simp -dsimp
  refine ACallK_of (f113_ok) ?_
  simp -dsimp
@[simp] def h14 : Hts := {  }
theorem f14_ok (r : Int) : FnR Try.prog 14 [.v (.int .i64 r)] (.agg [.int .i64 (logNew r).rep, .int .i64 (logNew r).time, .ow 3 1 (logNew r).state.know.length (flat (logNew r).state.know), .ow 121 3 (logNew r).state.tallies.length (flat (logNew r).state.tallies), .ow 78 6 (logNew r).state.lives.length (flat (logNew r).state.lives), .ow 80 8 (logNew r).state.cs.length (flat (logNew r).state.cs), .ow 140 17 (logNew r).units.length (flatO (logNew r).units), .ow 140 17 (logNew r).waits.length (flatO (logNew r).waits)]) := by
  rw [logNew]
  refine FnW.of_AW TryT_ok 0 (fn := Try.f14) (by kernel_rfl) rfl (by kernel_rfl) rfl rfl rfl ?_
  refine AW_of h14 TryT_ok (by kernel_rfl) ?_
  simp -dsimp
  refine ACallK_of (f62_ok) ?_
  simp -dsimp [stateNew]
@[simp] def h15 : Hts := {  }
theorem f15_ok (r : Int) : FnR Try.prog 15 [.v (.int .i64 r)] (.agg [.int .i64 (logNew r).rep, .int .i64 (logNew r).time, .ow 3 1 (logNew r).state.know.length (flat (logNew r).state.know), .ow 121 3 (logNew r).state.tallies.length (flat (logNew r).state.tallies), .ow 78 6 (logNew r).state.lives.length (flat (logNew r).state.lives), .ow 80 8 (logNew r).state.cs.length (flat (logNew r).state.cs), .ow 140 17 (logNew r).units.length (flatO (logNew r).units), .ow 140 17 (logNew r).waits.length (flatO (logNew r).waits)]) := by
  rw [logNew]
  refine FnW.of_AW TryT_ok 0 (fn := Try.f15) (by kernel_rfl) rfl (by kernel_rfl) rfl rfl rfl ?_
  refine AW_of h15 TryT_ok (by kernel_rfl) ?_
  simp -dsimp
  refine ACallK_of (f63_ok) ?_
  simp -dsimp [stateNew]
@[simp] def h4 : Hts := { lend := fun f => if f = 17 then [.lend] else [] }
theorem f4_ok (r : Int) (hr : -9223372036854775808 ≤ r) (hr2 : r ≤ 9223372036854775807) : FnR Try.prog 4 [.v (.int .i64 r)] (.v (.bool true)) := by
  have hok : (logNew r).Ok := by simp [logNew, GLog.Ok, GState.Ok]
  have hB : ((logNew r).mt 1).2 ≤ 4611686018427387904 := by simp [logNew, GLog.mt, GState.mt, mkS, mkInt]
  have hle := GLog.mt_le (logNew r) 1 (by omega)
  refine FnW.of_AW TryT_ok 0 (fn := Try.f4) (by kernel_rfl) rfl (by kernel_rfl) rfl rfl rfl ?_
  refine AW_of h4 TryT_ok (by kernel_rfl) ?_
  simp -dsimp
  refine ACallK_of (f14_ok _) ?_
  simp -dsimp
  refine ACallK_of (f15_ok _) ?_
  simp -dsimp
  refine ACallK_of (f16_ok _ _ hok) ?_
  simp -dsimp
  refine ACallW_args (by intro us; simp -dsimp; exact ⟨rfl, rfl, rfl⟩) ?_
  refine ACallC_of (fun us => f17_ok _ _ hok (by omega) (by omega)) (by intro us; simp -dsimp; exact ⟨rfl, rfl⟩) ?_
  simp -dsimp
  refine ACallK_of (f18_ok _ _ hok (by omega) (by omega)) ?_
  simp -dsimp
  refine ⟨by omega, fun _ => ?_⟩
  refine ACallK_of (f15_ok _) ?_
  simp -dsimp
  refine ACallK_of (f16_ok _ _ hok) ?_
  simp -dsimp
  refine ACallK_of (f18_ok _ _ hok (by omega) (by omega)) ?_
  simp -dsimp
  omega
end Am
