/- What is behind: of both. No condition. -/
import Derived.Test.YtblhppnhiaombaaGreatT
import Derived.Test.YtblhppnhiaombaaGreatD
import Derived.Test.YtblhppnhiaombaaGreatE58
import Derived.Test.YtblhppnhiaombaaGreatAm31
namespace Am
open Go Go.Proofs
open Cel (cells)
set_option maxRecDepth 100000
set_option linter.unusedSimpArgs false
set_option linter.unusedVariables false

def behind (a b : GState) : Bool := stateOk a && (stateOk b && decide (mergeState a b = b))
theorem mergeState_ok {a b : GState} (ha : a.Ok) (hb : b.Ok) : (mergeState a b).Ok := by
  unfold mergeState
  split
  · rename_i h
    simp only [Bool.and_eq_true] at h
    split
    · exact mergeRaw_ok ha hb h.1 h.2
    · exact ha
  · exact ha

@[simp] def h194 : Hts := { merge := fun _ => false, mergeF := fun _ => false, dr := fun id => if id = 1 then [{}, { cr := true }, {}, {}, { cr := true }, {}, {}, {}, {}, { cr := true }, { mb := [14] }, { cr := true }, {}, {}] else [] }
set_option maxHeartbeats 4000000 in
theorem f194_ok (a b : GState) (ha : a.Ok) (hb : b.Ok) : FnR Tryz.prog 194 [.agg [.im a.know.length (flat a.know), .im a.tallies.length (flat a.tallies), .im a.lives.length (flat a.lives), .im a.cs.length (flat a.cs)], .agg [.im b.know.length (flat b.know), .im b.tallies.length (flat b.tallies), .im b.lives.length (flat b.lives), .im b.cs.length (flat b.cs)]] (.v (.bool (behind a b))) := by
  refine FnW.of_AW TryzT_ok 0 (fn := Tryz.f194) (by kernel_rfl) rfl (by kernel_rfl) rfl rfl rfl ?_
  refine AW_of h194 TryzT_ok (by kernel_rfl) ?_
  simp -dsimp
  refine ACallK_of (f132_ok _ ha) ?_
  rw [stateOkS_eq]
  cases ka : stateOk a
  · simp -dsimp
    simp [behind, ka]
  simp -dsimp
  refine ACallK_of (f132_ok _ hb) ?_
  rw [stateOkS_eq]
  cases kb : stateOk b
  · simp -dsimp
    simp [behind, kb]
  simp -dsimp
  refine ACallK_of (f78_ok _ _ ha hb) ?_
  simp -dsimp
  refine ACallK_of (f90_ok (mergeState a b) b (mergeState_ok ha hb)) ?_
  simp -dsimp
  simp [behind, ka, kb]

@[simp] def h248 : Hts := { merge := fun _ => false, mergeF := fun _ => false, dr := fun id => if id = 1 then [{}, { cr := true }, {}, {}, { cr := true }, {}, {}, {}, {}, { cr := true }, { mb := [14] }, { cr := true }, {}, {}] else [] }
set_option maxHeartbeats 4000000 in
theorem f248_ok (a b : GState) (ha : a.Ok) (hb : b.Ok) : FnR Tryz.prog 248 [.agg [.im a.know.length (flat a.know), .im a.tallies.length (flat a.tallies), .im a.lives.length (flat a.lives), .im a.cs.length (flat a.cs)], .agg [.im b.know.length (flat b.know), .im b.tallies.length (flat b.tallies), .im b.lives.length (flat b.lives), .im b.cs.length (flat b.cs)]] (.v (.bool (behind a b))) := by
  refine FnW.of_AW TryzT_ok 0 (fn := Tryz.f248) (by kernel_rfl) rfl (by kernel_rfl) rfl rfl rfl ?_
  refine AW_of h248 TryzT_ok (by kernel_rfl) ?_
  simp -dsimp
  refine ACallK_of (f145_ok _ ha) ?_
  rw [stateOkM_eq]
  cases ka : stateOk a
  · simp -dsimp
    simp [behind, ka]
  simp -dsimp
  refine ACallK_of (f145_ok _ hb) ?_
  rw [stateOkM_eq]
  cases kb : stateOk b
  · simp -dsimp
    simp [behind, kb]
  simp -dsimp
  refine ACallK_of (f82_ok _ _ ha hb) ?_
  simp -dsimp
  refine ACallK_of (f94_ok (mergeState a b) b (mergeState_ok ha hb)) ?_
  simp -dsimp
  simp [behind, ka, kb]
end Am
