/- What is behind: of both. No condition. -/
import Derived.Test.YtkkaogfjlbigmaaGreatT
import Derived.Test.YtkkaogfjlbigmaaGreatD
import Derived.Test.YtkkaogfjlbigmaaGreatE58
import Derived.Test.YtkkaogfjlbigmaaGreatAm31
namespace Am
open Go Go.Proofs
open Cel (cells)
set_option maxRecDepth 100000
set_option linter.unusedSimpArgs false
set_option linter.unusedVariables false

def behind (a b : GState) : Bool := stateOk a && (stateOk b && decide (mergeState a b = b))
theorem mergeState_ok {a b : GState} (ha : a.Ok) (hb : b.Ok) : (mergeState a b).Ok := by
  unfold mergeState
  split
  · rename_i h
    simp only [Bool.and_eq_true] at h
    split
    · exact mergeRaw_ok ha hb h.1 h.2
    · exact ha
  · exact ha

@[simp] def h95 : Hts := { merge := fun _ => false, mergeF := fun _ => false, dr := fun id => if id = 1 then [{}, { cr := true }, {}, {}, { cr := true }, {}, {}, {}, {}, { cr := true }, { mb := [14] }, { cr := true }, {}, {}] else [] }
set_option maxHeartbeats 4000000 in
theorem f95_ok (a b : GState) (ha : a.Ok) (hb : b.Ok) : FnR Tryz.prog 95 [.agg [.im a.know.length (flat a.know), .im a.tallies.length (flat a.tallies), .im a.lives.length (flat a.lives), .im a.cs.length (flat a.cs)], .agg [.im b.know.length (flat b.know), .im b.tallies.length (flat b.tallies), .im b.lives.length (flat b.lives), .im b.cs.length (flat b.cs)]] (.v (.bool (behind a b))) := by
  refine FnW.of_AW TryzT_ok 0 (fn := Tryz.f95) (by kernel_rfl) rfl (by kernel_rfl) rfl rfl rfl ?_; refine AW_of h95 TryzT_ok (by kernel_rfl) ?_
  simp -dsimp
  refine ACallK_of (f32_ok _ ha) ?_
  rw [stateOkS_eq]
  cases ka : stateOk a
  · simp -dsimp
    simp [behind, ka]
  simp -dsimp
  refine ACallK_of (f32_ok _ hb) ?_
  rw [stateOkS_eq]
  cases kb : stateOk b
  · simp -dsimp
    simp [behind, kb]
  simp -dsimp
  refine ACallK_of (f115_ok _ _ ha hb) ?_
  simp -dsimp
  refine ACallK_of (f114_ok (mergeState a b) b (mergeState_ok ha hb)) ?_
  simp -dsimp
  simp [behind, ka, kb]

@[simp] def h117 : Hts := { merge := fun _ => false, mergeF := fun _ => false, dr := fun id => if id = 1 then [{}, { cr := true }, {}, {}, { cr := true }, {}, {}, {}, {}, { cr := true }, { mb := [14] }, { cr := true }, {}, {}] else [] }
set_option maxHeartbeats 4000000 in
theorem f117_ok (a b : GState) (ha : a.Ok) (hb : b.Ok) : FnR Tryz.prog 117 [.agg [.im a.know.length (flat a.know), .im a.tallies.length (flat a.tallies), .im a.lives.length (flat a.lives), .im a.cs.length (flat a.cs)], .agg [.im b.know.length (flat b.know), .im b.tallies.length (flat b.tallies), .im b.lives.length (flat b.lives), .im b.cs.length (flat b.cs)]] (.v (.bool (behind a b))) := by
  refine FnW.of_AW TryzT_ok 0 (fn := Tryz.f117) (by kernel_rfl) rfl (by kernel_rfl) rfl rfl rfl ?_; refine AW_of h117 TryzT_ok (by kernel_rfl) ?_
  simp -dsimp
  refine ACallK_of (f42_ok _ ha) ?_
  rw [stateOkM_eq]
  cases ka : stateOk a
  · simp -dsimp
    simp [behind, ka]
  simp -dsimp
  refine ACallK_of (f42_ok _ hb) ?_
  rw [stateOkM_eq]
  cases kb : stateOk b
  · simp -dsimp
    simp [behind, kb]
  simp -dsimp
  refine ACallK_of (f136_ok _ _ ha hb) ?_
  simp -dsimp
  refine ACallK_of (f135_ok (mergeState a b) b (mergeState_ok ha hb)) ?_
  simp -dsimp
  simp [behind, ka, kb]
end Am
