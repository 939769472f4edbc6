/- What changed: the law. No condition. -/
import Derived.Test.YtmedpldnoehoiaaGreatT
import Derived.Test.YtmedpldnoehoiaaGreatD
import Derived.Test.YtmedpldnoehoiaaGreatV7
import Derived.Test.YtmedpldnoehoiaaGreatU21
import Derived.Test.YtmedpldnoehoiaaGreatE56
import Derived.Test.YtmedpldnoehoiaaGreatE9
import Derived.Test.YtmedpldnoehoiaaGreatE63
import Derived.Test.YtmedpldnoehoiaaGreatE93a
namespace Am
open Go Go.Proofs
open Cel (cells)
set_option maxRecDepth 100000
set_option linter.unusedSimpArgs false
set_option linter.unusedVariables false

@[simp] def h5 : Hts := { merge := fun _ => false, mergeF := fun _ => false, dr := fun id => if id = 14 then [{}, {}, {}, {}, {}, { cr := true }, {}, {}, {}, {}, {}, {}, { mb := [88] }, {}, {}, { cr := true }, { cr := true }, {}, {}, {}, {}, {}, {}, {}, {}, { cr := true }, {}, {}] else [] }
set_option maxHeartbeats 8000000 in
theorem f5_ok (b : List UInt8) (hb0 : b.length ≤ 9223372036854775807) : FnR Tryz.prog 5 [.v (.im b.length (flat b))] (.v (.bool true)) := by
  refine FnW.of_AW TryzT_ok 0 (fn := Tryz.f5) (by kernel_rfl) rfl (by kernel_rfl) rfl rfl rfl ?_; refine AW_of h5 TryzT_ok (by kernel_rfl) ?_
  simp -dsimp
  refine ACallK_of (f9_ok b) ?_
  by_cases hb : 1048576 < b.length
  · simp -dsimp [hb]
  have hb : b.length ≤ 1048576 := by omega
  have hb' : ¬ 1048576 < b.length := by omega
  simp -dsimp [hb']
  refine ACallK_of (f10_ok b hb) ?_
  obtain ⟨D0, D1, D2, h2⟩ := two_is (curNew b)
  generalize (twoP (curNew b)).1 = p at *
  generalize (twoA (curNew b)).1 = s at *
  generalize (twoB (curNew b)).1 = t at *
  obtain ⟨m1, m2, m3, m4, m5, m6⟩ := two_deltas h2
  have op := sok_Ok h2.c0.sok
  have os := sok_Ok h2.c1.sok
  have ot := sok_Ok h2.c2.sok
  have om := sok_Ok m6
  have od := deltaOf_ok op os
  rw [m1] at od
  simp only at od
  simp -dsimp
  refine ACallK_of (f28_ok p s op os) ?_
  rw [m1]
  simp -dsimp
  refine ACallK_of (f29_ok p (deltaRaw p s) op od) ?_
  simp -dsimp
  refine ACallK_of (f29_ok t (deltaRaw p s) ot od) ?_
  simp -dsimp
  refine ACallK_of (f28_ok s p os op) ?_
  rw [m3]
  simp -dsimp
  refine ACallK_of (f13_ok s p os) ?_
  simp -dsimp
  refine ACallK_of (f30_ok (deltaRaw p s) od) ?_
  rw [m2]
  by_cases e : s = p
  · rw [m4 e]
    simp -dsimp [e]
  obtain ⟨d1, d2, d3⟩ := m5 e
  rw [d1, d2]
  simp -dsimp [e]
  refine ACallK_of (f29_ok (mergeState t s) (deltaRaw p s) om od) ?_
  rw [d3]
  generalize hm : mergeState t s = m at *
  simp -dsimp
  refine ACallK_of (f13_ok s s os) ?_
  simp -dsimp
  refine ACallK_of (f26_ok t s ot os) ?_
  rw [hm]
  simp -dsimp
  refine ACallK_of (f13_ok m m om) ?_
  simp -dsimp
  refine ACallK_of (f13_ok m m om) ?_
  simp -dsimp
end Am
