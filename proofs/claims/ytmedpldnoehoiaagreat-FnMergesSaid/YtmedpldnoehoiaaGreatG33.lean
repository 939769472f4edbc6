/- Two become one: the law. No condition. -/
import Derived.Test.YtmedpldnoehoiaaGreatT
import Derived.Test.YtmedpldnoehoiaaGreatD
import Derived.Test.YtmedpldnoehoiaaGreatV7
import Derived.Test.YtmedpldnoehoiaaGreatE56
import Derived.Test.YtmedpldnoehoiaaGreatE93a
namespace Am
open Go Go.Proofs
open Cel (cells)
set_option maxRecDepth 100000
set_option linter.unusedSimpArgs false
set_option linter.unusedVariables false

@[simp] def h3 : Hts := { merge := fun _ => false, mergeF := fun _ => false, dr := fun id => if id = 5 then [{}, { cr := true }, {}, { mb := [24] }, {}, {}, { cr := true }, { cr := true }, {}, {}, {}, {}, { cr := true }, { mb := [30] }, { cr := true }, {}, {}, {}, {}, { cr := true }, { mb := [37] }, { cr := true }, {}, {}, {}, {}, { cr := true }, {}, {}, {}, {}, { cr := true }, {}, {}, {}, {}, { cr := true }, {}, {}, {}, {}, { cr := true }, { mb := [59] }, { cr := true }, { mb := [59, 61] }, { cr := true }, {}, {}, { mb := [72] }, { mb := [72] }, {}, {}, {}, {}, { cr := true }, { cr := true }, {}, {}] else [] }
set_option maxHeartbeats 8000000 in
theorem f3_ok (b : List UInt8) (hb0 : b.length ≤ 9223372036854775807) : FnR Tryz.prog 3 [.v (.im b.length (flat b))] (.v (.bool true)) := by
  refine FnW.of_AW TryzT_ok 0 (fn := Tryz.f3) (by kernel_rfl) rfl (by kernel_rfl) rfl rfl rfl ?_; refine AW_of h3 TryzT_ok (by kernel_rfl) ?_
  simp -dsimp
  refine ACallK_of (f9_ok b) ?_
  by_cases hb : 1048576 < b.length
  · simp -dsimp [hb]
  have hb : b.length ≤ 1048576 := by omega
  have hb' : ¬ 1048576 < b.length := by omega
  simp -dsimp [hb']
  refine ACallK_of (f10_ok b hb) ?_
  obtain ⟨D0, D1, D2, h2⟩ := two_is (curNew b)
  generalize (twoP (curNew b)).1 = p at *
  generalize (twoA (curNew b)).1 = s at *
  generalize (twoB (curNew b)).1 = t at *
  obtain ⟨m1, m2, m3, m4, m5, m6, m7, m8, m9⟩ := two_merges h2
  have op := sok_Ok h2.c0.sok
  have os := sok_Ok h2.c1.sok
  have ot := sok_Ok h2.c2.sok
  have om := sok_Ok (sok_of m1)
  have om2 := om
  have os2 := os
  have ot2 := ot
  simp only [GState.Ok] at om2 os2 ot2
  simp -dsimp
  refine ACallK_of (f11_ok s t os ot) ?_
  simp -dsimp
  refine ACallK_of (f12_ok (mergeState s t) om) ?_
  rw [stateOkM_eq, m1]
  simp -dsimp
  refine ACallK_of (f11_ok t s ot os) ?_
  rw [m2]
  generalize hm : mergeState s t = m at *
  simp -dsimp
  refine ACallK_of (f13_ok m m om) ?_
  simp -dsimp
  refine ACallK_of (f11_ok m s om os) ?_
  rw [m3]
  simp -dsimp
  refine ACallK_of (f13_ok m m om) ?_
  simp -dsimp
  refine ACallK_of (f11_ok s s os os) ?_
  rw [m4]
  simp -dsimp
  refine ACallK_of (f13_ok s s os) ?_
  simp -dsimp
  refine ACallK_of (f14_ok s m os om) ?_
  rw [m5]
  simp -dsimp
  refine ACallK_of (f14_ok t m ot om) ?_
  rw [m6]
  simp -dsimp
  refine ACallK_of (f14_ok p s op os) ?_
  rw [m7]
  simp -dsimp
  refine ACallK_of (f11_ok p s op os) ?_
  rw [m8]
  simp -dsimp
  refine ACallK_of (f11_ok s t os ot) ?_
  rw [hm]
  simp -dsimp
  refine ACallK_of (f13_ok m m om) ?_
  simp -dsimp
  refine ACallK_of (f16_ok s.know t.know (by omega) (by omega)) ?_
  rw [← m9]
  simp -dsimp
  refine ACallK_of (f15_ok m.know (by omega)) ?_
  simp -dsimp
end Am
