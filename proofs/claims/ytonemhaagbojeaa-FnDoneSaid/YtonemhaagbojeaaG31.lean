/- Acts done: the law. No condition. -/
import Derived.Test.YtonemhaagbojeaaT
import Derived.Test.YtonemhaagbojeaaD
import Derived.Test.YtonemhaagbojeaaV7
import Derived.Test.YtonemhaagbojeaaE56
import Derived.Test.YtonemhaagbojeaaG30
namespace Am
open Go Go.Proofs
open Cel (cells)
set_option maxRecDepth 100000
set_option linter.unusedSimpArgs false
set_option linter.unusedVariables false

theorem drawSettled_Ok {b : List UInt8} (hb : b.length ≤ 1048576) : (∀ a, a ∈ drawSettled b → a.Ok) ∧ (drawSettled b).length ≤ 8 := by
  have hA := actsK_ok (curNew_ok hb) 8
  refine ⟨fun a ha => hA.o a (shufK_mem _ (Nat.le_refl _) a ha), ?_⟩
  show (shufK _ _ _).1.length ≤ 8
  rw [shufK_len]; exact hA.n
@[simp] theorem act_frzs (l : List GAct) : frzs (flat l) = flat l := flat_frz (fun _ => by simp [Cel.cells, frzs, frz]) l
@[simp] def h4 : Hts := { merge := fun _ => false, mergeF := fun _ => false }
set_option maxHeartbeats 8000000 in
theorem f4_ok (b : List UInt8) (hb0 : b.length ≤ 9223372036854775807) : FnR Try.prog 4 [.v (.im b.length (flat b))] (.v (.bool true)) := by
  refine FnW.of_AW TryT_ok 0 (fn := Try.f4) (by kernel_rfl) rfl (by kernel_rfl) rfl rfl rfl ?_; refine AW_of h4 TryT_ok (by kernel_rfl) ?_
  simp -dsimp
  refine ACallK_of (f6_ok b) ?_
  by_cases hb : 1048576 < b.length
  · simp -dsimp [hb]
  have hb : b.length ≤ 1048576 := by omega
  have hb' : ¬ 1048576 < b.length := by omega
  simp -dsimp [hb']
  refine ACallK_of (f24_ok b hb) ?_
  have hsO := doS_Ok b
  have haO := doA_Ok b
  generalize (doS b).1 = s at *
  generalize doA b = a at *
  simp -dsimp
  refine ACallK_of (f25_ok s a hsO haO) ?_
  simp -dsimp
  refine ACallK_of (f26_ok s a hsO haO) ?_
  simp -dsimp
  refine ACallK_of (f27_ok b hb) ?_
  obtain ⟨hl, hn⟩ := drawSettled_Ok hb
  generalize drawSettled b = l at *
  simp -dsimp
  refine ACallK_of (f28_ok l hl (by omega)) ?_
  simp -dsimp
  refine ACallK_of (f29_ok l hl (by omega)) ?_
  have hZ : (settled l).1.Ok := roundK_Ok hl _
  generalize settled l = z at *
  simp -dsimp
  have hT : (doAct s a).1.Ok := doAct_okW hsO haO
  refine ACallK_of (f18_ok (doAct s a).1 (doAct s a).1 hT) ?_
  simp -dsimp
  refine ACallK_of (f18_ok z.1 z.1 hZ) ?_
  by_cases q : (doAct s a).2 = 0
  · obtain ⟨h1, h2, h3, h4⟩ := doAct_again q
    have hT2 := hT
    have hsO2 := hsO
    simp only [GState.Ok] at hT2 hsO2
    simp -dsimp [q]
    refine ACallK_of (f25_ok (doAct s a).1 a hT haO) ?_
    rw [h4]
    simp -dsimp
    refine ACallK_of (f18_ok (doAct s a).1 (doAct s a).1 hT) ?_
    simp -dsimp
    refine ACallK_of (f30_ok (doAct s a).1.know a.dot (by omega)) ?_
    rw [h2]
    simp -dsimp
    refine ACallK_of (f30_ok s.know a.dot (by omega)) ?_
    rw [h1]
    simp -dsimp
    refine ACallK_of (f19_ok (doAct s a).1 hT) ?_
    rw [stateOkS_eq, h3]
    simp -dsimp
  · have e := doAct_same q
    simp -dsimp [q]
    refine ACallK_of (f18_ok (doAct s a).1 s hT) ?_
    rw [e]
    simp -dsimp
end Am
