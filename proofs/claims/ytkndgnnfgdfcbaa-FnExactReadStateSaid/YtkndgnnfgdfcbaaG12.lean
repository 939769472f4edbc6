/- ReadState: the law. No condition. -/
import Derived.Test.YtkndgnnfgdfcbaaT
import Derived.Test.YtkndgnnfgdfcbaaF1
import Derived.Test.YtkndgnnfgdfcbaaF2
import Derived.Test.YtkndgnnfgdfcbaaE27
import Derived.Test.YtkndgnnfgdfcbaaE36
namespace Am
open Go Go.Proofs
set_option linter.unusedSimpArgs false
set_option linter.unusedVariables false

theorem rdStM_Ok (t : ByteArray) : (rdStM t).1.Ok := by
  unfold rdStM resM
  split
  · exact stM_Ok _
  · simp [GState.empty, GState.Ok]

@[simp] def h4 : Hts := { lend := fun f => if f = 18 then [.lend] else [] }
set_option maxHeartbeats 2000000 in
theorem f4_ok (t : ByteArray) (hd : t.size ≤ 9223372036854775807) : FnR Try.prog 4 [.v (.str t)] (.v (.bool true)) := by
  refine FnW.of_AW TryT_ok 0 (fn := Try.f4) (by kernel_rfl) rfl (by kernel_rfl) rfl rfl rfl ?_
  refine AW_of h4 TryT_ok (by kernel_rfl) ?_
  simp -dsimp
  refine fun hs => ?_
  have ht : t.size ≤ 1073741824 := by omega
  have ho := rdStM_Ok t
  have b1 := GState.mt_ub (rdStM t).1 ho 1
  have l1 := GState.mt_le (rdStM t).1 1 (by omega)
  refine ACallK_of (f15_ok _ ht) ?_
  rw [rdSt_eq]
  simp -dsimp
  refine ACallK_of (f16_ok _ ht) ?_
  have hq := f16_ok t ht
  generalize rdStM t = R at *
  simp -dsimp
  refine ACallK_of (f17_ok _ _ ho) ?_
  simp -dsimp
  refine ACallW_args (by intro us; simp -dsimp; exact ⟨rfl, rfl, rfl⟩) ?_
  refine ACallC_of (fun us => f18_ok _ _ ho (by omega) (by omega)) (by intro us; simp -dsimp; exact ⟨rfl, rfl⟩) ?_
  have m0 : ¬ (R.1.mt 1).2 < 0 := by omega
  have m1 : 0 ≤ (R.1.mt 1).2 := by omega
  simp -dsimp [m0, m1]
  repeat (first | refine ⟨by omega, ?_⟩ | refine fun _ => ?_)
  refine ACallK_of (f19_ok _ _ ho (by omega) (by omega)) ?_
  simp -dsimp [m0, m1]
  repeat (first | refine ⟨by omega, ?_⟩ | refine fun _ => ?_)
  refine ACallK_of hq ?_
  simp -dsimp [m0, m1]
  refine ACallK_of (f17_ok _ _ ho) ?_
  simp -dsimp [m0, m1]
  refine ACallK_of (f19_ok _ _ ho (by omega) (by omega)) ?_
  simp -dsimp [m0, m1]
end Am
