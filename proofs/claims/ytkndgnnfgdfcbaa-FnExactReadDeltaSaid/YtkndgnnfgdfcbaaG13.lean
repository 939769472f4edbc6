/- ReadDelta: the law. No condition. -/
import Derived.Test.YtkndgnnfgdfcbaaT
import Derived.Test.YtkndgnnfgdfcbaaF1
import Derived.Test.YtkndgnnfgdfcbaaF2
import Derived.Test.YtkndgnnfgdfcbaaE28
import Derived.Test.YtkndgnnfgdfcbaaE37
namespace Am
open Go Go.Proofs
set_option linter.unusedSimpArgs false
set_option linter.unusedVariables false

theorem rdDlM_Ok (t : ByteArray) : (rdDlM t).1.Ok := by
  unfold rdDlM resDM
  split
  · exact dlM_Ok _
  · simp [GDelta.empty, GDelta.Ok]

@[simp] def h5 : Hts := { lend := fun f => if f = 23 then [.lend] else [] }
set_option maxHeartbeats 2000000 in
theorem f5_ok (t : ByteArray) (hd : t.size ≤ 9223372036854775807) : FnR Try.prog 5 [.v (.str t)] (.v (.bool true)) := by
  refine FnW.of_AW TryT_ok 0 (fn := Try.f5) (by kernel_rfl) rfl (by kernel_rfl) rfl rfl rfl ?_
  refine AW_of h5 TryT_ok (by kernel_rfl) ?_
  simp -dsimp
  refine fun hs => ?_
  have ht : t.size ≤ 1073741824 := by omega
  have ho := rdDlM_Ok t
  have b1 := GDelta.mt_ub (rdDlM t).1 ho 1
  have l1 := GDelta.mt_le (rdDlM t).1 1 (by omega)
  refine ACallK_of (f20_ok _ ht) ?_
  rw [rdDl_eq]
  simp -dsimp
  refine ACallK_of (f21_ok _ ht) ?_
  have hq := f21_ok t ht
  generalize rdDlM t = R at *
  simp -dsimp
  refine ACallK_of (f22_ok _ _ ho) ?_
  simp -dsimp
  refine ACallW_args (by intro us; simp -dsimp; exact ⟨rfl, rfl, rfl⟩) ?_
  refine ACallC_of (fun us => f23_ok _ _ ho (by omega) (by omega)) (by intro us; simp -dsimp; exact ⟨rfl, rfl⟩) ?_
  have m0 : ¬ (R.1.mt 1).2 < 0 := by omega
  have m1 : 0 ≤ (R.1.mt 1).2 := by omega
  simp -dsimp [m0, m1]
  repeat (first | refine ⟨by omega, ?_⟩ | refine fun _ => ?_)
  refine ACallK_of (f24_ok _ _ ho (by omega) (by omega)) ?_
  simp -dsimp [m0, m1]
  repeat (first | refine ⟨by omega, ?_⟩ | refine fun _ => ?_)
  refine ACallK_of hq ?_
  simp -dsimp [m0, m1]
  refine ACallK_of (f22_ok _ _ ho) ?_
  simp -dsimp [m0, m1]
  refine ACallK_of (f24_ok _ _ ho (by omega) (by omega)) ?_
  simp -dsimp [m0, m1]
end Am
