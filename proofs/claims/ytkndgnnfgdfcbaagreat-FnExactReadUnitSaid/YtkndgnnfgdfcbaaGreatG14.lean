/- ReadUnit: the law. No condition. -/
import Derived.Test.YtkndgnnfgdfcbaaGreatT
import Derived.Test.YtkndgnnfgdfcbaaGreatF1
import Derived.Test.YtkndgnnfgdfcbaaGreatF2
import Derived.Test.YtkndgnnfgdfcbaaGreatE29
import Derived.Test.YtkndgnnfgdfcbaaGreatE41
namespace Am
open Go Go.Proofs
set_option linter.unusedSimpArgs false
set_option linter.unusedVariables false

theorem rdUnM_Ok (t : ByteArray) : (rdUnM t).1.Ok := by
  have hz : (GUnit.empty).Ok := ⟨by simp [GUnit.empty, zeroAct, GAct.Ok]; decide, by simp [GUnit.empty, zeroDelta, GDelta.Ok]⟩
  unfold rdUnM
  split
  · split
    · split
      · exact ⟨rdAct_Ok _ _, by simp [zeroDelta, GDelta.Ok]⟩
      · exact hz
    · split
      · split
        · exact ⟨by simp [zeroAct, GAct.Ok]; decide, rdDlM_Ok _⟩
        · exact hz
      · exact hz
  · exact hz

@[simp] def h5 : Hts := { lend := fun f => if f = 25 then [.lend] else [] }
set_option maxHeartbeats 2000000 in
theorem f5_ok (t : ByteArray) (hd : t.size ≤ 9223372036854775807) : FnR Tryz.prog 5 [.v (.str t)] (.v (.bool true)) := by
  refine FnW.of_AW TryzT_ok 0 (fn := Tryz.f5) (by kernel_rfl) rfl (by kernel_rfl) rfl rfl rfl ?_
  refine AW_of h5 TryzT_ok (by kernel_rfl) ?_
  simp -dsimp
  refine fun hs => ?_
  have ht : t.size ≤ 1073741824 := by omega
  have ho := rdUnM_Ok t
  have b1 := GUnit.mt_ub (rdUnM t).1 ho 1
  have l1 := GUnit.mt_le (rdUnM t).1 1 (by omega)
  refine ACallK_of (f23_ok _ ht) ?_
  rw [rdUn_eq]
  simp -dsimp
  refine ACallK_of (f24_ok _ ht) ?_
  have hq := f24_ok t ht
  generalize rdUnM t = R at *
  simp -dsimp
  refine ACallK_of (f10_ok _ _ ho) ?_
  simp -dsimp
  refine ACallW_args (by intro us; simp -dsimp; exact ⟨rfl, rfl, rfl⟩) ?_
  refine ACallC_of (fun us => f25_ok _ _ ho (by omega) (by omega)) (by intro us; simp -dsimp; exact ⟨rfl, rfl⟩) ?_
  have m0 : ¬ (R.1.mt 1).2 < 0 := by omega
  have m1 : 0 ≤ (R.1.mt 1).2 := by omega
  simp -dsimp [m0, m1]
  repeat (first | refine ⟨by omega, ?_⟩ | refine fun _ => ?_)
  refine ACallK_of (f26_ok _ _ ho (by omega) (by omega)) ?_
  simp -dsimp [m0, m1]
  repeat (first | refine ⟨by omega, ?_⟩ | refine fun _ => ?_)
  refine ACallK_of hq ?_
  simp -dsimp [m0, m1]
  refine ACallK_of (f10_ok _ _ ho) ?_
  simp -dsimp [m0, m1]
  refine ACallK_of (f26_ok _ _ ho (by omega) (by omega)) ?_
  simp -dsimp [m0, m1]
end Am
