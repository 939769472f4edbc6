/- RowOf: the law. No condition. -/
import Derived.Test.YtkkaogfjlbigmaaT
import Derived.Test.YtkkaogfjlbigmaaF1
import Derived.Test.YtkkaogfjlbigmaaF2
import Derived.Test.YtkkaogfjlbigmaaG0
import Derived.Test.YtkkaogfjlbigmaaE75
namespace Am
open Go Go.Proofs
set_option linter.unusedSimpArgs false
set_option linter.unusedVariables false

@[simp] def h5 : Hts := { lend := fun f => if f = 15 then [.lend] else if f = 21 then [.lend] else [], dr := fun id => if id = 12 then [{ mb := [36] }, {}, { cr := true }, { cr := true }, {}] else [] }
set_option maxHeartbeats 2000000 in
theorem f5_ok (a : GState) (o : ByteArray) (hda : a.Fit) (hdo : o.size ≤ 9223372036854775807) : FnR Try.prog 5 [.agg [.im a.know.length (flat a.know), .im a.tallies.length (flat a.tallies), .im a.lives.length (flat a.lives), .im a.cs.length (flat a.cs)], .v (.str o)] (.v (.bool true)) := by
  refine FnW.of_AW TryT_ok 0 (fn := Try.f5) (by kernel_rfl) rfl (by kernel_rfl) rfl rfl rfl ?_; refine AW_of h5 TryT_ok (by kernel_rfl) ?_
  simp -dsimp
  intro hzo
  refine ACallK_of (f6_ok _ _ hda (by omega) (by omega)) ?_
  simp -dsimp
  refine fun hsa => ?_
  have hoa := GState.sz_ok (by omega) (by omega) hsa
  have hqa := GState.sz_le a 1048576 (by omega)
  have hw0 : (rowOf a o).length ≤ 120 := by have := rowLive_len a o; simpa [rowOf] using this
  have hw : (rowOf a o).length ≤ 1073741824 := by omega
  have b1 := GState.mt_ub a hoa 1
  have l1 := GState.mt_le a 1 (by omega)
  have b2 := mkS_ub (f := mkInt) (c := 1) (fun x k => by simp [mkInt]) (rowOf a o) 1
  have l2 := mkS_le mkInt_le (rowOf a o) 1 (by omega)
  refine ACallK_of (f8_ok _ hoa) ?_
  simp -dsimp
  refine ACallK_of (f18_ok _ _ hoa) ?_
  simp -dsimp
  refine ACallK_of (f8_ok _ hoa) ?_
  simp -dsimp
  refine ACallK_of (f19_ok _ _ hoa) ?_
  simp -dsimp
  refine ACallK_of (f20_ok _ _ hw) ?_
  simp -dsimp
  refine ACallK_of (f8_ok _ hoa) ?_
  simp -dsimp
  refine ACallK_of (f11_ok _ _ hoa) ?_
  simp -dsimp
  refine ACallW_args (by intro us; simp -dsimp; exact ⟨rfl, rfl, rfl⟩) ?_
  refine ACallC_of (fun us => f15_ok _ _ hoa (by omega) (by omega)) (by intro us; simp -dsimp; exact ⟨rfl, rfl⟩) ?_
  have na : ¬ (a.mt 1).2 < 0 := by omega
  have pa : 0 ≤ (a.mt 1).2 := by omega
  simp -dsimp [na, pa]
  repeat (first | refine ⟨by omega, ?_⟩ | refine ⟨⟨by omega, by omega⟩, ?_⟩ | refine fun _ => ?_)
  refine ACallK_of (f20_ok _ _ hw) ?_
  simp -dsimp [na, pa]
  repeat (first | refine ⟨by omega, ?_⟩ | refine ⟨⟨by omega, by omega⟩, ?_⟩ | refine fun _ => ?_)
  refine ACallW_args (by intro us; simp -dsimp; exact ⟨rfl, rfl, rfl⟩) ?_
  refine ACallC_of (fun us => f21_ok _ _ hw (by omega) (by omega)) (by intro us; simp -dsimp; exact ⟨rfl, rfl⟩) ?_
  have r0 : ¬ (mkS mkInt (rowOf a o) 1).2 < 0 := by omega
  have s0 : 0 ≤ (mkS mkInt (rowOf a o) 1).2 := by omega
  simp -dsimp [na, pa, r0, s0]
  repeat (first | refine ⟨by omega, ?_⟩ | refine ⟨⟨by omega, by omega⟩, ?_⟩ | refine fun _ => ?_)
  refine ACallK_of (f22_ok _ _ hw (by omega) (by omega)) ?_
  simp -dsimp [na, pa, r0, s0]
  repeat (first | refine ⟨by omega, ?_⟩ | refine ⟨⟨by omega, by omega⟩, ?_⟩ | refine fun _ => ?_)
  refine ACallK_of (f8_ok _ hoa) ?_
  simp -dsimp
  refine ACallK_of (f19_ok _ _ hoa) ?_
  simp -dsimp [na, pa, r0, s0]
  refine ACallK_of (f20_ok _ _ hw) ?_
  simp -dsimp [na, pa, r0, s0]
  repeat (first | refine ⟨by omega, ?_⟩ | refine ⟨⟨by omega, by omega⟩, ?_⟩ | refine fun _ => ?_)
  refine ACallK_of (f22_ok _ _ hw (by omega) (by omega)) ?_
  simp -dsimp [na, pa, r0, s0]
  repeat (first | refine ⟨by omega, ?_⟩ | refine ⟨⟨by omega, by omega⟩, ?_⟩ | refine fun _ => ?_)
end Am
