/- MergeState: the law. No condition. -/
import Derived.Test.YtpgnllakcjajjaaGreatT
import Derived.Test.YtpgnllakcjajjaaGreatF1
import Derived.Test.YtpgnllakcjajjaaGreatF2
import Derived.Test.YtpgnllakcjajjaaGreatG0
import Derived.Test.YtpgnllakcjajjaaGreatE57
namespace Am
open Go Go.Proofs
set_option linter.unusedSimpArgs false
set_option linter.unusedVariables false

theorem mergeState_ok {a b : GState} (ha : a.Ok) (hb : b.Ok) : (mergeState a b).Ok := by
  unfold mergeState
  split
  · rename_i h
    simp only [Bool.and_eq_true] at h
    split
    · exact mergeRaw_ok ha hb h.1 h.2
    · exact ha
  · exact ha

@[simp] def h3 : Hts := { lend := fun f => if f = 14 then [.lend] else [], dr := fun id => if id = 8 then [{ mb := [6] }, { cr := true, mb := [6] }, { mb := [25, 6] }, { cr := true, mb := [6] }, { cr := true, mb := [6] }, { cr := true, mb := [25, 27, 28] }, { wr := [384] }] else if id = 14 then [{ mb := [42] }, {}, { cr := true }, { cr := true }, {}] else if id = 16 then [{ mb := [47] }, {}, { cr := true }, { cr := true }, {}] else if id = 31 then [{ mb := [13] }, { cr := true, mb := [13] }, { mb := [76, 13] }, { cr := true, mb := [13] }, { cr := true, mb := [13] }, { cr := true, mb := [76, 78, 79] }, { wr := [832] }] else [] }
set_option maxHeartbeats 2000000 in
theorem f3_ok (a : GState) (b : GState) (hda : a.Fit) (hdb : b.Fit) : FnR Tryz.prog 3 [.agg [.im a.know.length (flat a.know), .im a.tallies.length (flat a.tallies), .im a.lives.length (flat a.lives), .im a.cs.length (flat a.cs)], .agg [.im b.know.length (flat b.know), .im b.tallies.length (flat b.tallies), .im b.lives.length (flat b.lives), .im b.cs.length (flat b.cs)]] (.v (.bool true)) := by
  refine FnW.of_AW TryzT_ok 0 (fn := Tryz.f3) (by kernel_rfl) rfl (by kernel_rfl) rfl rfl rfl ?_
  refine AW_of h3 TryzT_ok (by kernel_rfl) ?_
  simp -dsimp
  refine ACallK_of (f9_ok _ _ hda (by omega) (by omega)) ?_
  simp -dsimp
  refine fun hsa => ?_
  have hoa := GState.sz_ok (by omega) (by omega) hsa
  have hqa := GState.sz_le a 1048576 (by omega)
  refine ACallK_of (f9_ok _ _ hdb (by omega) (by omega)) ?_
  simp -dsimp
  refine fun hsb => ?_
  have hob := GState.sz_ok (by omega) (by omega) hsb
  have hqb := GState.sz_le b (a.sz 1048576) (by omega)
  have hw := mergeState_ok hoa hob
  have b1 := GState.mt_ub a hoa 1
  have l1 := GState.mt_le a 1 (by omega)
  have b2 := GState.mt_ub b hob (a.mt 1).2
  have l2 := GState.mt_le b (a.mt 1).2 (by omega)
  have b3 := GState.mt_ub (mergeState a b) hw 1
  have l3 := GState.mt_le (mergeState a b) 1 (by omega)
  refine ACallK_of (f11_ok _ hoa) ?_
  simp -dsimp
  refine ACallK_of (f11_ok _ hob) ?_
  simp -dsimp
  refine ACallK_of (f10_ok _ _ hoa hob) ?_
  simp -dsimp
  refine ACallK_of (f11_ok _ hoa) ?_
  simp -dsimp
  refine ACallK_of (f11_ok _ hob) ?_
  simp -dsimp
  refine ACallK_of (f12_ok _ _ hoa hob) ?_
  simp -dsimp
  refine ACallK_of (f13_ok _ _ hw) ?_
  simp -dsimp
  refine ACallK_of (f11_ok _ hoa) ?_
  simp -dsimp
  refine ACallK_of (f13_ok _ _ hoa) ?_
  simp -dsimp
  refine ACallK_of (f11_ok _ hob) ?_
  simp -dsimp
  refine ACallK_of (f13_ok _ _ hob) ?_
  simp -dsimp
  refine ACallW_args (by intro us; simp -dsimp; exact ⟨rfl, rfl, rfl⟩) ?_
  refine ACallC_of (fun us => f14_ok _ _ hoa (by omega) (by omega)) (by intro us; simp -dsimp; exact ⟨rfl, rfl⟩) ?_
  have na : ¬ (a.mt 1).2 < 0 := by omega
  have pa : 0 ≤ (a.mt 1).2 := by omega
  simp -dsimp [na, pa]
  repeat (first | refine ⟨by omega, ?_⟩ | refine ⟨⟨by omega, by omega⟩, ?_⟩ | refine fun _ => ?_)
  refine ACallW_args (by intro us; simp -dsimp; exact ⟨rfl, rfl, rfl⟩) ?_
  refine ACallC_of (fun us => f14_ok _ _ hob (by omega) (by omega)) (by intro us; simp -dsimp; exact ⟨rfl, rfl⟩) ?_
  have nb : ¬ (b.mt (a.mt 1).2).2 < 0 := by omega
  have pb : 0 ≤ (b.mt (a.mt 1).2).2 := by omega
  simp -dsimp [nb, pb]
  repeat (first | refine ⟨by omega, ?_⟩ | refine ⟨⟨by omega, by omega⟩, ?_⟩ | refine fun _ => ?_)
  refine ACallK_of (f13_ok _ _ hw) ?_
  simp -dsimp [na, pa, nb, pb]
  repeat (first | refine ⟨by omega, ?_⟩ | refine ⟨⟨by omega, by omega⟩, ?_⟩ | refine fun _ => ?_)
  refine ACallW_args (by intro us; simp -dsimp; exact ⟨rfl, rfl, rfl⟩) ?_
  refine ACallC_of (fun us => f14_ok _ _ hw (by omega) (by omega)) (by intro us; simp -dsimp; exact ⟨rfl, rfl⟩) ?_
  have r0 : ¬ ((mergeState a b).mt 1).2 < 0 := by omega
  have s0 : 0 ≤ ((mergeState a b).mt 1).2 := by omega
  simp -dsimp [na, pa, nb, pb, r0, s0]
  repeat (first | refine ⟨by omega, ?_⟩ | refine ⟨⟨by omega, by omega⟩, ?_⟩ | refine fun _ => ?_)
  refine ACallK_of (f15_ok _ _ hw (by omega) (by omega)) ?_
  simp -dsimp [na, pa, nb, pb, r0, s0]
  repeat (first | refine ⟨by omega, ?_⟩ | refine ⟨⟨by omega, by omega⟩, ?_⟩ | refine fun _ => ?_)
  refine ACallK_of (f11_ok _ hoa) ?_
  simp -dsimp
  refine ACallK_of (f11_ok _ hob) ?_
  simp -dsimp
  refine ACallK_of (f12_ok _ _ hoa hob) ?_
  simp -dsimp [na, pa, nb, pb, r0, s0]
  refine ACallK_of (f13_ok _ _ hw) ?_
  simp -dsimp [na, pa, nb, pb, r0, s0]
  repeat (first | refine ⟨by omega, ?_⟩ | refine ⟨⟨by omega, by omega⟩, ?_⟩ | refine fun _ => ?_)
  refine ACallK_of (f15_ok _ _ hw (by omega) (by omega)) ?_
  simp -dsimp [na, pa, nb, pb, r0, s0]
  repeat (first | refine ⟨by omega, ?_⟩ | refine ⟨⟨by omega, by omega⟩, ?_⟩ | refine fun _ => ?_)
end Am
