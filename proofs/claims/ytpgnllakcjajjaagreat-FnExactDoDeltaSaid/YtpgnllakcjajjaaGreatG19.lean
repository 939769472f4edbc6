/- DoDelta: the law. No condition. -/
import Derived.Test.YtpgnllakcjajjaaGreatT
import Derived.Test.YtpgnllakcjajjaaGreatF1
import Derived.Test.YtpgnllakcjajjaaGreatF2
import Derived.Test.YtpgnllakcjajjaaGreatG0
import Derived.Test.YtpgnllakcjajjaaGreatE63
namespace Am
open Go Go.Proofs
set_option linter.unusedSimpArgs false
set_option linter.unusedVariables false

theorem doDelta_ok {s : GState} {d : GDelta} (hs : s.Ok) (hd : d.Ok) : (doDelta s d).1.Ok := by
  unfold doDelta
  split
  · exact hs
  rename_i k1
  split
  · exact hs
  rename_i k2
  split
  · exact hs
  split
  · exact hs
  split
  · exact hs
  split
  · exact hs
  · exact doneRaw_ok hs hd (by simpa using k1) (deltaOk_F (by simpa using k2))

@[simp] def h7 : Hts := { lend := fun f => if f = 14 then [.lend] else if f = 26 then [.lend] else [], dr := fun id => if id = 8 then [{ mb := [6] }, { cr := true, mb := [6] }, { mb := [29, 6] }, { cr := true, mb := [6] }, { cr := true, mb := [6] }, { mb := [6] }, { mb := [6] }, { mn := [384], mb := [6] }, { cr := true, mb := [29, 31, 32] }, { wr := [384] }, {}] else if id = 14 then [{ mb := [56] }, {}, { cr := true }, { cr := true }, {}] else if id = 16 then [{ mb := [61] }, {}, { cr := true }, { cr := true }, {}] else if id = 31 then [{ mb := [15] }, { cr := true, mb := [15] }, { mb := [96, 15] }, { cr := true, mb := [15] }, { cr := true, mb := [15] }, { mb := [15] }, { mb := [15] }, { mn := [960], mb := [15] }, { cr := true, mb := [96, 98, 99] }, { wr := [960] }, {}] else [] }
set_option maxHeartbeats 2000000 in
theorem f7_ok (a : GState) (d : GDelta) (hda : a.Fit) (hdd : d.Fit) : FnR Tryz.prog 7 [.agg [.im a.know.length (flat a.know), .im a.tallies.length (flat a.tallies), .im a.lives.length (flat a.lives), .im a.cs.length (flat a.cs)], .agg [.im d.base.length (flat d.base), .im d.know.length (flat d.know), .im d.tallies.length (flat d.tallies), .im d.lives.length (flat d.lives), .im d.dead.length (flat d.dead), .im d.cs.length (flat d.cs)]] (.v (.bool true)) := by
  refine FnW.of_AW TryzT_ok 0 (fn := Tryz.f7) (by kernel_rfl) rfl (by kernel_rfl) rfl rfl rfl ?_
  refine AW_of h7 TryzT_ok (by kernel_rfl) ?_
  simp -dsimp
  refine ACallK_of (f9_ok _ _ hda (by omega) (by omega)) ?_
  simp -dsimp
  refine fun hsa => ?_
  have hoa := GState.sz_ok (by omega) (by omega) hsa
  have hqa := GState.sz_le a 1048576 (by omega)
  refine ACallK_of (f28_ok _ _ hdd (by omega) (by omega)) ?_
  simp -dsimp
  refine fun hsd => ?_
  have hod := GDelta.sz_ok (by omega) (by omega) hsd
  have hqd := GDelta.sz_le d (a.sz 1048576) (by omega)
  have hw := doDelta_ok hoa hod
  have b1 := GState.mt_ub a hoa 1
  have l1 := GState.mt_le a 1 (by omega)
  have b2 := GDelta.mt_ub d hod (a.mt 1).2
  have l2 := GDelta.mt_le d (a.mt 1).2 (by omega)
  have b3 := GState.mt_ub (doDelta a d).1 hw 1
  have l3 := GState.mt_le (doDelta a d).1 1 (by omega)
  refine ACallK_of (f11_ok _ hoa) ?_
  simp -dsimp
  refine ACallK_of (f30_ok _ hod) ?_
  simp -dsimp
  refine ACallK_of (f29_ok _ _ hoa hod) ?_
  simp -dsimp
  refine ACallK_of (f11_ok _ hoa) ?_
  simp -dsimp
  refine ACallK_of (f30_ok _ hod) ?_
  simp -dsimp
  refine ACallK_of (f31_ok _ _ hoa hod) ?_
  simp -dsimp
  refine ACallK_of (f13_ok _ _ hw) ?_
  simp -dsimp
  refine ACallK_of (f11_ok _ hoa) ?_
  simp -dsimp
  refine ACallK_of (f13_ok _ _ hoa) ?_
  simp -dsimp
  refine ACallK_of (f30_ok _ hod) ?_
  simp -dsimp
  refine ACallK_of (f25_ok _ _ hod) ?_
  simp -dsimp
  refine ACallW_args (by intro us; simp -dsimp; exact ⟨rfl, rfl, rfl⟩) ?_
  refine ACallC_of (fun us => f14_ok _ _ hoa (by omega) (by omega)) (by intro us; simp -dsimp; exact ⟨rfl, rfl⟩) ?_
  have na : ¬ (a.mt 1).2 < 0 := by omega
  have pa : 0 ≤ (a.mt 1).2 := by omega
  simp -dsimp [na, pa]
  repeat (first | refine ⟨by omega, ?_⟩ | refine ⟨⟨by omega, by omega⟩, ?_⟩ | refine fun _ => ?_)
  refine ACallW_args (by intro us; simp -dsimp; exact ⟨rfl, rfl, rfl⟩) ?_
  refine ACallC_of (fun us => f26_ok _ _ hod (by omega) (by omega)) (by intro us; simp -dsimp; exact ⟨rfl, rfl⟩) ?_
  have nd : ¬ (d.mt (a.mt 1).2).2 < 0 := by omega
  have pd : 0 ≤ (d.mt (a.mt 1).2).2 := by omega
  simp -dsimp [nd, pd]
  repeat (first | refine ⟨by omega, ?_⟩ | refine ⟨⟨by omega, by omega⟩, ?_⟩ | refine fun _ => ?_)
  refine ACallK_of (f13_ok _ _ hw) ?_
  simp -dsimp [na, pa, nd, pd]
  repeat (first | refine ⟨by omega, ?_⟩ | refine ⟨⟨by omega, by omega⟩, ?_⟩ | refine fun _ => ?_)
  refine ACallW_args (by intro us; simp -dsimp; exact ⟨rfl, rfl, rfl⟩) ?_
  refine ACallC_of (fun us => f14_ok _ _ hw (by omega) (by omega)) (by intro us; simp -dsimp; exact ⟨rfl, rfl⟩) ?_
  have r0 : ¬ ((doDelta a d).1.mt 1).2 < 0 := by omega
  have s0 : 0 ≤ ((doDelta a d).1.mt 1).2 := by omega
  simp -dsimp [na, pa, nd, pd, r0, s0]
  repeat (first | refine ⟨by omega, ?_⟩ | refine ⟨⟨by omega, by omega⟩, ?_⟩ | refine fun _ => ?_)
  refine ACallK_of (f15_ok _ _ hw (by omega) (by omega)) ?_
  simp -dsimp [na, pa, nd, pd, r0, s0]
  repeat (first | refine ⟨by omega, ?_⟩ | refine ⟨⟨by omega, by omega⟩, ?_⟩ | refine fun _ => ?_)
  refine ACallK_of (f11_ok _ hoa) ?_
  simp -dsimp
  refine ACallK_of (f30_ok _ hod) ?_
  simp -dsimp
  refine ACallK_of (f31_ok _ _ hoa hod) ?_
  simp -dsimp [na, pa, nd, pd, r0, s0]
  refine ACallK_of (f13_ok _ _ hw) ?_
  simp -dsimp [na, pa, nd, pd, r0, s0]
  repeat (first | refine ⟨by omega, ?_⟩ | refine ⟨⟨by omega, by omega⟩, ?_⟩ | refine fun _ => ?_)
  refine ACallK_of (f15_ok _ _ hw (by omega) (by omega)) ?_
  simp -dsimp [na, pa, nd, pd, r0, s0]
  repeat (first | refine ⟨by omega, ?_⟩ | refine ⟨⟨by omega, by omega⟩, ?_⟩ | refine fun _ => ?_)
end Am
