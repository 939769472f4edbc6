/- ClashesOf: the law. No condition. -/
import Derived.Test.YtpgnllakcjajjaaGreatT
import Derived.Test.YtpgnllakcjajjaaGreatF1
import Derived.Test.YtpgnllakcjajjaaGreatF2
import Derived.Test.YtpgnllakcjajjaaGreatG0
import Derived.Test.YtpgnllakcjajjaaGreatE98
namespace Am
open Go Go.Proofs
set_option linter.unusedSimpArgs false
set_option linter.unusedVariables false

theorem clashesOf_len (a b c : GState) : (clashesOf a b c).length ≤ b.lives.length := by
  unfold clashesOf
  split
  · have h1 := compC_len (sortC (rawC a b c))
    have h2 := (sortC_perm (rawC a b c)).length_eq
    have h3 := rawK_len b c (newIn a c) (newIn a b) (newIn a b).length
    have h4 := newIn_len a b
    unfold rawC at *
    omega
  · simp

@[simp] def h5 : Hts := { lend := fun f => if f = 14 then [.lend] else if f = 21 then [.lend] else [], dr := fun id => if id = 11 then [{}, { cr := true }, { mb := [33] }, { cr := true }, { mb := [33, 35] }, { cr := true }, { cr := true }, {}] else if id = 18 then [{ mb := [55] }, {}, { cr := true }, { cr := true }, {}] else if id = 20 then [{ mb := [60] }, {}, { cr := true }, { cr := true }, {}] else if id = 22 then [{ mb := [65] }, {}, { cr := true }, { cr := true }, {}] else if id = 38 then [{}, { cr := true }, { mb := [97] }, { cr := true }, { mb := [97, 99] }, { cr := true }, { cr := true }, {}] else [] }
set_option maxHeartbeats 2000000 in
theorem f5_ok (a : GState) (b : GState) (c : GState) (hda : a.Fit) (hdb : b.Fit) (hdc : c.Fit) : FnR Tryz.prog 5 [.agg [.im a.know.length (flat a.know), .im a.tallies.length (flat a.tallies), .im a.lives.length (flat a.lives), .im a.cs.length (flat a.cs)], .agg [.im b.know.length (flat b.know), .im b.tallies.length (flat b.tallies), .im b.lives.length (flat b.lives), .im b.cs.length (flat b.cs)], .agg [.im c.know.length (flat c.know), .im c.tallies.length (flat c.tallies), .im c.lives.length (flat c.lives), .im c.cs.length (flat c.cs)]] (.v (.bool true)) := by
  refine FnW.of_AW TryzT_ok 0 (fn := Tryz.f5) (by kernel_rfl) rfl (by kernel_rfl) rfl rfl rfl ?_; refine AW_of h5 TryzT_ok (by kernel_rfl) ?_
  simp -dsimp
  refine ACallK_of (f9_ok _ _ hda (by omega) (by omega)) ?_
  simp -dsimp
  refine fun hsa => ?_
  have hoa := GState.sz_ok (by omega) (by omega) hsa
  have hqa := GState.sz_le a 1048576 (by omega)
  refine ACallK_of (f9_ok _ _ hdb (by omega) (by omega)) ?_
  simp -dsimp
  refine fun hsb => ?_
  have hob := GState.sz_ok (by omega) (by omega) hsb
  have hqb := GState.sz_le b (a.sz 1048576) (by omega)
  refine ACallK_of (f9_ok _ _ hdc (by omega) (by omega)) ?_
  simp -dsimp
  refine fun hsc => ?_
  have hoc := GState.sz_ok (by omega) (by omega) hsc
  have hqc := GState.sz_le c (b.sz (a.sz 1048576)) (by omega)
  have hw0 := clashesOf_len a b c
  have hw : (clashesOf a b c).length ≤ 1073741824 := by have ho := hob; simp only [GState.Ok] at ho; omega
  have b1 := GState.mt_ub a hoa 1
  have l1 := GState.mt_le a 1 (by omega)
  have b2 := GState.mt_ub b hob (a.mt 1).2
  have l2 := GState.mt_le b (a.mt 1).2 (by omega)
  have b3 := GState.mt_ub c hoc (b.mt (a.mt 1).2).2
  have l3 := GState.mt_le c (b.mt (a.mt 1).2).2 (by omega)
  have b4 := mkS_ub (f := GClash.mar) (c := 2) (fun x k => by simp [GClash.mar]; omega) (clashesOf a b c) 1
  have l4 := mkS_le (f := GClash.mar) GClash.mar_le (clashesOf a b c) 1 (by omega)
  refine ACallK_of (f11_ok _ hoa) ?_
  simp -dsimp
  refine ACallK_of (f11_ok _ hob) ?_
  simp -dsimp
  refine ACallK_of (f11_ok _ hoc) ?_
  simp -dsimp
  refine ACallK_of (f18_ok _ _ _ hoa hob hoc) ?_
  simp -dsimp
  refine ACallK_of (f11_ok _ hoa) ?_
  simp -dsimp
  refine ACallK_of (f11_ok _ hob) ?_
  simp -dsimp
  refine ACallK_of (f11_ok _ hoc) ?_
  simp -dsimp
  refine ACallK_of (f19_ok _ _ _ hoa hob hoc) ?_
  simp -dsimp
  refine ACallK_of (f20_ok _ _ hw) ?_
  simp -dsimp
  refine ACallK_of (f11_ok _ hoa) ?_
  simp -dsimp
  refine ACallK_of (f13_ok _ _ hoa) ?_
  simp -dsimp
  refine ACallK_of (f11_ok _ hob) ?_
  simp -dsimp
  refine ACallK_of (f13_ok _ _ hob) ?_
  simp -dsimp
  refine ACallK_of (f11_ok _ hoc) ?_
  simp -dsimp
  refine ACallK_of (f13_ok _ _ hoc) ?_
  simp -dsimp
  refine ACallW_args (by intro us; simp -dsimp; exact ⟨rfl, rfl, rfl⟩) ?_
  refine ACallC_of (fun us => f14_ok _ _ hoa (by omega) (by omega)) (by intro us; simp -dsimp; exact ⟨rfl, rfl⟩) ?_
  have na : ¬ (a.mt 1).2 < 0 := by omega
  have pa : 0 ≤ (a.mt 1).2 := by omega
  simp -dsimp [na, pa]
  repeat (first | refine ⟨by omega, ?_⟩ | refine ⟨⟨by omega, by omega⟩, ?_⟩ | refine fun _ => ?_)
  refine ACallW_args (by intro us; simp -dsimp; exact ⟨rfl, rfl, rfl⟩) ?_
  refine ACallC_of (fun us => f14_ok _ _ hob (by omega) (by omega)) (by intro us; simp -dsimp; exact ⟨rfl, rfl⟩) ?_
  have nb : ¬ (b.mt (a.mt 1).2).2 < 0 := by omega
  have pb : 0 ≤ (b.mt (a.mt 1).2).2 := by omega
  simp -dsimp [nb, pb]
  repeat (first | refine ⟨by omega, ?_⟩ | refine ⟨⟨by omega, by omega⟩, ?_⟩ | refine fun _ => ?_)
  refine ACallW_args (by intro us; simp -dsimp; exact ⟨rfl, rfl, rfl⟩) ?_
  refine ACallC_of (fun us => f14_ok _ _ hoc (by omega) (by omega)) (by intro us; simp -dsimp; exact ⟨rfl, rfl⟩) ?_
  have nc : ¬ (c.mt (b.mt (a.mt 1).2).2).2 < 0 := by omega
  have pc : 0 ≤ (c.mt (b.mt (a.mt 1).2).2).2 := by omega
  simp -dsimp [nc, pc]
  repeat (first | refine ⟨by omega, ?_⟩ | refine ⟨⟨by omega, by omega⟩, ?_⟩ | refine fun _ => ?_)
  refine ACallK_of (f20_ok _ _ hw) ?_
  simp -dsimp [na, pa, nb, pb, nc, pc]
  repeat (first | refine ⟨by omega, ?_⟩ | refine ⟨⟨by omega, by omega⟩, ?_⟩ | refine fun _ => ?_)
  refine ACallW_args (by intro us; simp -dsimp; exact ⟨rfl, rfl, rfl⟩) ?_
  refine ACallC_of (fun us => f21_ok _ _ hw (by omega) (by omega)) (by intro us; simp -dsimp; exact ⟨rfl, rfl⟩) ?_
  have r0 : ¬ (mkS GClash.mar (clashesOf a b c) 1).2 < 0 := by omega
  have s0 : 0 ≤ (mkS GClash.mar (clashesOf a b c) 1).2 := by omega
  simp -dsimp [na, pa, nb, pb, nc, pc, r0, s0]
  repeat (first | refine ⟨by omega, ?_⟩ | refine ⟨⟨by omega, by omega⟩, ?_⟩ | refine fun _ => ?_)
  refine ACallK_of (f22_ok _ _ hw (by omega) (by omega)) ?_
  simp -dsimp [na, pa, nb, pb, nc, pc, r0, s0]
  repeat (first | refine ⟨by omega, ?_⟩ | refine ⟨⟨by omega, by omega⟩, ?_⟩ | refine fun _ => ?_)
  refine ACallK_of (f11_ok _ hoa) ?_
  simp -dsimp
  refine ACallK_of (f11_ok _ hob) ?_
  simp -dsimp
  refine ACallK_of (f11_ok _ hoc) ?_
  simp -dsimp
  refine ACallK_of (f19_ok _ _ _ hoa hob hoc) ?_
  simp -dsimp [na, pa, nb, pb, nc, pc, r0, s0]
  refine ACallK_of (f20_ok _ _ hw) ?_
  simp -dsimp [na, pa, nb, pb, nc, pc, r0, s0]
  repeat (first | refine ⟨by omega, ?_⟩ | refine ⟨⟨by omega, by omega⟩, ?_⟩ | refine fun _ => ?_)
  refine ACallK_of (f22_ok _ _ hw (by omega) (by omega)) ?_
  simp -dsimp [na, pa, nb, pb, nc, pc, r0, s0]
  repeat (first | refine ⟨by omega, ?_⟩ | refine ⟨⟨by omega, by omega⟩, ?_⟩ | refine fun _ => ?_)
end Am
