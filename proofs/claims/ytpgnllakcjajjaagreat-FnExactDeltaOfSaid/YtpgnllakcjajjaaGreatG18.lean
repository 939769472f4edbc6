/- DeltaOf: the law. No condition. -/
import Derived.Test.YtpgnllakcjajjaaGreatT
import Derived.Test.YtpgnllakcjajjaaGreatF1
import Derived.Test.YtpgnllakcjajjaaGreatF2
import Derived.Test.YtpgnllakcjajjaaGreatG0
import Derived.Test.YtpgnllakcjajjaaGreatE62
namespace Am
open Go Go.Proofs
set_option linter.unusedSimpArgs false
set_option linter.unusedVariables false

theorem deltaOf_ok {p c : GState} (hp : p.Ok) (hc : c.Ok) : (deltaOf p c).1.Ok := by
  unfold deltaOf
  split
  · simp only [GState.Ok] at hp hc
    simp only [GDelta.Ok]
    have h1 := dTal_len p c c.tallies.length
    have h2 := dLivs_len p c c.lives.length
    have h3 := deadK_len c p.lives p.lives.length
    have h4 := dCels_len p c c.cs.length
    refine ⟨hp.1, hc.1, ?_, ?_, ?_, ?_, ?_, ?_, ?_⟩
    · simp only [deltaRaw]; omega
    · intro y hy
      rcases (filK_mem (Nat.le_refl _)).1 hy with h | ⟨i, hi, rfl, _⟩
      · cases h
      · exact hc.2.2.1 _ (nth_mem hi)
    · simp only [deltaRaw]; omega
    · intro y hy
      rcases (filK_mem (Nat.le_refl _)).1 hy with h | ⟨i, hi, rfl, _⟩
      · cases h
      · exact hc.2.2.2.2.1 _ (nth_mem hi)
    · simp only [deltaRaw]; omega
    · simp only [deltaRaw]; omega
    · intro y hy
      rcases (filK_mem (Nat.le_refl _)).1 hy with h | ⟨i, hi, rfl, _⟩
      · cases h
      · exact hc.2.2.2.2.2.2 _ (nth_mem hi)
  · simp [noDelta, GDelta.Ok]

@[simp] def h6 : Hts := { lend := fun f => if f = 14 then [.lend] else if f = 26 then [.lend] else [], dr := fun id => if id = 8 then [{ mb := [6] }, { cr := true, mb := [6] }, { mb := [29, 6] }, { cr := true, mb := [6] }, { cr := true, mb := [6] }, { mb := [6] }, { mb := [6] }, { mn := [384], mb := [6] }, { cr := true, mb := [29, 31, 32] }, { wr := [384] }, {}] else if id = 14 then [{ mb := [56] }, {}, { cr := true }, { cr := true }, {}] else if id = 16 then [{ mb := [61] }, {}, { cr := true }, { cr := true }, {}] else if id = 31 then [{ mb := [15] }, { cr := true, mb := [15] }, { mb := [96, 15] }, { cr := true, mb := [15] }, { cr := true, mb := [15] }, { mb := [15] }, { mb := [15] }, { mn := [960], mb := [15] }, { cr := true, mb := [96, 98, 99] }, { wr := [960] }, {}] else [] }
set_option maxHeartbeats 2000000 in
theorem f6_ok (a : GState) (b : GState) (hda : a.Fit) (hdb : b.Fit) : FnR Tryz.prog 6 [.agg [.im a.know.length (flat a.know), .im a.tallies.length (flat a.tallies), .im a.lives.length (flat a.lives), .im a.cs.length (flat a.cs)], .agg [.im b.know.length (flat b.know), .im b.tallies.length (flat b.tallies), .im b.lives.length (flat b.lives), .im b.cs.length (flat b.cs)]] (.v (.bool true)) := by
  refine FnW.of_AW TryzT_ok 0 (fn := Tryz.f6) (by kernel_rfl) rfl (by kernel_rfl) rfl rfl rfl ?_
  refine AW_of h6 TryzT_ok (by kernel_rfl) ?_
  simp -dsimp
  refine ACallK_of (f9_ok _ _ hda (by omega) (by omega)) ?_
  simp -dsimp
  refine fun hsa => ?_
  have hoa := GState.sz_ok (by omega) (by omega) hsa
  have hqa := GState.sz_le a 1048576 (by omega)
  refine ACallK_of (f9_ok _ _ hdb (by omega) (by omega)) ?_
  simp -dsimp
  refine fun hsb => ?_
  have hob := GState.sz_ok (by omega) (by omega) hsb
  have hqb := GState.sz_le b (a.sz 1048576) (by omega)
  have hw := deltaOf_ok hoa hob
  have b1 := GState.mt_ub a hoa 1
  have l1 := GState.mt_le a 1 (by omega)
  have b2 := GState.mt_ub b hob (a.mt 1).2
  have l2 := GState.mt_le b (a.mt 1).2 (by omega)
  have b3 := GDelta.mt_ub (deltaOf a b).1 hw 1
  have l3 := GDelta.mt_le (deltaOf a b).1 1 (by omega)
  refine ACallK_of (f11_ok _ hoa) ?_
  simp -dsimp
  refine ACallK_of (f11_ok _ hob) ?_
  simp -dsimp
  refine ACallK_of (f23_ok _ _ hoa hob) ?_
  simp -dsimp
  refine ACallK_of (f11_ok _ hoa) ?_
  simp -dsimp
  refine ACallK_of (f11_ok _ hob) ?_
  simp -dsimp
  refine ACallK_of (f24_ok _ _ hoa hob) ?_
  simp -dsimp
  refine ACallK_of (f25_ok _ _ hw) ?_
  simp -dsimp
  refine ACallK_of (f11_ok _ hoa) ?_
  simp -dsimp
  refine ACallK_of (f13_ok _ _ hoa) ?_
  simp -dsimp
  refine ACallK_of (f11_ok _ hob) ?_
  simp -dsimp
  refine ACallK_of (f13_ok _ _ hob) ?_
  simp -dsimp
  refine ACallW_args (by intro us; simp -dsimp; exact ⟨rfl, rfl, rfl⟩) ?_
  refine ACallC_of (fun us => f14_ok _ _ hoa (by omega) (by omega)) (by intro us; simp -dsimp; exact ⟨rfl, rfl⟩) ?_
  have na : ¬ (a.mt 1).2 < 0 := by omega
  have pa : 0 ≤ (a.mt 1).2 := by omega
  simp -dsimp [na, pa]
  repeat (first | refine ⟨by omega, ?_⟩ | refine ⟨⟨by omega, by omega⟩, ?_⟩ | refine fun _ => ?_)
  refine ACallW_args (by intro us; simp -dsimp; exact ⟨rfl, rfl, rfl⟩) ?_
  refine ACallC_of (fun us => f14_ok _ _ hob (by omega) (by omega)) (by intro us; simp -dsimp; exact ⟨rfl, rfl⟩) ?_
  have nb : ¬ (b.mt (a.mt 1).2).2 < 0 := by omega
  have pb : 0 ≤ (b.mt (a.mt 1).2).2 := by omega
  simp -dsimp [nb, pb]
  repeat (first | refine ⟨by omega, ?_⟩ | refine ⟨⟨by omega, by omega⟩, ?_⟩ | refine fun _ => ?_)
  refine ACallK_of (f25_ok _ _ hw) ?_
  simp -dsimp [na, pa, nb, pb]
  repeat (first | refine ⟨by omega, ?_⟩ | refine ⟨⟨by omega, by omega⟩, ?_⟩ | refine fun _ => ?_)
  refine ACallW_args (by intro us; simp -dsimp; exact ⟨rfl, rfl, rfl⟩) ?_
  refine ACallC_of (fun us => f26_ok _ _ hw (by omega) (by omega)) (by intro us; simp -dsimp; exact ⟨rfl, rfl⟩) ?_
  have r0 : ¬ ((deltaOf a b).1.mt 1).2 < 0 := by omega
  have s0 : 0 ≤ ((deltaOf a b).1.mt 1).2 := by omega
  simp -dsimp [na, pa, nb, pb, r0, s0]
  repeat (first | refine ⟨by omega, ?_⟩ | refine ⟨⟨by omega, by omega⟩, ?_⟩ | refine fun _ => ?_)
  refine ACallK_of (f27_ok _ _ hw (by omega) (by omega)) ?_
  simp -dsimp [na, pa, nb, pb, r0, s0]
  repeat (first | refine ⟨by omega, ?_⟩ | refine ⟨⟨by omega, by omega⟩, ?_⟩ | refine fun _ => ?_)
  refine ACallK_of (f11_ok _ hoa) ?_
  simp -dsimp
  refine ACallK_of (f11_ok _ hob) ?_
  simp -dsimp
  refine ACallK_of (f24_ok _ _ hoa hob) ?_
  simp -dsimp [na, pa, nb, pb, r0, s0]
  refine ACallK_of (f25_ok _ _ hw) ?_
  simp -dsimp [na, pa, nb, pb, r0, s0]
  repeat (first | refine ⟨by omega, ?_⟩ | refine ⟨⟨by omega, by omega⟩, ?_⟩ | refine fun _ => ?_)
  refine ACallK_of (f27_ok _ _ hw (by omega) (by omega)) ?_
  simp -dsimp [na, pa, nb, pb, r0, s0]
  repeat (first | refine ⟨by omega, ?_⟩ | refine ⟨⟨by omega, by omega⟩, ?_⟩ | refine fun _ => ?_)
end Am
