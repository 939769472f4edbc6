/- ActOf: the law. No condition. -/
import Derived.Test.YtkkaogfjlbigmaaGreatT
import Derived.Test.YtkkaogfjlbigmaaGreatF1
import Derived.Test.YtkkaogfjlbigmaaGreatF2
import Derived.Test.YtkkaogfjlbigmaaGreatG0
import Derived.Test.YtkkaogfjlbigmaaGreatE74
namespace Am
open Go Go.Proofs
set_option linter.unusedSimpArgs false
set_option linter.unusedVariables false

theorem actOf_ok {s : GState} {rep time : Int} {e : GEdit} (hs : s.Ok) (h1 : e.obj.size ≤ 1073741824) (h2 : e.key.size ≤ 1073741824) : (actOf s rep time e).1.Ok := by
  unfold actOf
  split
  · simp only [zeroAct, GAct.Ok]; exact ⟨by simp, Nat.zero_le _, Nat.zero_le _⟩
  split
  · simp only [zeroAct, GAct.Ok]; exact ⟨by simp, Nat.zero_le _, Nat.zero_le _⟩
  split
  · simp only [zeroAct, GAct.Ok]; exact ⟨by simp, Nat.zero_le _, Nat.zero_le _⟩
  · simp only [GState.Ok] at hs
    simp only [GAct.Ok]; exact ⟨hs.1, h1, h2⟩
theorem act_ub (a : GAct) (h : a.Ok) (k : Int) : (a.mt k).2 ≤ k + 2000000000 := by
  simp only [GAct.Ok] at h
  have u1 := mkS_ub (f := mkInt) (c := 1) (fun x k => by simp [mkInt]) a.knew k
  simp only [GAct.mt]
  omega

@[simp] def h3 : Hts := { lend := fun f => if f = 14 then [.lend] else if f = 15 then [.lend] else [], dr := fun id => if id = 8 then [{ mb := [10] }, { cr := true, mb := [10] }, { mb := [32, 36, 10] }, { mb := [32, 36, 10] }, { mb := [32, 10] }, { cr := true, mb := [10] }, { cr := true, mb := [10] }, { mb := [10] }, { mb := [10] }, { mn := [640], mb := [10] }, { cr := true, mb := [32, 36, 37] }, { wr := [640] }, {}] else if id = 10 then [{ mb := [47, 13] }, { mb := [47, 13] }, { mb := [47, 13] }, { mb := [13] }, { cr := true, mb := [13] }, { cr := true, mb := [13] }, { mb := [13] }, { mb := [13] }, { mn := [832], mb := [13] }, { cr := true, mb := [47, 48] }, { wr := [832] }, {}] else if id = 13 then [{ mb := [62] }, {}, { cr := true }, { cr := true }, {}] else if id = 27 then [{ mb := [18] }, { cr := true, mb := [18] }, { mb := [94, 98, 18] }, { mb := [94, 98, 18] }, { mb := [94, 18] }, { cr := true, mb := [18] }, { cr := true, mb := [18] }, { mb := [18] }, { mb := [18] }, { mn := [1152], mb := [18] }, { cr := true, mb := [94, 98, 99] }, { wr := [1152] }, {}] else [] }
set_option maxHeartbeats 2000000 in
theorem f3_ok (s : GState) (rep : Int) (time : Int) (e : GEdit) (hds : s.Fit) (hdrep : IntKind.i64.min ≤ rep) (hdrep' : rep ≤ IntKind.i64.max) (hdtime : IntKind.i64.min ≤ time) (hdtime' : time ≤ IntKind.i64.max) (hdxe : e.Fit ∧ IntKind.i64.min ≤ e.place ∧ e.place ≤ IntKind.i64.max) : FnR Tryz.prog 3 [.agg [.im s.know.length (flat s.know), .im s.tallies.length (flat s.tallies), .im s.lives.length (flat s.lives), .im s.cs.length (flat s.cs)], .v (.int .i64 rep), .v (.int .i64 time), .agg [.int .i64 e.kind, .str e.obj, .str e.key, .int .i64 e.val, .int .i64 e.place]] (.v (.bool true)) := by
  refine FnW.of_AW TryzT_ok 0 (fn := Tryz.f3) (by kernel_rfl) rfl (by kernel_rfl) rfl rfl rfl ?_; refine AW_of h3 TryzT_ok (by kernel_rfl) ?_
  simp -dsimp
  obtain ⟨hde, hre⟩ := hdxe
  refine ACallK_of (f6_ok _ _ hds (by omega) (by omega)) ?_
  simp -dsimp
  refine fun hss => ?_
  have hos := GState.sz_ok (by omega) (by omega) hss
  have hqs := GState.sz_le s 1048576 (by omega)
  refine ACallK_of (f7_ok _ _ hde (by omega) (by omega)) ?_
  simp -dsimp
  refine fun hse => ?_
  have hoe := GEdit.sz_ok (by omega) (by omega) hse
  have hqe := GEdit.sz_le e (s.sz 1048576) (by omega)
  have hpm : e.place ≤ 9223372036854775807 := hre.2
  have hz := hoe
  simp only [GEdit.Ok] at hz
  obtain ⟨hz1, hz2⟩ := hz
  have hw := actOf_ok (rep := rep) (time := time) hos hz1 hz2
  have b1 := GState.mt_ub s hos 1
  have l1 := GState.mt_le s 1 (by omega)
  have b3 := act_ub (actOf s rep time e).1 hw 1
  have l3 := GAct.mt_le (actOf s rep time e).1 1 (by omega)
  refine ACallK_of (f9_ok _ hos) ?_
  simp -dsimp
  refine ACallK_of (f10_ok _) ?_
  simp -dsimp
  refine ACallK_of (f8_ok _ _ _ _ hos hz1 hz2 hpm) ?_
  simp -dsimp
  refine ACallK_of (f9_ok _ hos) ?_
  simp -dsimp
  refine ACallK_of (f10_ok _) ?_
  simp -dsimp
  refine ACallK_of (f11_ok _ _ _ _ hos hz1 hz2 hpm) ?_
  simp -dsimp
  refine ACallK_of (f12_ok _ _ hw) ?_
  simp -dsimp
  refine ACallK_of (f9_ok _ hos) ?_
  simp -dsimp
  refine ACallK_of (f13_ok _ _ hos) ?_
  simp -dsimp
  refine ACallW_args (by intro us; simp -dsimp; exact ⟨rfl, rfl, rfl⟩) ?_
  refine ACallC_of (fun us => f14_ok _ _ hos (by omega) (by omega)) (by intro us; simp -dsimp; exact ⟨rfl, rfl⟩) ?_
  have ns : ¬ (s.mt 1).2 < 0 := by omega
  have ps : 0 ≤ (s.mt 1).2 := by omega
  simp -dsimp [ns, ps]
  repeat (first | refine ⟨by omega, ?_⟩ | refine ⟨⟨by omega, by omega⟩, ?_⟩ | refine fun _ => ?_)
  refine ACallK_of (f12_ok _ _ hw) ?_
  simp -dsimp [ns, ps]
  repeat (first | refine ⟨by omega, ?_⟩ | refine ⟨⟨by omega, by omega⟩, ?_⟩ | refine fun _ => ?_)
  refine ACallW_args (by intro us; simp -dsimp; exact ⟨rfl, rfl, rfl⟩) ?_
  refine ACallC_of (fun us => f15_ok _ _ hw (by omega) (by omega)) (by intro us; simp -dsimp; exact ⟨rfl, rfl⟩) ?_
  have r0 : ¬ ((actOf s rep time e).1.mt 1).2 < 0 := by omega
  have s0 : 0 ≤ ((actOf s rep time e).1.mt 1).2 := by omega
  simp -dsimp [ns, ps, r0, s0]
  repeat (first | refine ⟨by omega, ?_⟩ | refine ⟨⟨by omega, by omega⟩, ?_⟩ | refine fun _ => ?_)
  refine ACallK_of (f16_ok _ _ hw (by omega) (by omega)) ?_
  simp -dsimp [ns, ps, r0, s0]
  repeat (first | refine ⟨by omega, ?_⟩ | refine ⟨⟨by omega, by omega⟩, ?_⟩ | refine fun _ => ?_)
  refine ACallK_of (f9_ok _ hos) ?_
  simp -dsimp
  refine ACallK_of (f10_ok _) ?_
  simp -dsimp
  refine ACallK_of (f11_ok _ _ _ _ hos hz1 hz2 hpm) ?_
  simp -dsimp [ns, ps, r0, s0]
  refine ACallK_of (f12_ok _ _ hw) ?_
  simp -dsimp [ns, ps, r0, s0]
  repeat (first | refine ⟨by omega, ?_⟩ | refine ⟨⟨by omega, by omega⟩, ?_⟩ | refine fun _ => ?_)
  refine ACallK_of (f16_ok _ _ hw (by omega) (by omega)) ?_
  simp -dsimp [ns, ps, r0, s0]
  repeat (first | refine ⟨by omega, ?_⟩ | refine ⟨⟨by omega, by omega⟩, ?_⟩ | refine fun _ => ?_)
end Am
