/- DoUnit: the law. No condition. -/
import Derived.Test.YtblhppnhiaombaaGreatT
import Derived.Test.YtblhppnhiaombaaGreatF1
import Derived.Test.YtblhppnhiaombaaGreatF2
import Derived.Test.YtblhppnhiaombaaGreatG0
import Derived.Test.YtblhppnhiaombaaGreatE78
namespace Am
open Go Go.Proofs
set_option linter.unusedSimpArgs false
set_option linter.unusedVariables false

@[simp] def h3 : Hts := { lend := fun f => if f = 17 then [.lend] else if f = 18 then [.lend] else [], dr := fun id => if id = 8 then [{ mb := [6] }, { cr := true, mb := [6] }, { mb := [29, 6] }, { cr := true, mb := [6] }, { cr := true, mb := [6] }, { mb := [6] }, { mb := [6] }, { mn := [384], mb := [6] }, { cr := true, mb := [29, 31, 32] }, { wr := [384] }, {}] else if id = 14 then [{ mb := [56] }, {}, { cr := true }, { cr := true }, {}] else if id = 16 then [{ mb := [61] }, {}, { cr := true }, { cr := true }, {}] else if id = 31 then [{ mb := [15] }, { cr := true, mb := [15] }, { mb := [96, 15] }, { cr := true, mb := [15] }, { cr := true, mb := [15] }, { mb := [15] }, { mb := [15] }, { mn := [960], mb := [15] }, { cr := true, mb := [96, 98, 99] }, { wr := [960] }, {}] else [] }
set_option maxHeartbeats 2000000 in
theorem f3_ok (s : GState) (u : GUnit) (hds : s.Fit) (hdu : u.Fit) : FnR Tryz.prog 3 [.agg [.im s.know.length (flat s.know), .im s.tallies.length (flat s.tallies), .im s.lives.length (flat s.lives), .im s.cs.length (flat s.cs)], .agg [.bool u.batch, .int .i64 u.act.dot.rep, .int .i64 u.act.dot.seq, .int .i64 u.act.time, .im u.act.knew.length (flat u.act.knew), .int .i64 u.act.kind, .str u.act.obj, .str u.act.key, .int .i64 u.act.val, .int .i64 u.act.ref.rep, .int .i64 u.act.ref.seq, .im u.delta.base.length (flat u.delta.base), .im u.delta.know.length (flat u.delta.know), .im u.delta.tallies.length (flat u.delta.tallies), .im u.delta.lives.length (flat u.delta.lives), .im u.delta.dead.length (flat u.delta.dead), .im u.delta.cs.length (flat u.delta.cs)]] (.v (.bool true)) := by
  refine FnW.of_AW TryzT_ok 0 (fn := Tryz.f3) (by kernel_rfl) rfl (by kernel_rfl) rfl rfl rfl ?_; refine AW_of h3 TryzT_ok (by kernel_rfl) ?_
  simp -dsimp
  refine ACallK_of (f9_ok _ _ hds (by omega) (by omega)) ?_
  simp -dsimp
  refine fun hss => ?_
  have hos := GState.sz_ok (by omega) (by omega) hss
  have hqs := GState.sz_le s 1048576 (by omega)
  refine ACallK_of (f10_ok _ _ hdu (by omega) (by omega)) ?_
  simp -dsimp
  refine fun hsu => ?_
  have hou := GUnit.sz_ok (by omega) (by omega) hsu
  have hqu := GUnit.sz_le u (s.sz 1048576) (by omega)
  have hfu := GUnit.sz_fine (by omega) (by omega) hsu
  have hw := doUnit_ok hos hou
  have b1 := GState.mt_ub s hos 1
  have l1 := GState.mt_le s 1 (by omega)
  have b2 := GUnit.mt_ub u hfu (s.mt 1).2
  have l2 := GUnit.mt_le u (s.mt 1).2 (by omega)
  have b3 := GState.mt_ub (doUnit s u).1 hw 1
  have l3 := GState.mt_le (doUnit s u).1 1 (by omega)
  refine ACallK_of (f12_ok _ hos) ?_
  simp -dsimp
  refine ACallK_of (f13_ok _ hou) ?_
  simp -dsimp
  refine ACallK_of (f11_ok _ _ hos hou) ?_
  simp -dsimp
  refine ACallK_of (f12_ok _ hos) ?_
  simp -dsimp
  refine ACallK_of (f13_ok _ hou) ?_
  simp -dsimp
  refine ACallK_of (f14_ok _ _ hos hou) ?_
  simp -dsimp
  refine ACallK_of (f15_ok _ _ hw) ?_
  simp -dsimp
  refine ACallK_of (f12_ok _ hos) ?_
  simp -dsimp
  refine ACallK_of (f15_ok _ _ hos) ?_
  simp -dsimp
  refine ACallK_of (f13_ok _ hou) ?_
  simp -dsimp
  refine ACallK_of (f16_ok _ _ hou) ?_
  simp -dsimp
  refine ACallW_args (by intro us; simp -dsimp; exact ⟨rfl, rfl, rfl⟩) ?_
  refine ACallC_of (fun us => f17_ok _ _ hos (by omega) (by omega)) (by intro us; simp -dsimp; exact ⟨rfl, rfl⟩) ?_
  have ns : ¬ (s.mt 1).2 < 0 := by omega
  have ps : 0 ≤ (s.mt 1).2 := by omega
  simp -dsimp [ns, ps]
  repeat (first | refine ⟨by omega, ?_⟩ | refine ⟨⟨by omega, by omega⟩, ?_⟩ | refine fun _ => ?_)
  refine ACallW_args (by intro us; simp -dsimp; exact ⟨rfl, rfl, rfl⟩) ?_
  refine ACallC_of (fun us => f18_ok _ _ hou (by omega) (by omega)) (by intro us; simp -dsimp; exact ⟨rfl, rfl⟩) ?_
  have nu : ¬ (u.mt (s.mt 1).2).2 < 0 := by omega
  have pu : 0 ≤ (u.mt (s.mt 1).2).2 := by omega
  simp -dsimp [nu, pu]
  repeat (first | refine ⟨by omega, ?_⟩ | refine ⟨⟨by omega, by omega⟩, ?_⟩ | refine fun _ => ?_)
  refine ACallK_of (f15_ok _ _ hw) ?_
  simp -dsimp [ns, ps, nu, pu]
  repeat (first | refine ⟨by omega, ?_⟩ | refine ⟨⟨by omega, by omega⟩, ?_⟩ | refine fun _ => ?_)
  refine ACallW_args (by intro us; simp -dsimp; exact ⟨rfl, rfl, rfl⟩) ?_
  refine ACallC_of (fun us => f17_ok _ _ hw (by omega) (by omega)) (by intro us; simp -dsimp; exact ⟨rfl, rfl⟩) ?_
  have r0 : ¬ ((doUnit s u).1.mt 1).2 < 0 := by omega
  have s0 : 0 ≤ ((doUnit s u).1.mt 1).2 := by omega
  simp -dsimp [ns, ps, nu, pu, r0, s0]
  repeat (first | refine ⟨by omega, ?_⟩ | refine ⟨⟨by omega, by omega⟩, ?_⟩ | refine fun _ => ?_)
  refine ACallK_of (f19_ok _ _ hw (by omega) (by omega)) ?_
  simp -dsimp [ns, ps, nu, pu, r0, s0]
  repeat (first | refine ⟨by omega, ?_⟩ | refine ⟨⟨by omega, by omega⟩, ?_⟩ | refine fun _ => ?_)
  refine ACallK_of (f12_ok _ hos) ?_
  simp -dsimp
  refine ACallK_of (f13_ok _ hou) ?_
  simp -dsimp
  refine ACallK_of (f14_ok _ _ hos hou) ?_
  simp -dsimp [ns, ps, nu, pu, r0, s0]
  refine ACallK_of (f15_ok _ _ hw) ?_
  simp -dsimp [ns, ps, nu, pu, r0, s0]
  repeat (first | refine ⟨by omega, ?_⟩ | refine ⟨⟨by omega, by omega⟩, ?_⟩ | refine fun _ => ?_)
  refine ACallK_of (f19_ok _ _ hw (by omega) (by omega)) ?_
  simp -dsimp [ns, ps, nu, pu, r0, s0]
  repeat (first | refine ⟨by omega, ?_⟩ | refine ⟨⟨by omega, by omega⟩, ?_⟩ | refine fun _ => ?_)
end Am
