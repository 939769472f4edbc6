/- Fetched: the law. No condition. -/
import Derived.Test.YtblhppnhiaombaaGreatT
import Derived.Test.YtblhppnhiaombaaGreatF1
import Derived.Test.YtblhppnhiaombaaGreatF2
import Derived.Test.YtblhppnhiaombaaGreatG0
import Derived.Test.YtblhppnhiaombaaGreatE94
namespace Am
open Go Go.Proofs
set_option linter.unusedSimpArgs false
set_option linter.unusedVariables false

theorem fetK_fine {g h : GGraph} (fg : g.Fine) (fh : h.Fine) (kg : graphOk g = true) (kh : graphOk h = true) {k : Nat} (hk : k < h.commits.length) : ∀ i : Nat, i ≤ (upsL h k).length → (⟨fetK g h (upsL h k) i, g.head⟩ : GGraph).Fine := by
  have lg : g.commits.length ≤ 80 := by simp only [graphOk, Bool.and_eq_true, decide_eq_true_eq] at kg; exact kg.1.1
  have lh : h.commits.length ≤ 80 := by simp only [graphOk, Bool.and_eq_true, decide_eq_true_eq] at kh; exact kh.1.1
  have hul := upsL_len h k
  intro i
  induction i with
  | zero => intro _; simpa only [fetK] using fg
  | succ i ih =>
    intro hi
    have ih := ih (by omega)
    have hfl := fetK_len g h (upsL h k) (i + 1)
    rw [fetK] at hfl
    unfold GGraph.Fine at ih ⊢
    rw [fetK]
    refine ⟨by simp only; omega, ?_⟩
    simp only [fetC]
    split
    · exact ih.2
    · intro y hy
      rcases List.mem_append.1 hy with hy | hy
      · exact ih.2 y hy
      · simp only [List.mem_singleton] at hy
        subst hy
        obtain ⟨x, hx1, _, hx2⟩ := upsL_at (g := h) (k := k) (i := i) (by omega)
        have hxl : x < h.commits.length := by omega
        have hc := fh.2 _ (nth_mem hxl)
        have h2 := graphOk_ups2 kh hxl
        rw [hx2, Int.toNat_natCast]
        simp only [GCommit.Fine, fetY] at hc ⊢
        rw [sortI_len, upK_len]
        exact ⟨by omega, hc.2⟩
theorem fetched_ok {g h : GGraph} (hg : g.Ok) (hh : h.Ok) (fg : g.Fine) (fh : h.Fine) (k : Int) : (fetched g h k).1.Ok ∧ (fetched g h k).1.Fine := by
  unfold fetched
  split
  · rename_i hc
    simp only [Bool.and_eq_true, spIn, decide_eq_true_eq] at hc
    obtain ⟨⟨⟨q1, q2⟩, q3⟩, q4⟩ := hc
    exact ⟨fetK_ok hg hh q2 q1 (by omega) _ (Nat.le_refl _), fetK_fine fg fh q1 q2 (by omega) _ (Nat.le_refl _)⟩
  · exact ⟨hg, fg⟩

@[simp] def h6 : Hts := { lend := fun f => if f = 25 then [.lend] else [], dr := fun id => if id = 8 then [{ mb := [8] }, { cr := true, mb := [8] }, { mb := [31, 8] }, { cr := true, mb := [8] }, { mb := [31, 33, 8] }, { cr := true, mb := [8] }, { mb := [8] }, { mb := [8] }, { mn := [512], mb := [8] }, { cr := true, mb := [31, 33, 35] }, { wr := [512] }, {}] else if id = 14 then [{ mb := [60] }, {}, { cr := true }, { cr := true }, {}] else if id = 16 then [{ mb := [65] }, {}, { cr := true }, { cr := true }, {}] else if id = 31 then [{ mb := [17] }, { cr := true, mb := [17] }, { mb := [100, 17] }, { cr := true, mb := [17] }, { mb := [100, 102, 17] }, { cr := true, mb := [17] }, { mb := [17] }, { mb := [17] }, { mn := [1088], mb := [17] }, { cr := true, mb := [100, 102, 104] }, { wr := [1088] }, {}] else [] }
set_option maxHeartbeats 2000000 in
theorem f6_ok (g : GGraph) (h : GGraph) (k : Int) (hdg : g.Fit) (hdh : h.Fit) (hdk : IntKind.i64.min ≤ k) (hdk' : k ≤ IntKind.i64.max) : FnR Tryz.prog 6 [.agg [.im g.commits.length (flat g.commits), .int .i64 g.head], .agg [.im h.commits.length (flat h.commits), .int .i64 h.head], .v (.int .i64 k)] (.v (.bool true)) := by
  refine FnW.of_AW TryzT_ok 0 (fn := Tryz.f6) (by kernel_rfl) rfl (by kernel_rfl) rfl rfl rfl ?_; refine AW_of h6 TryzT_ok (by kernel_rfl) ?_
  simp -dsimp
  refine ACallK_of (f20_ok _ _ hdg (by omega) (by omega)) ?_
  simp -dsimp
  refine fun hsg => ?_
  have hog := GGraph.sz_ok (by omega) (by omega) hsg
  have hqg := GGraph.sz_le g 1048576 (by omega)
  refine ACallK_of (f20_ok _ _ hdh (by omega) (by omega)) ?_
  simp -dsimp
  refine fun hsh => ?_
  have hoh := GGraph.sz_ok (by omega) (by omega) hsh
  have hqh := GGraph.sz_le h (g.sz 1048576) (by omega)
  have fg := GGraph.sz_fine (by omega) (by omega) hsg
  have b1 := GGraph.mt_ub g fg 1
  have l1 := GGraph.mt_le g 1 (by omega)
  have fh := GGraph.sz_fine (by omega) (by omega) hsh
  have b3 := GGraph.mt_ub h fh (g.mt 1).2
  have l3 := GGraph.mt_le h (g.mt 1).2 (by omega)
  have hwf := fetched_ok hog hoh fg fh k
  have hw := hwf.1
  have b2 := GGraph.mt_ub (fetched g h k).1 hwf.2 1
  have l2 := GGraph.mt_le (fetched g h k).1 1 (by omega)
  refine ACallK_of (f22_ok _ hog) ?_
  simp -dsimp
  refine ACallK_of (f22_ok _ hoh) ?_
  simp -dsimp
  refine ACallK_of (f31_ok _ _ hog hoh _) ?_
  simp -dsimp
  refine ACallK_of (f22_ok _ hog) ?_
  simp -dsimp
  refine ACallK_of (f22_ok _ hoh) ?_
  simp -dsimp
  refine ACallK_of (f32_ok _ _ hog hoh _) ?_
  simp -dsimp
  refine ACallK_of (f24_ok _ _ hw) ?_
  simp -dsimp
  refine ACallK_of (f22_ok _ hog) ?_
  simp -dsimp
  refine ACallK_of (f24_ok _ _ hog) ?_
  simp -dsimp
  refine ACallK_of (f22_ok _ hoh) ?_
  simp -dsimp
  refine ACallK_of (f24_ok _ _ hoh) ?_
  simp -dsimp
  refine ACallW_args (by intro us; simp -dsimp; exact ⟨rfl, rfl, rfl⟩) ?_
  refine ACallC_of (fun us => f25_ok _ _ hog (by omega) (by omega)) (by intro us; simp -dsimp; exact ⟨rfl, rfl⟩) ?_
  have ng : ¬ (g.mt 1).2 < 0 := by omega
  have pg : 0 ≤ (g.mt 1).2 := by omega
  simp -dsimp [ng, pg]
  repeat (first | refine ⟨by omega, ?_⟩ | refine ⟨⟨by omega, by omega⟩, ?_⟩ | refine fun _ => ?_)
  refine ACallW_args (by intro us; simp -dsimp; exact ⟨rfl, rfl, rfl⟩) ?_
  refine ACallC_of (fun us => f25_ok _ _ hoh (by omega) (by omega)) (by intro us; simp -dsimp; exact ⟨rfl, rfl⟩) ?_
  have nh : ¬ (h.mt (g.mt 1).2).2 < 0 := by omega
  have ph : 0 ≤ (h.mt (g.mt 1).2).2 := by omega
  simp -dsimp [nh, ph]
  repeat (first | refine ⟨by omega, ?_⟩ | refine ⟨⟨by omega, by omega⟩, ?_⟩ | refine fun _ => ?_)
  refine ACallK_of (f24_ok _ _ hw) ?_
  simp -dsimp [ng, pg, nh, ph]
  repeat (first | refine ⟨by omega, ?_⟩ | refine ⟨⟨by omega, by omega⟩, ?_⟩ | refine fun _ => ?_)
  refine ACallW_args (by intro us; simp -dsimp; exact ⟨rfl, rfl, rfl⟩) ?_
  refine ACallC_of (fun us => f25_ok _ _ hw (by omega) (by omega)) (by intro us; simp -dsimp; exact ⟨rfl, rfl⟩) ?_
  have r0 : ¬ ((fetched g h k).1.mt 1).2 < 0 := by omega
  have s0 : 0 ≤ ((fetched g h k).1.mt 1).2 := by omega
  simp -dsimp [ng, pg, nh, ph, r0, s0]
  repeat (first | refine ⟨by omega, ?_⟩ | refine ⟨⟨by omega, by omega⟩, ?_⟩ | refine fun _ => ?_)
  refine ACallK_of (f33_ok _ _ hw (by omega) (by omega)) ?_
  simp -dsimp [ng, pg, nh, ph, r0, s0]
  repeat (first | refine ⟨by omega, ?_⟩ | refine ⟨⟨by omega, by omega⟩, ?_⟩ | refine fun _ => ?_)
  refine ACallK_of (f22_ok _ hog) ?_
  simp -dsimp
  refine ACallK_of (f22_ok _ hoh) ?_
  simp -dsimp
  refine ACallK_of (f32_ok _ _ hog hoh _) ?_
  simp -dsimp [ng, pg, nh, ph, r0, s0]
  refine ACallK_of (f24_ok _ _ hw) ?_
  simp -dsimp [ng, pg, nh, ph, r0, s0]
  repeat (first | refine ⟨by omega, ?_⟩ | refine ⟨⟨by omega, by omega⟩, ?_⟩ | refine fun _ => ?_)
  refine ACallK_of (f33_ok _ _ hw (by omega) (by omega)) ?_
  simp -dsimp [ng, pg, nh, ph, r0, s0]
  repeat (first | refine ⟨by omega, ?_⟩ | refine ⟨⟨by omega, by omega⟩, ?_⟩ | refine fun _ => ?_)
end Am
