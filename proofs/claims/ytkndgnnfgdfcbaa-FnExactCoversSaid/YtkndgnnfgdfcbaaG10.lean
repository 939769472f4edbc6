/- Covers: the law. No condition. -/
import Derived.Test.YtkndgnnfgdfcbaaT
import Derived.Test.YtkndgnnfgdfcbaaF1
import Derived.Test.YtkndgnnfgdfcbaaF2
import Derived.Test.YtkndgnnfgdfcbaaE23
namespace Am
open Go Go.Proofs
set_option linter.unusedSimpArgs false
set_option linter.unusedVariables false

theorem mkS_ub {α : Type} {f : α → Int → α × Int} {c : Int} (hf : ∀ x k, (f x k).2 ≤ k + c) : ∀ (xs : List α) (k : Int), (mkS f xs k).2 ≤ k + xs.length * c
  | [], k => by simp [mkS]
  | x :: xs, k => by
    have h1 := hf x k
    have h2 := mkS_ub hf xs (f x k).2
    simp only [mkS, List.length_cons]
    push_cast
    rw [Int.add_mul]
    omega
theorem GAct.mt_ub (a : GAct) (h : a.Ok) (k : Int) : (a.mt k).2 ≤ k + 2000000000 := by
  simp only [GAct.Ok] at h
  have u1 := mkS_ub (f := mkInt) (c := 1) (fun x k => by simp [mkInt]) a.knew k
  simp only [GAct.mt]
  omega
theorem GDelta.mt_ub (s : GDelta) (h : s.Ok) (k : Int) : (s.mt k).2 ≤ k + 30000000000 := by
  simp only [GDelta.Ok] at h
  obtain ⟨o0, o1, o2, _, o4, _, o6, o7, _⟩ := h
  have u0 := mkS_ub (f := mkInt) (c := 1) (fun x k => by simp [mkInt]) s.base k
  have u1 := mkS_ub (f := mkInt) (c := 1) (fun x k => by simp [mkInt]) s.know (mkS mkInt s.base k).2
  have u2 := mkS_ub (f := GTally.mar) (c := 3) (fun x k => by simp [GTally.mar]; omega) s.tallies (mkS mkInt s.know (mkS mkInt s.base k).2).2
  have u3 := mkS_ub (f := GLive.mar) (c := 6) (fun x k => by simp [GLive.mar]; omega) s.lives (mkS GTally.mar s.tallies (mkS mkInt s.know (mkS mkInt s.base k).2).2).2
  have u4 := mkS_ub (f := GDot.mar) (c := 2) (fun x k => by simp [GDot.mar]; omega) s.dead (mkS GLive.mar s.lives (mkS GTally.mar s.tallies (mkS mkInt s.know (mkS mkInt s.base k).2).2).2).2
  have u5 := mkS_ub (f := GCell.mar) (c := 8) (fun x k => by simp [GCell.mar]; omega) s.cs (mkS GDot.mar s.dead (mkS GLive.mar s.lives (mkS GTally.mar s.tallies (mkS mkInt s.know (mkS mkInt s.base k).2).2).2).2).2
  simp only [GDelta.mt]
  omega
theorem GUnit.mt_ub (u : GUnit) (h : u.Ok) (k : Int) : (u.mt k).2 ≤ k + 40000000000 := by
  simp only [GUnit.Ok] at h
  have u1 := GAct.mt_ub u.act h.1 k
  have u2 := GDelta.mt_ub u.delta h.2 (u.act.mt k).2
  simp only [GUnit.mt]
  omega
theorem dotsIn_len (a b : List Int) : (dotsIn a b).length ≤ 3000 := by
  unfold dotsIn
  split
  · rename_i h
    simp only [Bool.and_eq_true] at h
    have h3 : a.length = 3 := by have := h.1; simp [knowOk] at this; exact this.1
    have := rowsK_len h.1 h.2 a.length (by omega)
    omega
  · simp
theorem coversD_len (u : GUnit) : (coversD u).length ≤ 3000 := by
  have := dotsIn_len u.delta.base u.delta.know
  unfold coversD
  split
  · split
    · omega
    · simp
  · simp

@[simp] def h3 : Hts := { lend := fun f => if f = 12 then [.lend] else if f = 13 then [.lend] else [], dr := fun id => if id = 10 then [{ mb := [29] }, {}, { cr := true }, { cr := true }, {}] else [] }
set_option maxHeartbeats 2000000 in
theorem f3_ok (u : GUnit) (hd : u.Fit) : FnR Try.prog 3 [.agg [.bool u.batch, .int .i64 u.act.dot.rep, .int .i64 u.act.dot.seq, .int .i64 u.act.time, .im u.act.knew.length (flat u.act.knew), .int .i64 u.act.kind, .str u.act.obj, .str u.act.key, .int .i64 u.act.val, .int .i64 u.act.ref.rep, .int .i64 u.act.ref.seq, .im u.delta.base.length (flat u.delta.base), .im u.delta.know.length (flat u.delta.know), .im u.delta.tallies.length (flat u.delta.tallies), .im u.delta.lives.length (flat u.delta.lives), .im u.delta.dead.length (flat u.delta.dead), .im u.delta.cs.length (flat u.delta.cs)]] (.v (.bool true)) := by
  refine FnW.of_AW TryT_ok 0 (fn := Try.f3) (by kernel_rfl) rfl (by kernel_rfl) rfl rfl rfl ?_
  refine AW_of h3 TryT_ok (by kernel_rfl) ?_
  simp -dsimp
  refine ACallK_of (f6_ok _ _ hd (by omega) (by omega)) ?_
  simp -dsimp
  refine fun hs => ?_
  have ho := GUnit.sz_ok (by omega) (by omega) hs
  have hcl := coversD_len u
  have hkl : (coversD u).length ≤ 1073741824 := by omega
  have b1 := GUnit.mt_ub u ho 1
  have b2 := mkS_ub (f := GDot.mar) (c := 2) (fun x k => by simp [GDot.mar]; omega) (coversD u) 1
  have l1 := GUnit.mt_le u 1 (by omega)
  have l2 := mkS_le (f := GDot.mar) GDot.mar_le (coversD u) 1 (by omega)
  refine ACallK_of (f8_ok _ ho) ?_
  simp -dsimp
  refine ACallK_of (f7_ok _ ho) ?_
  simp -dsimp
  refine ACallK_of (f8_ok _ ho) ?_
  simp -dsimp
  refine ACallK_of (f9_ok _ ho) ?_
  simp -dsimp
  refine ACallK_of (f10_ok _ _ hkl) ?_
  simp -dsimp
  refine ACallK_of (f8_ok _ ho) ?_
  simp -dsimp
  refine ACallK_of (f11_ok _ _ ho) ?_
  simp -dsimp
  refine ACallW_args (by intro us; simp -dsimp; exact ⟨rfl, rfl, rfl⟩) ?_
  refine ACallC_of (fun us => f12_ok _ _ ho (by omega) (by omega)) (by intro us; simp -dsimp; exact ⟨rfl, rfl⟩) ?_
  have m0 : ¬ (u.mt 1).2 < 0 := by omega
  have m1 : 0 ≤ (u.mt 1).2 := by omega
  simp -dsimp [m0, m1]
  repeat (first | refine ⟨by omega, ?_⟩ | refine fun _ => ?_)
  refine ACallK_of (f10_ok _ _ hkl) ?_
  simp -dsimp
  repeat (first | refine ⟨by omega, ?_⟩ | refine fun _ => ?_)
  refine ACallW_args (by intro us; simp -dsimp; exact ⟨rfl, rfl, rfl⟩) ?_
  refine ACallC_of (fun us => f13_ok _ _ hkl (by omega) (by omega)) (by intro us; simp -dsimp; exact ⟨rfl, rfl⟩) ?_
  simp -dsimp
  refine ACallK_of (f14_ok _ _ hkl (by omega) (by omega)) ?_
  simp -dsimp
  repeat (first | refine ⟨by omega, ?_⟩ | refine fun _ => ?_)
  refine ACallK_of (f8_ok _ ho) ?_
  simp -dsimp
  refine ACallK_of (f9_ok _ ho) ?_
  simp -dsimp
  refine ACallK_of (f10_ok _ _ hkl) ?_
  simp -dsimp
  refine ACallK_of (f14_ok _ _ hkl (by omega) (by omega)) ?_
  simp -dsimp
  repeat (first | refine ⟨by omega, ?_⟩ | refine fun _ => ?_)
  omega
end Am
