/- KeysOf and SetOf: the laws. No condition. -/
import Derived.Test.YtlkkgdealgceeaaT
import Derived.Test.YtlkkgdealgceeaaF1
import Derived.Test.YtlkkgdealgceeaaF2
import Derived.Test.YtlkkgdealgceeaaE20
namespace Am
open Go Go.Proofs
set_option linter.unusedSimpArgs false
set_option linter.unusedVariables false

theorem mkS_ub {α : Type} {f : α → Int → α × Int} {c : Int} (hf : ∀ x k, (f x k).2 ≤ k + c) : ∀ (xs : List α) (k : Int), (mkS f xs k).2 ≤ k + xs.length * c
  | [], k => by simp [mkS]
  | x :: xs, k => by
    have h1 := hf x k
    have h2 := mkS_ub hf xs (f x k).2
    simp only [mkS, List.length_cons]
    push_cast
    rw [Int.add_mul]
    omega
theorem GState.mt_ub (s : GState) (h : s.Ok) (k : Int) : (s.mt k).2 ≤ k + 20000000000 := by
  simp only [GState.Ok] at h
  obtain ⟨o0, o1, _, o2, _, o3, _⟩ := h
  have u1 := mkS_ub (f := mkInt) (c := 1) (fun x k => by simp [mkInt]) s.know k
  have u2 := mkS_ub (f := GTally.mar) (c := 3) (fun x k => by simp [GTally.mar]; omega) s.tallies (mkS mkInt s.know k).2
  have u3 := mkS_ub (f := GLive.mar) (c := 6) (fun x k => by simp [GLive.mar]; omega) s.lives (mkS GTally.mar s.tallies (mkS mkInt s.know k).2).2
  have u4 := mkS_ub (f := GCell.mar) (c := 8) (fun x k => by simp [GCell.mar]; omega) s.cs (mkS GLive.mar s.lives (mkS GTally.mar s.tallies (mkS mkInt s.know k).2).2).2
  simp only [GState.mt]
  omega

@[simp] def h7 : Hts := { lend := fun f => if f = 29 then [.lend] else if f = 30 then [.lend] else [], dr := fun id => if id = 12 then [{ mb := [36] }, {}, { cr := true }, { cr := true }, {}] else [] }
set_option maxHeartbeats 2000000 in
theorem f7_ok (s : GState) (o : ByteArray) (hd : s.Fit) (hfo : o.size ≤ 9223372036854775807) : FnR Try.prog 7 [.agg [.im s.know.length (flat s.know), .im s.tallies.length (flat s.tallies), .im s.lives.length (flat s.lives), .im s.cs.length (flat s.cs)], .v (.str o)] (.v (.bool true)) := by
  refine FnW.of_AW TryT_ok 0 (fn := Try.f7) (by kernel_rfl) rfl (by kernel_rfl) rfl rfl rfl ?_
  refine AW_of h7 TryT_ok (by kernel_rfl) ?_
  simp -dsimp
  intro _
  refine ACallK_of (f19_ok _ _ hd (by omega) (by omega)) ?_
  simp -dsimp
  refine fun hs => ?_
  have ho := GState.sz_ok (by omega) (by omega) hs
  have hl := ho
  simp only [GState.Ok] at hl
  have hll := hl.2.2.2.1
  have hkl : (keysS s true o).length ≤ 1073741824 := Nat.le_trans (keysUpto_len s true o _) hll
  have b1 := GState.mt_ub s ho 1
  have b2 := mkS_ub (f := mkStr) (c := 1) (fun x k => by simp [mkStr]) (keysS s true o) 1
  have l1 := GState.mt_le s 1 (by omega)
  have l2 := mkS_le mkStr_le (keysS s true o) 1 (by omega)
  refine ACallK_of (f21_ok _ ho) ?_
  simp -dsimp
  refine ACallK_of (f26_ok _ _ hll) ?_
  simp -dsimp
  refine ACallK_of (f21_ok _ ho) ?_
  simp -dsimp
  refine ACallK_of (f27_ok _ _ hll) ?_
  simp -dsimp
  refine ACallK_of (f28_ok _ _ hkl) ?_
  simp -dsimp
  refine ACallK_of (f21_ok _ ho) ?_
  simp -dsimp
  refine ACallK_of (f23_ok _ _ ho) ?_
  simp -dsimp
  refine ACallW_args (by intro us; simp -dsimp; exact ⟨rfl, rfl, rfl⟩) ?_
  refine ACallC_of (fun us => f29_ok _ _ ho (by omega) (by omega)) (by intro us; simp -dsimp; exact ⟨rfl, rfl⟩) ?_
  have m0 : ¬ (s.mt 1).2 < 0 := by omega
  have m1 : 0 ≤ (s.mt 1).2 := by omega
  simp -dsimp [m0, m1]
  repeat (first | refine ⟨by omega, ?_⟩ | refine fun _ => ?_)
  refine ACallK_of (f28_ok _ _ hkl) ?_
  simp -dsimp
  repeat (first | refine ⟨by omega, ?_⟩ | refine fun _ => ?_)
  refine ACallW_args (by intro us; simp -dsimp; exact ⟨rfl, rfl, rfl⟩) ?_
  refine ACallC_of (fun us => f30_ok _ _ hkl (by omega) (by omega)) (by intro us; simp -dsimp; exact ⟨rfl, rfl⟩) ?_
  simp -dsimp
  refine ACallK_of (f31_ok _ _ hkl (by omega) (by omega)) ?_
  simp -dsimp
  repeat (first | refine ⟨by omega, ?_⟩ | refine fun _ => ?_)
  refine ACallK_of (f21_ok _ ho) ?_
  simp -dsimp
  refine ACallK_of (f27_ok _ _ hll) ?_
  simp -dsimp
  refine ACallK_of (f28_ok _ _ hkl) ?_
  simp -dsimp
  refine ACallK_of (f31_ok _ _ hkl (by omega) (by omega)) ?_
  simp -dsimp
  repeat (first | refine ⟨by omega, ?_⟩ | refine fun _ => ?_)
  omega

@[simp] def h8 : Hts := { lend := fun f => if f = 29 then [.lend] else if f = 30 then [.lend] else [], dr := fun id => if id = 12 then [{ mb := [36] }, {}, { cr := true }, { cr := true }, {}] else [] }
set_option maxHeartbeats 2000000 in
theorem f8_ok (s : GState) (o : ByteArray) (hd : s.Fit) (hfo : o.size ≤ 9223372036854775807) : FnR Try.prog 8 [.agg [.im s.know.length (flat s.know), .im s.tallies.length (flat s.tallies), .im s.lives.length (flat s.lives), .im s.cs.length (flat s.cs)], .v (.str o)] (.v (.bool true)) := by
  refine FnW.of_AW TryT_ok 0 (fn := Try.f8) (by kernel_rfl) rfl (by kernel_rfl) rfl rfl rfl ?_
  refine AW_of h8 TryT_ok (by kernel_rfl) ?_
  simp -dsimp
  intro _
  refine ACallK_of (f19_ok _ _ hd (by omega) (by omega)) ?_
  simp -dsimp
  refine fun hs => ?_
  have ho := GState.sz_ok (by omega) (by omega) hs
  have hl := ho
  simp only [GState.Ok] at hl
  have hll := hl.2.2.2.1
  have hkl : (keysS s false o).length ≤ 1073741824 := Nat.le_trans (keysUpto_len s false o _) hll
  have b1 := GState.mt_ub s ho 1
  have b2 := mkS_ub (f := mkStr) (c := 1) (fun x k => by simp [mkStr]) (keysS s false o) 1
  have l1 := GState.mt_le s 1 (by omega)
  have l2 := mkS_le mkStr_le (keysS s false o) 1 (by omega)
  refine ACallK_of (f21_ok _ ho) ?_
  simp -dsimp
  refine ACallK_of (f32_ok _ _ hll) ?_
  simp -dsimp
  refine ACallK_of (f21_ok _ ho) ?_
  simp -dsimp
  refine ACallK_of (f33_ok _ _ hll) ?_
  simp -dsimp
  refine ACallK_of (f28_ok _ _ hkl) ?_
  simp -dsimp
  refine ACallK_of (f21_ok _ ho) ?_
  simp -dsimp
  refine ACallK_of (f23_ok _ _ ho) ?_
  simp -dsimp
  refine ACallW_args (by intro us; simp -dsimp; exact ⟨rfl, rfl, rfl⟩) ?_
  refine ACallC_of (fun us => f29_ok _ _ ho (by omega) (by omega)) (by intro us; simp -dsimp; exact ⟨rfl, rfl⟩) ?_
  have m0 : ¬ (s.mt 1).2 < 0 := by omega
  have m1 : 0 ≤ (s.mt 1).2 := by omega
  simp -dsimp [m0, m1]
  repeat (first | refine ⟨by omega, ?_⟩ | refine fun _ => ?_)
  refine ACallK_of (f28_ok _ _ hkl) ?_
  simp -dsimp
  repeat (first | refine ⟨by omega, ?_⟩ | refine fun _ => ?_)
  refine ACallW_args (by intro us; simp -dsimp; exact ⟨rfl, rfl, rfl⟩) ?_
  refine ACallC_of (fun us => f30_ok _ _ hkl (by omega) (by omega)) (by intro us; simp -dsimp; exact ⟨rfl, rfl⟩) ?_
  simp -dsimp
  refine ACallK_of (f31_ok _ _ hkl (by omega) (by omega)) ?_
  simp -dsimp
  repeat (first | refine ⟨by omega, ?_⟩ | refine fun _ => ?_)
  refine ACallK_of (f21_ok _ ho) ?_
  simp -dsimp
  refine ACallK_of (f33_ok _ _ hll) ?_
  simp -dsimp
  refine ACallK_of (f28_ok _ _ hkl) ?_
  simp -dsimp
  refine ACallK_of (f31_ok _ _ hkl (by omega) (by omega)) ?_
  simp -dsimp
  repeat (first | refine ⟨by omega, ?_⟩ | refine fun _ => ?_)
  omega
end Am
