/- How many marks there are. No condition. -/
import Derived.Test.YtpgnllakcjajjaaGreatT
import Derived.Test.YtpgnllakcjajjaaGreatF1
import Derived.Test.YtpgnllakcjajjaaGreatF2
namespace Am
open Go Go.Proofs
set_option linter.unusedSimpArgs false
set_option linter.unusedVariables false

theorem mkS_ub {α : Type} {f : α → Int → α × Int} {c : Int} (hf : ∀ x k, (f x k).2 ≤ k + c) : ∀ (xs : List α) (k : Int), (mkS f xs k).2 ≤ k + xs.length * c
  | [], k => by simp [mkS]
  | x :: xs, k => by
    have h1 := hf x k
    have h2 := mkS_ub hf xs (f x k).2
    simp only [mkS, List.length_cons]
    push_cast
    rw [Int.add_mul]
    omega
theorem GState.mt_ub (s : GState) (h : s.Ok) (k : Int) : (s.mt k).2 ≤ k + 20000000000 := by
  simp only [GState.Ok] at h
  obtain ⟨o0, o1, _, o2, _, o3, _⟩ := h
  have u1 := mkS_ub (f := mkInt) (c := 1) (fun x k => by simp [mkInt]) s.know k
  have u2 := mkS_ub (f := GTally.mar) (c := 3) (fun x k => by simp [GTally.mar]; omega) s.tallies (mkS mkInt s.know k).2
  have u3 := mkS_ub (f := GLive.mar) (c := 6) (fun x k => by simp [GLive.mar]; omega) s.lives (mkS GTally.mar s.tallies (mkS mkInt s.know k).2).2
  have u4 := mkS_ub (f := GCell.mar) (c := 8) (fun x k => by simp [GCell.mar]; omega) s.cs (mkS GLive.mar s.lives (mkS GTally.mar s.tallies (mkS mkInt s.know k).2).2).2
  simp only [GState.mt]
  omega

theorem delta_ub (s : GDelta) (k : Int) : (mkS GCell.mar s.cs (mkS GDot.mar s.dead (mkS GLive.mar s.lives (mkS GTally.mar s.tallies (mkS mkInt s.know (mkS mkInt s.base k).2).2).2).2).2).2 ≤
    k + (s.base.length + s.know.length + 3 * s.tallies.length + 6 * s.lives.length + 2 * s.dead.length + 8 * s.cs.length) := by
  have u0 := mkS_ub (f := mkInt) (c := 1) (fun x k => by simp [mkInt]) s.base k
  have u1 := mkS_ub (f := mkInt) (c := 1) (fun x k => by simp [mkInt]) s.know (mkS mkInt s.base k).2
  have u2 := mkS_ub (f := GTally.mar) (c := 3) (fun x k => by simp [GTally.mar]; omega) s.tallies (mkS mkInt s.know (mkS mkInt s.base k).2).2
  have u3 := mkS_ub (f := GLive.mar) (c := 6) (fun x k => by simp [GLive.mar]; omega) s.lives (mkS GTally.mar s.tallies (mkS mkInt s.know (mkS mkInt s.base k).2).2).2
  have u4 := mkS_ub (f := GDot.mar) (c := 2) (fun x k => by simp [GDot.mar]; omega) s.dead (mkS GLive.mar s.lives (mkS GTally.mar s.tallies (mkS mkInt s.know (mkS mkInt s.base k).2).2).2).2
  have u5 := mkS_ub (f := GCell.mar) (c := 8) (fun x k => by simp [GCell.mar]; omega) s.cs (mkS GDot.mar s.dead (mkS GLive.mar s.lives (mkS GTally.mar s.tallies (mkS mkInt s.know (mkS mkInt s.base k).2).2).2).2).2
  omega
theorem GDelta.mt_ub (d : GDelta) (h : d.Ok) (k : Int) : (d.mt k).2 ≤ k + 100000000000 := by
  simp only [GDelta.Ok] at h
  have := delta_ub d k
  simp only [GDelta.mt]
  omega
end Am
