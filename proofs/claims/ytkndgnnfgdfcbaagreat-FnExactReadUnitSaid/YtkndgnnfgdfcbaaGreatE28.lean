/- How high marks go, of changes. No condition. -/
import Derived.Test.YtkndgnnfgdfcbaaGreatT
import Derived.Test.YtkndgnnfgdfcbaaGreatD
import Derived.Test.YtkndgnnfgdfcbaaGreatE27
namespace Am
open Go Go.Proofs
set_option linter.unusedSimpArgs false
set_option linter.unusedVariables false
theorem GDelta.mt_ub (s : GDelta) (h : s.Ok) (k : Int) : (s.mt k).2 ≤ k + 30000000000 := by
  simp only [GDelta.Ok] at h
  obtain ⟨o0, o1, o2, _, o4, _, o6, o7, _⟩ := h
  have u0 := mkS_ub (f := mkInt) (c := 1) (fun x k => by simp [mkInt]) s.base k
  have u1 := mkS_ub (f := mkInt) (c := 1) (fun x k => by simp [mkInt]) s.know (mkS mkInt s.base k).2
  have u2 := mkS_ub (f := GTally.mar) (c := 3) (fun x k => by simp [GTally.mar]; omega) s.tallies (mkS mkInt s.know (mkS mkInt s.base k).2).2
  have u3 := mkS_ub (f := GLive.mar) (c := 6) (fun x k => by simp [GLive.mar]; omega) s.lives (mkS GTally.mar s.tallies (mkS mkInt s.know (mkS mkInt s.base k).2).2).2
  have u4 := mkS_ub (f := GDot.mar) (c := 2) (fun x k => by simp [GDot.mar]; omega) s.dead (mkS GLive.mar s.lives (mkS GTally.mar s.tallies (mkS mkInt s.know (mkS mkInt s.base k).2).2).2).2
  have u5 := mkS_ub (f := GCell.mar) (c := 8) (fun x k => by simp [GCell.mar]; omega) s.cs (mkS GDot.mar s.dead (mkS GLive.mar s.lives (mkS GTally.mar s.tallies (mkS mkInt s.know (mkS mkInt s.base k).2).2).2).2).2
  simp only [GDelta.mt]
  omega
end Am
