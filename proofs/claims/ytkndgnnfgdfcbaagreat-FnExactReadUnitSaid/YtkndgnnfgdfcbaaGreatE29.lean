/- How high marks go, of units. No condition. -/
import Derived.Test.YtkndgnnfgdfcbaaGreatT
import Derived.Test.YtkndgnnfgdfcbaaGreatD
import Derived.Test.YtkndgnnfgdfcbaaGreatE28
namespace Am
open Go Go.Proofs
set_option linter.unusedSimpArgs false
set_option linter.unusedVariables false
theorem GAct.mt_ub (a : GAct) (h : a.Ok) (k : Int) : (a.mt k).2 ≤ k + 2000000000 := by
  simp only [GAct.Ok] at h
  have u1 := mkS_ub (f := mkInt) (c := 1) (fun x k => by simp [mkInt]) a.knew k
  simp only [GAct.mt]
  omega
theorem GUnit.mt_ub (u : GUnit) (h : u.Ok) (k : Int) : (u.mt k).2 ≤ k + 40000000000 := by
  simp only [GUnit.Ok] at h
  have u1 := GAct.mt_ub u.act h.1 k
  have u2 := GDelta.mt_ub u.delta h.2 (u.act.mt k).2
  simp only [GUnit.mt]
  omega
end Am
