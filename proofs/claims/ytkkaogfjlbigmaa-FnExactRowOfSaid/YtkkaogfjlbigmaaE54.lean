/- Tallies put together: the reference's. No condition. -/
import Derived.Test.YtkkaogfjlbigmaaT
import Derived.Test.YtkkaogfjlbigmaaD
import Derived.Test.YtkkaogfjlbigmaaE53
import Derived.Test.YtkkaogfjlbigmaaE52
import Derived.Test.YtkkaogfjlbigmaaE5
import Derived.Test.YtkkaogfjlbigmaaE7
import Derived.Test.YtkkaogfjlbigmaaAm31
namespace Am
open Go Go.Proofs
open Cel (cells)
set_option maxRecDepth 100000
set_option linter.unusedSimpArgs false
set_option linter.unusedVariables false

def addN (p : GTally → Bool) (base l : List GTally) : Nat → List GTally
  | 0 => base
  | n + 1 => if p (nth l n) = true then addT (addN p base l n) (nth l n).obj (nth l n).rep (nth l n).sum else addN p base l n
theorem addT_len (l : List GTally) (o : ByteArray) (r v : Int) : (addT l o r v).length ≤ l.length + 1 := by
  unfold addT
  split
  · simp
  · rw [insF_len]; omega
theorem addN_len (p : GTally → Bool) (base l : List GTally) : ∀ n, (addN p base l n).length ≤ base.length + n
  | 0 => by simp [addN]
  | n + 1 => by
    have := addN_len p base l n
    have := addT_len (addN p base l n) (nth l n).obj (nth l n).rep (nth l n).sum
    simp only [addN]; split <;> omega
/-- the tallies of a that b knows no more of, then those of b that b knows more of -/
def noMore (ka kb : List Int) (t : GTally) : Bool := decide (nth kb t.rep.toNat ≤ nth ka t.rep.toNat)
def more (ka kb : List Int) (t : GTally) : Bool := decide (nth ka t.rep.toNat < nth kb t.rep.toNat)
def repsIn (l : List GTally) : Prop := ∀ i : Nat, i < l.length → 0 ≤ (nth l i).rep ∧ (nth l i).rep < 3
def talTwo (ka kb : List Int) (x y : List GTally) : List GTally := addN (more ka kb) (addN (noMore ka kb) [] x x.length) y y.length
end Am
