/- (This seat has no sort by a given order: what it compares by, alone.) No condition. -/
import Derived.Test.YtonemhaagbojeaaT
import Derived.Test.YtonemhaagbojeaaD
import Derived.Sort.Statements
import Derived.Test.YtonemhaagbojeaaAm31
namespace Go.Proofs
def ltOf {α : Type} (cmp : α → α → Int) (a b : α) : Bool := decide (cmp a b < 0)
end Go.Proofs
