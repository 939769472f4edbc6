/- The library's sort by a given order,over this program. No condition. -/
import Derived.Test.YtjbbhccphedkfaaGreatProg
import Derived.KernelRfl
import Derived.Shelf.SlSortCmp.WholeK
import Derived.Shelf.SlSortCmp.NoneTotal
import Derived.Test.YtjbbhccphedkfaaGreatT
import Derived.Test.YtjbbhccphedkfaaGreatD
import Derived.Test.YtjbbhccphedkfaaGreatAm34
set_option linter.unusedSimpArgs false
set_option linter.unusedVariables false
set_option linter.unnecessarySimpa false
set_option linter.unusedSectionVars false
namespace Am
open Go Go.Proofs Go.Sort Go.Shelf
open Cel (cells)
set_option maxRecDepth 100000
instance:Inhabited GTally:=⟨Cel.dflt⟩
instance:Inhabited GLive:=⟨Cel.dflt⟩
instance:Inhabited GCell:=⟨Cel.dflt⟩
end Am
