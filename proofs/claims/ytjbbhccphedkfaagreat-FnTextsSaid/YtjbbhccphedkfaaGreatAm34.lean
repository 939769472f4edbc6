/- The library's sort by an order that is handed over,as a contract here. No condition. -/
import Derived.Test.YtjbbhccphedkfaaGreatAm33
import Derived.Shelf.SlSortCmp.InsertionK
set_option linter.unusedSimpArgs false
set_option linter.unusedVariables false
set_option linter.unnecessarySimpa false
set_option linter.unusedSectionVars false
namespace Am
open Go Go.Proofs Go.Sort Go.Shelf
open Cel (cells)
end Am
