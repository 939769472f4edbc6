/- The library's sort by an order that is handed over, as a contract here. No condition. -/
import Derived.Test.YteidfkbfocdnmaaGreatAm33
import Derived.Shelf.SlSortCmp.InsertionK
namespace Am
open Go Go.Proofs Go.Sort Go.Shelf
set_option linter.unusedSimpArgs false
set_option linter.unusedVariables false
open Cel (cells)

end Am
