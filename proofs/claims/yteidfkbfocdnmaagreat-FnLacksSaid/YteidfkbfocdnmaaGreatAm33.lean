/- The library's sort and compaction of strings, as contracts here. No condition. -/
import Derived.Test.YteidfkbfocdnmaaGreatAm32
import Derived.Sort.OwnSorted
import Derived.Lib.OwnBridge
namespace Am
open Go Go.Proofs Go.Sort
set_option linter.unusedSimpArgs false
set_option linter.unusedVariables false
open Cel (cells)

end Am
