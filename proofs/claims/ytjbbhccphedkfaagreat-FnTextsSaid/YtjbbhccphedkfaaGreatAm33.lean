/- The library's sort and compaction of strings,as contracts here. No condition. -/
import Derived.Test.YtjbbhccphedkfaaGreatAm32
import Derived.Sort.OwnSorted
import Derived.Lib.OwnBridge
set_option linter.unusedSimpArgs false
set_option linter.unusedVariables false
set_option linter.unnecessarySimpa false
set_option linter.unusedSectionVars false
namespace Am
open Go Go.Proofs Go.Sort
open Cel (cells)
end Am
