/- What is put in its place: the reference's. No condition. -/
import Derived.Test.YtkkaogfjlbigmaaT
import Derived.Test.YtkkaogfjlbigmaaD
import Derived.Test.YtkkaogfjlbigmaaE51
import Derived.Test.YtkkaogfjlbigmaaE3
import Derived.Test.YtkkaogfjlbigmaaAm31
namespace Am
open Go Go.Proofs
open Cel (cells)
set_option maxRecDepth 100000
set_option linter.unusedSimpArgs false
set_option linter.unusedVariables false

end Am
