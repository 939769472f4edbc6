/- A result's inner parts given up: looked at alone. No condition. -/
import Derived.Test.YteidfkbfocdnmaaGreatAm31
namespace Am
open Go
set_option linter.unusedSimpArgs false
set_option linter.unusedVariables false
end Am
