/- A result's inner parts given up: looked at alone. No condition. -/
import Derived.Test.YtjbbhccphedkfaaGreatAm31
set_option linter.unusedSimpArgs false
set_option linter.unusedVariables false
set_option linter.unnecessarySimpa false
set_option linter.unusedSectionVars false
namespace Am
open Go
end Am
