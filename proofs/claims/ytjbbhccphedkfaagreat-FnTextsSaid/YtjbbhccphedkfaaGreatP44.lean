/- What is so of the program as a whole. No condition. -/
import Derived.Test.YtjbbhccphedkfaaGreatAm30
import Derived.KernelRfl
import Derived.Test.YtjbbhccphedkfaaGreatRows
set_option linter.unusedSimpArgs false
set_option linter.unusedVariables false
set_option linter.unnecessarySimpa false
set_option linter.unusedSectionVars false
namespace Go.Proofs.YtjbbhccphedkfaaGreat
open Am
set_option maxRecDepth 100000
theorem Tryz.own:ownKnob Tryz.prog.godebug = none:=by kernel_rfl
theorem Tryz.laidOut:laidOutB Tryz.prog = true:=by kernel_rfl
theorem Tryz.mapsRowed:mapsRowed Tryz.prog = true:=by kernel_rfl
theorem Tryz.noStops:(Tryz.prog.stops == []) = true:=by kernel_rfl
theorem Tryz.noStopKnobs:(Tryz.prog.stopKnobs == []) = true:=by kernel_rfl
theorem Tryz.heard:Tryz.prog.stopsHeard = true:=by kernel_rfl
theorem Tryz.entered:Tryz.prog.mayEnter = true:=by kernel_rfl
theorem Tryz.lifts:(Rows.fnTextsRow.lifted == Tryz.prog.liftsFinal) = true:=by kernel_rfl
theorem Tryz.keys:(Rows.fnTextsRow.plainKeys == Tryz.prog.plainKeys) = true:=by kernel_rfl
theorem Tryz.made:(Tryz.prog.make == some Rows.fnTextsRow.make) = true:=by kernel_rfl
end Go.Proofs.YtjbbhccphedkfaaGreat
