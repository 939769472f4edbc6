/- What is so of the program as a whole. No condition. -/
import Derived.Test.YtkkaogfjlbigmaaAm30
import Derived.KernelRfl
import Derived.Test.YtkkaogfjlbigmaaRows
namespace Go.Proofs.Ytkkaogfjlbigmaa
open Am
set_option maxRecDepth 100000
theorem Try.own : ownKnob Try.prog.godebug = none := by kernel_rfl
theorem Try.laidOut : laidOutB Try.prog = true := by kernel_rfl
theorem Try.mapsRowed : mapsRowed Try.prog = true := by kernel_rfl
theorem Try.noStops : (Try.prog.stops == []) = true := by kernel_rfl
theorem Try.noStopKnobs : (Try.prog.stopKnobs == []) = true := by kernel_rfl
theorem Try.heard : Try.prog.stopsHeard = true := by kernel_rfl
theorem Try.entered : Try.prog.mayEnter = true := by kernel_rfl
theorem Try.lifts : (Rows.fnExactPlaceInRow.lifted == Try.prog.liftsFinal) = true := by kernel_rfl
theorem Try.keys : (Rows.fnExactPlaceInRow.plainKeys == Try.prog.plainKeys) = true := by kernel_rfl
theorem Try.made : (Try.prog.make == some Rows.fnExactPlaceInRow.make) = true := by kernel_rfl
end Go.Proofs.Ytkkaogfjlbigmaa
