/- What is so of the program as a whole. No condition. -/
import Derived.Test.YtonemhaagbojeaaAm30
import Derived.KernelRfl
import Derived.Test.YtonemhaagbojeaaRows
namespace Go.Proofs.Ytonemhaagbojeaa
open Am
set_option maxRecDepth 100000
theorem Try.own : ownKnob Try.prog.godebug = none := by kernel_rfl
theorem Try.laidOut : laidOutB Try.prog = true := by kernel_rfl
theorem Try.mapsRowed : mapsRowed Try.prog = true := by kernel_rfl
theorem Try.noStops : (Try.prog.stops == []) = true := by kernel_rfl
theorem Try.noStopKnobs : (Try.prog.stopKnobs == []) = true := by kernel_rfl
theorem Try.heard : Try.prog.stopsHeard = true := by kernel_rfl
theorem Try.entered : Try.prog.mayEnter = true := by kernel_rfl
theorem Try.lifts : (Rows.fnOrdersRow.lifted == Try.prog.liftsFinal) = true := by kernel_rfl
theorem Try.keys : (Rows.fnOrdersRow.plainKeys == Try.prog.plainKeys) = true := by kernel_rfl
theorem Try.made : (Try.prog.make == some Rows.fnOrdersRow.make) = true := by kernel_rfl
end Go.Proofs.Ytonemhaagbojeaa
