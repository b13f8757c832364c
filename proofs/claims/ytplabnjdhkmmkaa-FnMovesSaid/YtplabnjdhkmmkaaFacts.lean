/- What the form of a claim asks of the whole program: reckoned once. No condition. -/
import Derived.Test.YtplabnjdhkmmkaaPF1
namespace Go.Proofs.Ytplabnjdhkmmkaa.facts
theorem own : ownKnob Try.prog.godebug = none := by kernel_rfl
theorem f2 : laidOutB Try.prog = true := by kernel_rfl
theorem f3 : mapsRowed Try.prog = true := by kernel_rfl
theorem f7 : (Try.prog.stops == []) = true := by kernel_rfl
theorem f9 : (Try.prog.stopKnobs == []) = true := by kernel_rfl
theorem f23 : (Rows.fnMovesRow.plainKeys == Try.prog.plainKeys) = true := by kernel_rfl
theorem f25 : Try.prog.stopsHeard = true := by kernel_rfl
theorem f26 : Try.prog.mayEnter = true := by kernel_rfl
theorem f27 : (Rows.fnMovesRow.lifted == Try.prog.liftsFinal) = true := by kernel_rfl
theorem f28 : (Try.prog.make == some Rows.fnMovesRow.make) = true := by kernel_rfl
end Go.Proofs.Ytplabnjdhkmmkaa.facts
