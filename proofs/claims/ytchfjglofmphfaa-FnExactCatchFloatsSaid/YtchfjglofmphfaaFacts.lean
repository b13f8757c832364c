/- What the form of a claim asks of the whole program: reckoned once. No condition. -/
import Derived.Test.YtchfjglofmphfaaPD1
namespace Go.Proofs.Ytchfjglofmphfaa.facts
theorem own : ownKnob Try.prog.godebug = none := by kernel_rfl
theorem f2 : laidOutB Try.prog = true := by kernel_rfl
theorem f3 : mapsRowed Try.prog = true := by kernel_rfl
theorem f7 : (Try.prog.stops == []) = true := by kernel_rfl
theorem f9 : (Try.prog.stopKnobs == []) = true := by kernel_rfl
theorem f23 : (Rows.fnExactRackEventsRow.plainKeys == Try.prog.plainKeys) = true := by kernel_rfl
theorem f25 : Try.prog.stopsHeard = true := by kernel_rfl
theorem f26 : Try.prog.mayEnter = true := by kernel_rfl
theorem f27 : (Rows.fnExactRackEventsRow.lifted == Try.prog.liftsFinal) = true := by kernel_rfl
theorem f28 : (Try.prog.make == some Rows.fnExactRackEventsRow.make) = true := by kernel_rfl
end Go.Proofs.Ytchfjglofmphfaa.facts
