/- What the form of a claim asks of the whole program: reckoned once. No condition. -/
import Derived.Test.YtgdcffbakjfacaaDoorFC1
namespace Go.Proofs.YtgdcffbakjfacaaDoor.facts
theorem own : ownKnob Tryd.prog.godebug = none := by kernel_rfl
theorem f2 : laidOutB Tryd.prog = true := by kernel_rfl
theorem f3 : mapsRowed Tryd.prog = true := by kernel_rfl
theorem f7 : (Tryd.prog.stops == []) = true := by kernel_rfl
theorem f9 : (Tryd.prog.stopKnobs == []) = true := by kernel_rfl
theorem f23 : (Rows.fnColoursRow.plainKeys == Tryd.prog.plainKeys) = true := by kernel_rfl
theorem f25 : Tryd.prog.stopsHeard = true := by kernel_rfl
theorem f26 : Tryd.prog.mayEnter = true := by kernel_rfl
theorem f27 : (Rows.fnColoursRow.lifted == Tryd.prog.liftsFinal) = true := by kernel_rfl
theorem f28 : (Tryd.prog.make == some Rows.fnColoursRow.make) = true := by kernel_rfl
end Go.Proofs.YtgdcffbakjfacaaDoor.facts
