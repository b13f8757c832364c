/- What the form of a claim asks of the whole program: reckoned once. No condition. -/
import Derived.Test.YtnjfhpgmogopnaaGreatPG1
namespace Go.Proofs.YtnjfhpgmogopnaaGreat.facts
theorem own : ownKnob Tryz.prog.godebug = none := by kernel_rfl
theorem f2 : laidOutB Tryz.prog = true := by kernel_rfl
theorem f3 : mapsRowed Tryz.prog = true := by kernel_rfl
theorem f7 : (Tryz.prog.stops == []) = true := by kernel_rfl
theorem f9 : (Tryz.prog.stopKnobs == []) = true := by kernel_rfl
theorem f23 : (Rows.fnExactRowOfOpRow.plainKeys == Tryz.prog.plainKeys) = true := by kernel_rfl
theorem f25 : Tryz.prog.stopsHeard = true := by kernel_rfl
theorem f26 : Tryz.prog.mayEnter = true := by kernel_rfl
theorem f27 : (Rows.fnExactRowOfOpRow.lifted == Tryz.prog.liftsFinal) = true := by kernel_rfl
theorem f28 : (Tryz.prog.make == some Rows.fnExactRowOfOpRow.make) = true := by kernel_rfl
end Go.Proofs.YtnjfhpgmogopnaaGreat.facts
