/- The program's RowSources answers as the reference's, for every row; what it is given stays as it was; its memory is its own. No condition. -/
import Derived.Test.YtfaloanahffdmaaC23
import Derived.Test.YtfaloanahffdmaaOpenS
namespace Go.Proofs.Ytfaloanahffdmaa.fnExactRowSources
open Go.ChangeShapes Go.WideShapes Go.ChangeAt Go.RowKit
set_option linter.unusedVariables false
theorem own : ownKnob Try.prog.godebug = none := by kernel_rfl
theorem laidOut : laidOutB Try.prog = true := by kernel_rfl
theorem readable : ∀ t ∈ Try.f8.params.toList, Try.prog.readableRec t = true ∧ t < Try.prog.types.size := by
  have h : (Try.f8.params.toList.all fun t => Try.prog.readableRec t && decide (t < Try.prog.types.size)) = true := by kernel_rfl
  intro t ht
  have h2 := List.all_eq_true.1 h t ht
  rw [Bool.and_eq_true, decide_eq_true_eq] at h2
  exact h2
theorem resT : Try.f8.resultTypes = #[4] := by kernel_rfl
theorem over : Rows.fnExactRowSourcesRow.holds Try.pinned (OpenSpec.ofChange Rows.fnExactRowSourcesSpec) :=
  OpenClaim.holds_of_wide 8 Try.f8 rfl rfl rfl rfl rfl rfl rfl ⟨rfl, rfl, rfl, rfl, rfl⟩ rfl rfl rfl rfl rfl (by kernel_rfl) Try.func8 (by kernel_rfl)
    (of_decide_eq_true (by kernel_rfl)) (by unfold Func.isWrapper; first | (rw [if_pos (by decide +kernel)]; kernel_rfl) | (rw [if_neg (by decide +kernel)]; exact ⟨rfl, rfl⟩))
    (fun os started H enc _ => lifted os started H enc)
theorem proved : Rows.FnExactRowSourcesSaid :=
  over
end Go.Proofs.Ytfaloanahffdmaa.fnExactRowSources
