/- Contracts of the small functions that hand back a needle or an operation. No condition. -/
import Derived.Test.YtfaloanahffdmaaSmall
namespace Go.Proofs.Ytfaloanahffdmaa
open Go.ChangeShapes Go.WideShapes Go.ChangeAt Go.RowKit
theorem frontNeedle_any (w : World) (at_ : Int) :
    Calls Try.prog 259 #[.int .i64 at_] w fun e w' => e = .returned (.agg #[.int .i64 1, .int .i64 at_]) ∧ Up w w' := by
  go_enter Try.func259, Try.ntmps259
  go_wp2
  exact bodyPost_ret (v := .agg #[.int .i64 1, .int .i64 at_]) (by simp [results, Try.results259, go_sem]) rfl ⟨rfl, by repeat (first | exact Chg.refl _ _ | refine Chg.alloc ?_ _)⟩
theorem l23Front_any (w : World) (at_ : Int) :
    Calls Try.prog 255 #[.int .i64 at_] w fun e w' => e = .returned (.agg #[.int .i64 1, .int .i64 at_]) ∧ Up w w' := by
  go_enter Try.func255, Try.ntmps255
  go_wp2
  exact bodyPost_ret (v := .agg #[.int .i64 1, .int .i64 at_]) (by simp [results, Try.results255, go_sem]) rfl ⟨rfl, by repeat (first | exact Chg.refl _ _ | refine Chg.alloc ?_ _)⟩
theorem l23Yarn_any (w : World) (kind dir bed at_ car : Int) :
    Calls Try.prog 254 #[.int .i64 kind, .int .i64 dir, .agg #[.int .i64 bed, .int .i64 at_], .int .i64 car] w fun e w' =>
      e = .returned (OpM.mk kind dir bed at_ 0 0 car 0).val ∧ Up w w' := by
  go_enter Try.func254, Try.ntmps254
  go_wp2
  exact bodyPost_ret (v := (OpM.mk kind dir bed at_ 0 0 car 0).val) (by simp [results, Try.results254, go_sem]) rfl ⟨rfl, by repeat (first | exact Chg.refl _ _ | refine Chg.alloc ?_ _)⟩
end Go.Proofs.Ytfaloanahffdmaa
