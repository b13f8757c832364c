/- Contracts of the small functions that hand back a needle or an operation. No condition. -/
import Derived.Test.YtmimbnpcokfnlaaSmall
namespace Go.Proofs.Ytmimbnpcokfnlaa
open Go.ChangeShapes Go.WideShapes Go.ChangeAt Go.RowKit
theorem frontNeedle_any (w : World) (at_ : Int) :
    Calls Try.prog 230 #[.int .i64 at_] w fun e w' => e = .returned (.agg #[.int .i64 1, .int .i64 at_]) ∧ Up w w' := by
  go_enter Try.func230, Try.ntmps230
  go_wp2
  exact bodyPost_ret (v := .agg #[.int .i64 1, .int .i64 at_]) (by simp [results, Try.results230, go_sem]) rfl ⟨rfl, by repeat (first | exact Chg.refl _ _ | refine Chg.alloc ?_ _)⟩
theorem l23Front_any (w : World) (at_ : Int) :
    Calls Try.prog 223 #[.int .i64 at_] w fun e w' => e = .returned (.agg #[.int .i64 1, .int .i64 at_]) ∧ Up w w' := by
  go_enter Try.func223, Try.ntmps223
  go_wp2
  exact bodyPost_ret (v := .agg #[.int .i64 1, .int .i64 at_]) (by simp [results, Try.results223, go_sem]) rfl ⟨rfl, by repeat (first | exact Chg.refl _ _ | refine Chg.alloc ?_ _)⟩
theorem l23Yarn_any (w : World) (kind dir bed at_ car : Int) :
    Calls Try.prog 222 #[.int .i64 kind, .int .i64 dir, .agg #[.int .i64 bed, .int .i64 at_], .int .i64 car] w fun e w' =>
      e = .returned (OpM.mk kind dir bed at_ 0 0 car 0).val ∧ Up w w' := by
  go_enter Try.func222, Try.ntmps222
  go_wp2
  exact bodyPost_ret (v := (OpM.mk kind dir bed at_ 0 0 car 0).val) (by simp [results, Try.results222, go_sem]) rfl ⟨rfl, by repeat (first | exact Chg.refl _ _ | refine Chg.alloc ?_ _)⟩
end Go.Proofs.Ytmimbnpcokfnlaa
