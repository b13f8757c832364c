/- Moves: one move as data, its tests, its copy. No condition. -/
import Derived.Test.YtjgdcjhmfbefdaaRack
import Derived.Lib.SmallJoins
namespace Go.Proofs.Ytjgdcjhmfbefdaa
open Go.ChangeShapes Go.WideShapes Go.ChangeAt Go.RowKit
def isMoveP (f t : Int) : Prop := (0 ≤ f ∧ f ≤ 23) ∧ (0 ≤ t ∧ t ≤ 23) ∧ f ≠ t ∧ (-3 ≤ t - f ∧ t - f ≤ 3)
instance (f t : Int) : Decidable (isMoveP f t) := inferInstanceAs (Decidable (_ ∧ _))
theorem move_cases (f t : Int) : (f < 0 ∨ 23 < f) ∨ ((0 ≤ f ∧ f ≤ 23) ∧ (t < 0 ∨ 23 < t)) ∨ ((0 ≤ f ∧ f ≤ 23) ∧ (0 ≤ t ∧ t ≤ 23) ∧ f = t) ∨
    ((0 ≤ f ∧ f ≤ 23) ∧ (0 ≤ t ∧ t ≤ 23) ∧ f ≠ t ∧ (t - f < -3 ∨ 3 < t - f)) ∨ ((0 ≤ f ∧ f ≤ 23) ∧ (0 ≤ t ∧ t ≤ 23) ∧ f ≠ t ∧ (-3 ≤ t - f ∧ t - f ≤ 3)) := by omega
set_option maxHeartbeats 4000000 in
theorem isMove_any (w : World) (f t : Int) :
    Calls Try.prog 124 #[.agg #[.int .i64 f, .int .i64 t]] w fun e w' => e = .returned (.bool (decide (isMoveP f t))) ∧ Up w w' := by
  rcases move_cases f t with h | ⟨h, h2⟩ | ⟨h, h2, h3⟩ | ⟨h, h2, h3, h4⟩ | ⟨h, h2, h3, h4⟩
  · rw [show decide (isMoveP f t) = false from decide_eq_false (fun hh => by unfold isMoveP at hh; omega)]
    go_enter Try.func124, Try.ntmps124
    go_wp2_with (first | (go_at_call 118; refine (isAt_yes _ _ ?_).mono ?_; (omega); rintro e w' ⟨rfl, rfl⟩) | (go_at_call 118; refine (isAt_no _ _ ?_).mono ?_; (omega); rintro e w' ⟨rfl, rfl⟩) | (go_at_call 76; refine (within_yes _ _ _ _ ?_).mono ?_; (omega); rintro e w' ⟨rfl, rfl⟩) | (go_at_call 76; refine (within_no _ _ _ _ ?_).mono ?_; (omega); rintro e w' ⟨rfl, rfl⟩))
    go_ret
    exact ⟨rfl, by repeat (first | exact Chg.refl _ _ | refine Chg.alloc ?_ _)⟩
  · rw [show decide (isMoveP f t) = false from decide_eq_false (fun hh => by unfold isMoveP at hh; omega)]
    go_enter Try.func124, Try.ntmps124
    go_wp2_with (first | (go_at_call 118; refine (isAt_yes _ _ ?_).mono ?_; (omega); rintro e w' ⟨rfl, rfl⟩) | (go_at_call 118; refine (isAt_no _ _ ?_).mono ?_; (omega); rintro e w' ⟨rfl, rfl⟩) | (go_at_call 76; refine (within_yes _ _ _ _ ?_).mono ?_; (omega); rintro e w' ⟨rfl, rfl⟩) | (go_at_call 76; refine (within_no _ _ _ _ ?_).mono ?_; (omega); rintro e w' ⟨rfl, rfl⟩))
    go_ret
    exact ⟨rfl, by repeat (first | exact Chg.refl _ _ | refine Chg.alloc ?_ _)⟩
  · rw [show decide (isMoveP f t) = false from decide_eq_false (fun hh => by unfold isMoveP at hh; omega)]
    subst h3
    have hn : (f != f) = false := by simp
    go_enter Try.func124, Try.ntmps124
    go_wp2_with (first | (go_at_call 118; refine (isAt_yes _ _ ?_).mono ?_; (omega); rintro e w' ⟨rfl, rfl⟩) | (go_at_call 118; refine (isAt_no _ _ ?_).mono ?_; (omega); rintro e w' ⟨rfl, rfl⟩) | (go_at_call 76; refine (within_yes _ _ _ _ ?_).mono ?_; (omega); rintro e w' ⟨rfl, rfl⟩) | (go_at_call 76; refine (within_no _ _ _ _ ?_).mono ?_; (omega); rintro e w' ⟨rfl, rfl⟩))
    go_ret
    exact ⟨rfl, by repeat (first | exact Chg.refl _ _ | refine Chg.alloc ?_ _)⟩
  · rw [show decide (isMoveP f t) = false from decide_eq_false (fun hh => by unfold isMoveP at hh; omega)]
    have hn : (f != t) = true := by simpa using h3
    clear h3
    go_enter Try.func124, Try.ntmps124
    go_wp2_with (first | (go_at_call 118; refine (isAt_yes _ _ ?_).mono ?_; (omega); rintro e w' ⟨rfl, rfl⟩) | (go_at_call 118; refine (isAt_no _ _ ?_).mono ?_; (omega); rintro e w' ⟨rfl, rfl⟩) | (go_at_call 76; refine (within_yes _ _ _ _ ?_).mono ?_; (omega); rintro e w' ⟨rfl, rfl⟩) | (go_at_call 76; refine (within_no _ _ _ _ ?_).mono ?_; (omega); rintro e w' ⟨rfl, rfl⟩))
    go_ret
    exact ⟨rfl, by repeat (first | exact Chg.refl _ _ | refine Chg.alloc ?_ _)⟩
  · rw [show decide (isMoveP f t) = true from decide_eq_true ⟨h, h2, h3, h4⟩]
    have hn : (f != t) = true := by simpa using h3
    clear h3
    go_enter Try.func124, Try.ntmps124
    go_wp2_with (first | (go_at_call 118; refine (isAt_yes _ _ ?_).mono ?_; (omega); rintro e w' ⟨rfl, rfl⟩) | (go_at_call 118; refine (isAt_no _ _ ?_).mono ?_; (omega); rintro e w' ⟨rfl, rfl⟩) | (go_at_call 76; refine (within_yes _ _ _ _ ?_).mono ?_; (omega); rintro e w' ⟨rfl, rfl⟩) | (go_at_call 76; refine (within_no _ _ _ _ ?_).mono ?_; (omega); rintro e w' ⟨rfl, rfl⟩))
    go_ret
    exact ⟨rfl, by repeat (first | exact Chg.refl _ _ | refine Chg.alloc ?_ _)⟩
end Go.Proofs.Ytjgdcjhmfbefdaa
