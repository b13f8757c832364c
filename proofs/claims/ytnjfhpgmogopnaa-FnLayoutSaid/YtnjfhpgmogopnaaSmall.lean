/- Contracts of small tests on numbers: carriers, directions, places, kinds of stitches. No condition. -/
import Derived.Test.YtnjfhpgmogopnaaRack
namespace Go.Proofs.Ytnjfhpgmogopnaa
open Go.ChangeShapes Go.WideShapes Go.ChangeAt Go.RowKit
theorem isCarrier_yes (n : Int) (w : World) (h : 1 ≤ n ∧ n ≤ 4) :
    Calls Try.prog 190 #[.int .i64 n] w fun e w' => e = .returned (.bool true) ∧ w = w' := by
  go_enter Try.func190, Try.ntmps190
  go_wp2_with (first | (go_at_call 84; refine (within_yes _ _ _ _ ?_).mono ?_; (omega); rintro e w' ⟨rfl, rfl⟩) | (go_at_call 84; refine (within_no _ _ _ _ ?_).mono ?_; (omega); rintro e w' ⟨rfl, rfl⟩))
  go_ret
  exact ⟨rfl, rfl⟩
theorem isCarrier_no (n : Int) (w : World) (h : n < 1 ∨ 4 < n) :
    Calls Try.prog 190 #[.int .i64 n] w fun e w' => e = .returned (.bool false) ∧ w = w' := by
  go_enter Try.func190, Try.ntmps190
  go_wp2_with (first | (go_at_call 84; refine (within_yes _ _ _ _ ?_).mono ?_; (omega); rintro e w' ⟨rfl, rfl⟩) | (go_at_call 84; refine (within_no _ _ _ _ ?_).mono ?_; (omega); rintro e w' ⟨rfl, rfl⟩))
  go_ret
  exact ⟨rfl, rfl⟩
theorem l07Yarn_yes (n : Int) (w : World) (h : 1 ≤ n ∧ n ≤ 4) :
    Calls Try.prog 184 #[.int .i64 n] w fun e w' => e = .returned (.bool true) ∧ w = w' := by
  go_enter Try.func184, Try.ntmps184
  go_wp2_with (first | (go_at_call 76; refine (l00In_yes _ _ _ _ ?_).mono ?_; (omega); rintro e w' ⟨rfl, rfl⟩) | (go_at_call 76; refine (l00In_no _ _ _ _ ?_).mono ?_; (omega); rintro e w' ⟨rfl, rfl⟩))
  go_ret
  exact ⟨rfl, rfl⟩
theorem l07Yarn_no (n : Int) (w : World) (h : n < 1 ∨ 4 < n) :
    Calls Try.prog 184 #[.int .i64 n] w fun e w' => e = .returned (.bool false) ∧ w = w' := by
  go_enter Try.func184, Try.ntmps184
  go_wp2_with (first | (go_at_call 76; refine (l00In_yes _ _ _ _ ?_).mono ?_; (omega); rintro e w' ⟨rfl, rfl⟩) | (go_at_call 76; refine (l00In_no _ _ _ _ ?_).mono ?_; (omega); rintro e w' ⟨rfl, rfl⟩))
  go_ret
  exact ⟨rfl, rfl⟩
theorem isStitch_yes (n : Int) (w : World) (h : 1 ≤ n ∧ n ≤ 11) :
    Calls Try.prog 247 #[.int .i64 n] w fun e w' => e = .returned (.bool true) ∧ w = w' := by
  go_enter Try.func247, Try.ntmps247
  go_wp2_with (first | (go_at_call 84; refine (within_yes _ _ _ _ ?_).mono ?_; (omega); rintro e w' ⟨rfl, rfl⟩) | (go_at_call 84; refine (within_no _ _ _ _ ?_).mono ?_; (omega); rintro e w' ⟨rfl, rfl⟩))
  go_ret
  exact ⟨rfl, rfl⟩
theorem isStitch_no (n : Int) (w : World) (h : n < 1 ∨ 11 < n) :
    Calls Try.prog 247 #[.int .i64 n] w fun e w' => e = .returned (.bool false) ∧ w = w' := by
  go_enter Try.func247, Try.ntmps247
  go_wp2_with (first | (go_at_call 84; refine (within_yes _ _ _ _ ?_).mono ?_; (omega); rintro e w' ⟨rfl, rfl⟩) | (go_at_call 84; refine (within_no _ _ _ _ ?_).mono ?_; (omega); rintro e w' ⟨rfl, rfl⟩))
  go_ret
  exact ⟨rfl, rfl⟩
theorem l14Kind_yes (n : Int) (w : World) (h : 1 ≤ n ∧ n ≤ 11) :
    Calls Try.prog 201 #[.int .i64 n] w fun e w' => e = .returned (.bool true) ∧ w = w' := by
  go_enter Try.func201, Try.ntmps201
  go_wp2_with (first | (go_at_call 76; refine (l00In_yes _ _ _ _ ?_).mono ?_; (omega); rintro e w' ⟨rfl, rfl⟩) | (go_at_call 76; refine (l00In_no _ _ _ _ ?_).mono ?_; (omega); rintro e w' ⟨rfl, rfl⟩))
  go_ret
  exact ⟨rfl, rfl⟩
theorem l14Kind_no (n : Int) (w : World) (h : n < 1 ∨ 11 < n) :
    Calls Try.prog 201 #[.int .i64 n] w fun e w' => e = .returned (.bool false) ∧ w = w' := by
  go_enter Try.func201, Try.ntmps201
  go_wp2_with (first | (go_at_call 76; refine (l00In_yes _ _ _ _ ?_).mono ?_; (omega); rintro e w' ⟨rfl, rfl⟩) | (go_at_call 76; refine (l00In_no _ _ _ _ ?_).mono ?_; (omega); rintro e w' ⟨rfl, rfl⟩))
  go_ret
  exact ⟨rfl, rfl⟩
theorem l07Dir_yes (n : Int) (w : World) (h : n = 1 ∨ n = -1) :
    Calls Try.prog 204 #[.int .i64 n] w fun e w' => e = .returned (.bool true) ∧ w = w' := by
  rcases h with rfl | rfl
  all_goals
    go_enter Try.func204, Try.ntmps204
    go_wp2
    go_ret
    exact ⟨rfl, rfl⟩
theorem l07Dir_no (n : Int) (w : World) (h : n ≠ 1 ∧ n ≠ -1) :
    Calls Try.prog 204 #[.int .i64 n] w fun e w' => e = .returned (.bool false) ∧ w = w' := by
  have h1 : (n == 1) = false := by simpa using h.1
  have h2 : (n == -1) = false := by simpa using h.2
  clear h
  go_enter Try.func204, Try.ntmps204
  go_wp2
  go_ret
  exact ⟨rfl, rfl⟩
theorem isDirection_yes (n : Int) (w : World) (h : n = 1 ∨ n = -1) :
    Calls Try.prog 208 #[.int .i64 n] w fun e w' => e = .returned (.bool true) ∧ w = w' := by
  rcases h with rfl | rfl
  all_goals
    go_enter Try.func208, Try.ntmps208
    go_wp2
    go_ret
    exact ⟨rfl, rfl⟩
theorem isDirection_no (n : Int) (w : World) (h : n ≠ 1 ∧ n ≠ -1) :
    Calls Try.prog 208 #[.int .i64 n] w fun e w' => e = .returned (.bool false) ∧ w = w' := by
  have h1 : (n == 1) = false := by simpa using h.1
  have h2 : (n == -1) = false := by simpa using h.2
  clear h
  go_enter Try.func208, Try.ntmps208
  go_wp2
  go_ret
  exact ⟨rfl, rfl⟩
end Go.Proofs.Ytnjfhpgmogopnaa
