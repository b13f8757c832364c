/- Contracts of small tests on numbers: carriers, directions, places, kinds of stitches. No condition. -/
import Derived.Test.YtaemcjakmeibjaaRack
namespace Go.Proofs.Ytaemcjakmeibjaa
open Go.ChangeShapes Go.WideShapes Go.ChangeAt Go.RowKit
theorem isCarrier_yes (n : Int) (w : World) (h : 1 ≤ n ∧ n ≤ 4) :
    Calls Try.prog 76 #[.int .i64 n] w fun e w' => e = .returned (.bool true) ∧ w = w' := by
  go_enter Try.func76, Try.ntmps76
  go_wp2_with (first | (go_at_call 75; refine (within_yes _ _ _ _ ?_).mono ?_; (omega); rintro e w' ⟨rfl, rfl⟩) | (go_at_call 75; refine (within_no _ _ _ _ ?_).mono ?_; (omega); rintro e w' ⟨rfl, rfl⟩))
  go_ret
  exact ⟨rfl, rfl⟩
theorem isCarrier_no (n : Int) (w : World) (h : n < 1 ∨ 4 < n) :
    Calls Try.prog 76 #[.int .i64 n] w fun e w' => e = .returned (.bool false) ∧ w = w' := by
  go_enter Try.func76, Try.ntmps76
  go_wp2_with (first | (go_at_call 75; refine (within_yes _ _ _ _ ?_).mono ?_; (omega); rintro e w' ⟨rfl, rfl⟩) | (go_at_call 75; refine (within_no _ _ _ _ ?_).mono ?_; (omega); rintro e w' ⟨rfl, rfl⟩))
  go_ret
  exact ⟨rfl, rfl⟩
theorem l07Yarn_yes (n : Int) (w : World) (h : 1 ≤ n ∧ n ≤ 4) :
    Calls Try.prog 71 #[.int .i64 n] w fun e w' => e = .returned (.bool true) ∧ w = w' := by
  go_enter Try.func71, Try.ntmps71
  go_wp2_with (first | (go_at_call 70; refine (l00In_yes _ _ _ _ ?_).mono ?_; (omega); rintro e w' ⟨rfl, rfl⟩) | (go_at_call 70; refine (l00In_no _ _ _ _ ?_).mono ?_; (omega); rintro e w' ⟨rfl, rfl⟩))
  go_ret
  exact ⟨rfl, rfl⟩
theorem l07Yarn_no (n : Int) (w : World) (h : n < 1 ∨ 4 < n) :
    Calls Try.prog 71 #[.int .i64 n] w fun e w' => e = .returned (.bool false) ∧ w = w' := by
  go_enter Try.func71, Try.ntmps71
  go_wp2_with (first | (go_at_call 70; refine (l00In_yes _ _ _ _ ?_).mono ?_; (omega); rintro e w' ⟨rfl, rfl⟩) | (go_at_call 70; refine (l00In_no _ _ _ _ ?_).mono ?_; (omega); rintro e w' ⟨rfl, rfl⟩))
  go_ret
  exact ⟨rfl, rfl⟩
theorem isCarrierPlace_yes (n : Int) (w : World) (h : -3 ≤ n ∧ n ≤ 27) :
    Calls Try.prog 86 #[.int .i64 n] w fun e w' => e = .returned (.bool true) ∧ w = w' := by
  go_enter Try.func86, Try.ntmps86
  go_wp2_with (first | (go_at_call 75; refine (within_yes _ _ _ _ ?_).mono ?_; (omega); rintro e w' ⟨rfl, rfl⟩) | (go_at_call 75; refine (within_no _ _ _ _ ?_).mono ?_; (omega); rintro e w' ⟨rfl, rfl⟩))
  go_ret
  exact ⟨rfl, rfl⟩
theorem isCarrierPlace_no (n : Int) (w : World) (h : n < -3 ∨ 27 < n) :
    Calls Try.prog 86 #[.int .i64 n] w fun e w' => e = .returned (.bool false) ∧ w = w' := by
  go_enter Try.func86, Try.ntmps86
  go_wp2_with (first | (go_at_call 75; refine (within_yes _ _ _ _ ?_).mono ?_; (omega); rintro e w' ⟨rfl, rfl⟩) | (go_at_call 75; refine (within_no _ _ _ _ ?_).mono ?_; (omega); rintro e w' ⟨rfl, rfl⟩))
  go_ret
  exact ⟨rfl, rfl⟩
theorem l23At_yes (n : Int) (w : World) (h : -3 ≤ n ∧ n ≤ 27) :
    Calls Try.prog 83 #[.int .i64 n] w fun e w' => e = .returned (.bool true) ∧ w = w' := by
  go_enter Try.func83, Try.ntmps83
  go_wp2_with (first | (go_at_call 70; refine (l00In_yes _ _ _ _ ?_).mono ?_; (omega); rintro e w' ⟨rfl, rfl⟩) | (go_at_call 70; refine (l00In_no _ _ _ _ ?_).mono ?_; (omega); rintro e w' ⟨rfl, rfl⟩))
  go_ret
  exact ⟨rfl, rfl⟩
theorem l23At_no (n : Int) (w : World) (h : n < -3 ∨ 27 < n) :
    Calls Try.prog 83 #[.int .i64 n] w fun e w' => e = .returned (.bool false) ∧ w = w' := by
  go_enter Try.func83, Try.ntmps83
  go_wp2_with (first | (go_at_call 70; refine (l00In_yes _ _ _ _ ?_).mono ?_; (omega); rintro e w' ⟨rfl, rfl⟩) | (go_at_call 70; refine (l00In_no _ _ _ _ ?_).mono ?_; (omega); rintro e w' ⟨rfl, rfl⟩))
  go_ret
  exact ⟨rfl, rfl⟩
theorem isStitch_yes (n : Int) (w : World) (h : 1 ≤ n ∧ n ≤ 11) :
    Calls Try.prog 96 #[.int .i64 n] w fun e w' => e = .returned (.bool true) ∧ w = w' := by
  go_enter Try.func96, Try.ntmps96
  go_wp2_with (first | (go_at_call 75; refine (within_yes _ _ _ _ ?_).mono ?_; (omega); rintro e w' ⟨rfl, rfl⟩) | (go_at_call 75; refine (within_no _ _ _ _ ?_).mono ?_; (omega); rintro e w' ⟨rfl, rfl⟩))
  go_ret
  exact ⟨rfl, rfl⟩
theorem isStitch_no (n : Int) (w : World) (h : n < 1 ∨ 11 < n) :
    Calls Try.prog 96 #[.int .i64 n] w fun e w' => e = .returned (.bool false) ∧ w = w' := by
  go_enter Try.func96, Try.ntmps96
  go_wp2_with (first | (go_at_call 75; refine (within_yes _ _ _ _ ?_).mono ?_; (omega); rintro e w' ⟨rfl, rfl⟩) | (go_at_call 75; refine (within_no _ _ _ _ ?_).mono ?_; (omega); rintro e w' ⟨rfl, rfl⟩))
  go_ret
  exact ⟨rfl, rfl⟩
theorem l14Kind_yes (n : Int) (w : World) (h : 1 ≤ n ∧ n ≤ 11) :
    Calls Try.prog 94 #[.int .i64 n] w fun e w' => e = .returned (.bool true) ∧ w = w' := by
  go_enter Try.func94, Try.ntmps94
  go_wp2_with (first | (go_at_call 70; refine (l00In_yes _ _ _ _ ?_).mono ?_; (omega); rintro e w' ⟨rfl, rfl⟩) | (go_at_call 70; refine (l00In_no _ _ _ _ ?_).mono ?_; (omega); rintro e w' ⟨rfl, rfl⟩))
  go_ret
  exact ⟨rfl, rfl⟩
theorem l14Kind_no (n : Int) (w : World) (h : n < 1 ∨ 11 < n) :
    Calls Try.prog 94 #[.int .i64 n] w fun e w' => e = .returned (.bool false) ∧ w = w' := by
  go_enter Try.func94, Try.ntmps94
  go_wp2_with (first | (go_at_call 70; refine (l00In_yes _ _ _ _ ?_).mono ?_; (omega); rintro e w' ⟨rfl, rfl⟩) | (go_at_call 70; refine (l00In_no _ _ _ _ ?_).mono ?_; (omega); rintro e w' ⟨rfl, rfl⟩))
  go_ret
  exact ⟨rfl, rfl⟩
theorem l07Dir_yes (n : Int) (w : World) (h : n = 1 ∨ n = -1) :
    Calls Try.prog 84 #[.int .i64 n] w fun e w' => e = .returned (.bool true) ∧ w = w' := by
  rcases h with rfl | rfl
  all_goals
    go_enter Try.func84, Try.ntmps84
    go_wp2
    go_ret
    exact ⟨rfl, rfl⟩
theorem l07Dir_no (n : Int) (w : World) (h : n ≠ 1 ∧ n ≠ -1) :
    Calls Try.prog 84 #[.int .i64 n] w fun e w' => e = .returned (.bool false) ∧ w = w' := by
  have h1 : (n == 1) = false := by simpa using h.1
  have h2 : (n == -1) = false := by simpa using h.2
  clear h
  go_enter Try.func84, Try.ntmps84
  go_wp2
  go_ret
  exact ⟨rfl, rfl⟩
theorem isDirection_yes (n : Int) (w : World) (h : n = 1 ∨ n = -1) :
    Calls Try.prog 87 #[.int .i64 n] w fun e w' => e = .returned (.bool true) ∧ w = w' := by
  rcases h with rfl | rfl
  all_goals
    go_enter Try.func87, Try.ntmps87
    go_wp2
    go_ret
    exact ⟨rfl, rfl⟩
theorem isDirection_no (n : Int) (w : World) (h : n ≠ 1 ∧ n ≠ -1) :
    Calls Try.prog 87 #[.int .i64 n] w fun e w' => e = .returned (.bool false) ∧ w = w' := by
  have h1 : (n == 1) = false := by simpa using h.1
  have h2 : (n == -1) = false := by simpa using h.2
  clear h
  go_enter Try.func87, Try.ntmps87
  go_wp2
  go_ret
  exact ⟨rfl, rfl⟩
end Go.Proofs.Ytaemcjakmeibjaa
