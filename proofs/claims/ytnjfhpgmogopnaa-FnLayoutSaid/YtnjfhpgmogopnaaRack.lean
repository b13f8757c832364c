/- The operations with which loops go from a front needle to another one. Condition: small needles. -/
import Derived.Test.YtnjfhpgmogopnaaOps
import Derived.Test.YtnjfhpgmogopnaaPlaces
namespace Go.Proofs.Ytnjfhpgmogopnaa
open Go.ChangeShapes Go.WideShapes Go.ChangeAt Go.RowKit
def rackM (a b : Int) : List OpM := [⟨4, 0, 1, a, 2, a, 0, 0⟩, ⟨7, 0, 0, 0, 0, 0, 0, b - a⟩, ⟨4, 0, 2, a, 1, b, 0, 0⟩, ⟨7, 0, 0, 0, 0, 0, 0, 0⟩]
theorem rackM_ok {a b : Int} (ha : 0 ≤ a ∧ a ≤ 1000) (hb : 0 ≤ b ∧ b ≤ 1000) : ∀ x ∈ rackM a b, x.ok := by
  intro x hx
  simp only [rackM, List.mem_cons, List.not_mem_nil, or_false] at hx
  rcases hx with rfl | rfl | rfl | rfl <;> (unfold OpM.ok I64; simp only []; omega)
theorem isRack_yes (n : Int) (w : World) (h : -3 ≤ n ∧ n ≤ 3) :
    Calls Try.prog 99 #[.int .i64 n] w fun e w' => e = .returned (.bool true) ∧ w = w' := by
  go_enter Try.func99, Try.ntmps99
  go_wp2_with (first | (go_at_call 84; refine (within_yes _ _ _ _ ?_).mono ?_; (omega); rintro e w' ⟨rfl, rfl⟩) | (go_at_call 84; refine (within_no _ _ _ _ ?_).mono ?_; (omega); rintro e w' ⟨rfl, rfl⟩))
  go_ret
  exact ⟨rfl, rfl⟩
theorem isRack_no (n : Int) (w : World) (h : n < -3 ∨ 3 < n) :
    Calls Try.prog 99 #[.int .i64 n] w fun e w' => e = .returned (.bool false) ∧ w = w' := by
  go_enter Try.func99, Try.ntmps99
  go_wp2_with (first | (go_at_call 84; refine (within_yes _ _ _ _ ?_).mono ?_; (omega); rintro e w' ⟨rfl, rfl⟩) | (go_at_call 84; refine (within_no _ _ _ _ ?_).mono ?_; (omega); rintro e w' ⟨rfl, rfl⟩))
  go_ret
  exact ⟨rfl, rfl⟩
end Go.Proofs.Ytnjfhpgmogopnaa
