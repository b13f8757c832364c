/- ColumnOfNeedle and NeedleOfColumn of the program. No condition. -/
import Derived.Test.YtnjfhpgmogopnaaNums
namespace Go.Proofs.Ytnjfhpgmogopnaa
open Go.ChangeShapes Go.WideShapes Go.ChangeAt Go.RowKit
def colOk (n : Int) : Bool := decide (1 ≤ n ∧ n ≤ 15 ∧ n % 2 = 1)
def colOf (n : Int) : Int := if 1 ≤ n ∧ n ≤ 15 ∧ n % 2 = 1 then n / 2 else 0
namespace fnExactColumnOfNeedle
theorem implColumn (n : Int) (w : World) (hn : I64 n) :
    Calls Try.prog 54 #[.int .i64 n] w fun e w' => e = .returned (.tuple #[.int .i64 (colOf n), .bool (colOk n)]) ∧ w = w' := by
  unfold I64 at hn
  have hc : n < 1 ∨ 15 < n ∨ (1 ≤ n ∧ n ≤ 15 ∧ (n % 2 != 1) = true) ∨ (1 ≤ n ∧ n ≤ 15 ∧ (n % 2 != 1) = false) := by
    cases (n % 2 != 1) <;> simp <;> omega
  rcases hc with h | h | ⟨h, h', hm⟩ | ⟨h, h', hm⟩
  all_goals
    go_enter Try.func54, Try.ntmps54
    go_wp2_with (first | (go_at_call 84; refine (within_yes _ _ _ _ ?_).mono ?_; (omega); rintro e w' ⟨rfl, rfl⟩) | (go_at_call 84; refine (within_no _ _ _ _ ?_).mono ?_; (omega); rintro e w' ⟨rfl, rfl⟩) | (go_at_call 85; refine (needleOf_any _ _ ?_).mono ?_; (omega); rintro e w' ⟨rfl, rfl⟩))
    go_ret2
    try simp only [bne_iff_ne, ne_eq, bne_eq_false_iff_eq] at hm
    refine ⟨ret_ib ?_ ?_, rfl⟩
    · unfold colOf
      first | (rw [if_neg (by omega)]; done) | (rw [if_pos (by omega)]; done) | (rw [if_neg (by omega)]; rfl) | (rw [if_pos (by omega)]; rfl)
    · unfold colOk
      first | (rw [decide_eq_true (by omega)]; done) | (rw [decide_eq_false (by omega)]; done) | (rw [decide_eq_true (by omega)]; rfl) | (rw [decide_eq_false (by omega)]; rfl)
end fnExactColumnOfNeedle
end Go.Proofs.Ytnjfhpgmogopnaa
namespace Go.Proofs.Ytnjfhpgmogopnaa
open Go.ChangeShapes Go.WideShapes Go.ChangeAt Go.RowKit
namespace fnExactNeedleOfColumn
def okOf (n : Int) : Bool := decide (0 ≤ n ∧ n ≤ 7)
def at' (n : Int) : Int := if 0 ≤ n ∧ n ≤ 7 then 2 * n + 1 else 0
theorem isColumn_any (n : Int) (w : World) :
    Calls Try.prog 130 #[.int .i64 n] w fun e w' => e = .returned (.bool (okOf n)) ∧ w = w' := by
  have hc : n < 0 ∨ 7 < n ∨ (0 ≤ n ∧ n ≤ 7) := by omega
  rcases hc with h | h | ⟨h, h'⟩
  all_goals
    go_enter Try.func130, Try.ntmps130
    go_wp2_with (first | (go_at_call 84; refine (within_yes _ _ _ _ ?_).mono ?_; (omega); rintro e w' ⟨rfl, rfl⟩) | (go_at_call 84; refine (within_no _ _ _ _ ?_).mono ?_; (omega); rintro e w' ⟨rfl, rfl⟩))
    go_ret
    refine ⟨ret_bool ?_, rfl⟩
    unfold okOf
    first | (rw [decide_eq_true (by omega)]; done) | (rw [decide_eq_false (by omega)]; done) | (rw [decide_eq_true (by omega)]; rfl) | (rw [decide_eq_false (by omega)]; rfl)
theorem impl_any (n : Int) (w : World) :
    Calls Try.prog 55 #[.int .i64 n] w fun e w' => e = .returned (.tuple #[.int .i64 (at' n), .bool (okOf n)]) ∧ w = w' := by
  have hc : (n < 0 ∧ okOf n = false) ∨ (7 < n ∧ okOf n = false) ∨ ((0 ≤ n ∧ n ≤ 7) ∧ okOf n = true) := by
    unfold okOf; simp only [decide_eq_true_eq, decide_eq_false_iff_not]; omega
  rcases hc with ⟨h, ho⟩ | ⟨h, ho⟩ | ⟨⟨h, h'⟩, ho⟩
  all_goals
    rw [ho]
    go_enter Try.func55, Try.ntmps55
    go_wp2_with (first | (go_at_call 130; refine (isColumn_any _ _).mono ?_; rintro e w' ⟨rfl, rfl⟩) | (go_at_call 85; refine (needleOf_any _ _ ?_).mono ?_; (omega); rintro e w' ⟨rfl, rfl⟩))
    go_ret2
    refine ⟨ret_ib ?_ rfl, rfl⟩
    unfold at'
    first | (rw [if_neg (by omega)]; done) | (rw [if_pos (by omega)]; done) | (rw [if_neg (by omega)]; rfl) | (rw [if_pos (by omega)]; rfl)
end fnExactNeedleOfColumn
end Go.Proofs.Ytnjfhpgmogopnaa
