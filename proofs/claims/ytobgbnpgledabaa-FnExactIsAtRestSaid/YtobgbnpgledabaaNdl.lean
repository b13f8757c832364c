/- ColumnOfNeedle and NeedleOfColumn of the program. No condition. -/
import Derived.Test.YtobgbnpgledabaaQA1
namespace Go.Proofs.Ytobgbnpgledabaa
open Go.ChangeShapes Go.WideShapes Go.ChangeAt Go.RowKit
def colOk (n : Int) : Bool := decide (1 ≤ n ∧ n ≤ 15 ∧ n % 2 = 1)
def colOf (n : Int) : Int := if 1 ≤ n ∧ n ≤ 15 ∧ n % 2 = 1 then n / 2 else 0
namespace fnExactColumnOfNeedle
theorem implColumn (n : Int) (w : World) (hn : I64 n) :
    Calls Try.prog 60 #[.int .i64 n] w fun e w' => e = .returned (.tuple #[.int .i64 (colOf n), .bool (colOk n)]) ∧ w = w' := by
  unfold I64 at hn
  have hc : n < 1 ∨ 15 < n ∨ (1 ≤ n ∧ n ≤ 15 ∧ (n % 2 != 1) = true) ∨ (1 ≤ n ∧ n ≤ 15 ∧ (n % 2 != 1) = false) := by
    cases (n % 2 != 1) <;> simp <;> omega
  rcases hc with h | h | ⟨h, h', hm⟩ | ⟨h, h', hm⟩
  all_goals
    go_enter Try.func60, Try.ntmps60
    go_wp2_with (first | (go_at_call 58; refine (within_yes _ _ _ _ ?_).mono ?_; (omega); rintro e w' ⟨rfl, rfl⟩) | (go_at_call 58; refine (within_no _ _ _ _ ?_).mono ?_; (omega); rintro e w' ⟨rfl, rfl⟩) | (go_at_call 59; refine (needleOf_any _ _ ?_).mono ?_; (omega); rintro e w' ⟨rfl, rfl⟩))
    go_ret2
    try simp only [bne_iff_ne, ne_eq, bne_eq_false_iff_eq] at hm
    refine ⟨ret_ib ?_ ?_, rfl⟩
    · unfold colOf
      first | (rw [if_neg (by omega)]; done) | (rw [if_pos (by omega)]; done) | (rw [if_neg (by omega)]; rfl) | (rw [if_pos (by omega)]; rfl)
    · unfold colOk
      first | (rw [decide_eq_true (by omega)]; done) | (rw [decide_eq_false (by omega)]; done) | (rw [decide_eq_true (by omega)]; rfl) | (rw [decide_eq_false (by omega)]; rfl)
end fnExactColumnOfNeedle
end Go.Proofs.Ytobgbnpgledabaa
namespace Go.Proofs.Ytobgbnpgledabaa
open Go.ChangeShapes Go.WideShapes Go.ChangeAt Go.RowKit
namespace fnExactNeedleOfColumn
def okOf (n : Int) : Bool := decide (0 ≤ n ∧ n ≤ 7)
def at' (n : Int) : Int := if 0 ≤ n ∧ n ≤ 7 then 2 * n + 1 else 0
end fnExactNeedleOfColumn
end Go.Proofs.Ytobgbnpgledabaa
