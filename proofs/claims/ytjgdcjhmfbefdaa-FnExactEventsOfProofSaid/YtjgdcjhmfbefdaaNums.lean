/- Contracts of the small functions on numbers. No condition. -/
import Derived.Test.YtjgdcjhmfbefdaaBase
namespace Go.Proofs.Ytjgdcjhmfbefdaa
open Go.ChangeShapes Go.WideShapes Go.ChangeAt Go.RowKit
def inB (n lo hi : Int) : Bool := decide (lo ≤ n ∧ n ≤ hi)
theorem inB_yes {n lo hi : Int} (h : lo ≤ n ∧ n ≤ hi) : inB n lo hi = true := decide_eq_true h
theorem inB_no {n lo hi : Int} (h : n < lo ∨ hi < n) : inB n lo hi = false := decide_eq_false (by omega)
theorem l00In_any (n lo hi : Int) (w : World) :
    Calls Try.prog 68 #[.int .i64 n, .int .i64 lo, .int .i64 hi] w fun e w' => e = .returned (.bool (inB n lo hi)) ∧ w = w' := by
  by_cases h : lo ≤ n
  · go_enter Try.func68, Try.ntmps68
    go_wp2
    go_ret
    exact ⟨ret_bool (by simp [inB, h]), rfl⟩
  · go_enter Try.func68, Try.ntmps68
    go_wp2
    go_ret
    exact ⟨ret_bool (by unfold inB; simp; omega), rfl⟩
theorem l00In_yes (n lo hi : Int) (w : World) (h : lo ≤ n ∧ n ≤ hi) :
    Calls Try.prog 68 #[.int .i64 n, .int .i64 lo, .int .i64 hi] w fun e w' => e = .returned (.bool true) ∧ w = w' :=
  (l00In_any n lo hi w).mono fun _ _ ⟨he, hw⟩ => ⟨by rw [he, inB_yes h], hw⟩
theorem l00In_no (n lo hi : Int) (w : World) (h : n < lo ∨ hi < n) :
    Calls Try.prog 68 #[.int .i64 n, .int .i64 lo, .int .i64 hi] w fun e w' => e = .returned (.bool false) ∧ w = w' :=
  (l00In_any n lo hi w).mono fun _ _ ⟨he, hw⟩ => ⟨by rw [he, inB_no h], hw⟩
theorem within_any (n lo hi : Int) (w : World) :
    Calls Try.prog 76 #[.int .i64 n, .int .i64 lo, .int .i64 hi] w fun e w' => e = .returned (.bool (inB n lo hi)) ∧ w = w' := by
  by_cases h : lo ≤ n
  · go_enter Try.func76, Try.ntmps76
    go_wp2
    go_ret
    exact ⟨ret_bool (by simp [inB, h]), rfl⟩
  · go_enter Try.func76, Try.ntmps76
    go_wp2
    go_ret
    exact ⟨ret_bool (by unfold inB; simp; omega), rfl⟩
theorem within_yes (n lo hi : Int) (w : World) (h : lo ≤ n ∧ n ≤ hi) :
    Calls Try.prog 76 #[.int .i64 n, .int .i64 lo, .int .i64 hi] w fun e w' => e = .returned (.bool true) ∧ w = w' :=
  (within_any n lo hi w).mono fun _ _ ⟨he, hw⟩ => ⟨by rw [he, inB_yes h], hw⟩
theorem within_no (n lo hi : Int) (w : World) (h : n < lo ∨ hi < n) :
    Calls Try.prog 76 #[.int .i64 n, .int .i64 lo, .int .i64 hi] w fun e w' => e = .returned (.bool false) ∧ w = w' :=
  (within_any n lo hi w).mono fun _ _ ⟨he, hw⟩ => ⟨by rw [he, inB_no h], hw⟩
theorem ret_ib {a b : Int} {c d : Bool} (h : a = b) (k : c = d) : Ending.returned (.tuple #[.int .i64 a, .bool c]) = .returned (.tuple #[.int .i64 b, .bool d]) := by rw [h, k]
theorem l20Needle_any (c : Int) (w : World) (h : 0 ≤ c ∧ c ≤ 1000) :
    Calls Try.prog 199 #[.int .i64 c] w fun e w' => e = .returned (.int .i64 (2 * c + 1)) ∧ w = w' := by
  obtain ⟨h0, h1⟩ := h
  go_enter Try.func199, Try.ntmps199
  go_wp2
  go_ret
  exact ⟨rfl, rfl⟩
theorem needleOf_any (c : Int) (w : World) (h : 0 ≤ c ∧ c ≤ 1000) :
    Calls Try.prog 77 #[.int .i64 c] w fun e w' => e = .returned (.int .i64 (2 * c + 1)) ∧ w = w' := by
  obtain ⟨h0, h1⟩ := h
  go_enter Try.func77, Try.ntmps77
  go_wp2
  go_ret
  exact ⟨rfl, rfl⟩
end Go.Proofs.Ytjgdcjhmfbefdaa
