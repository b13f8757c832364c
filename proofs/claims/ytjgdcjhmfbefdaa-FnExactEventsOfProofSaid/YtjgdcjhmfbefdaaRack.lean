/- The operations with which loops go from a front needle to another one. Condition: small needles. -/
import Derived.Test.YtjgdcjhmfbefdaaOps
import Derived.Test.YtjgdcjhmfbefdaaPlaces
namespace Go.Proofs.Ytjgdcjhmfbefdaa
open Go.ChangeShapes Go.WideShapes Go.ChangeAt Go.RowKit
def rackM (a b : Int) : List OpM := [⟨4, 0, 1, a, 2, a, 0, 0⟩, ⟨7, 0, 0, 0, 0, 0, 0, b - a⟩, ⟨4, 0, 2, a, 1, b, 0, 0⟩, ⟨7, 0, 0, 0, 0, 0, 0, 0⟩]
theorem rackM_ok {a b : Int} (ha : 0 ≤ a ∧ a ≤ 1000) (hb : 0 ≤ b ∧ b ≤ 1000) : ∀ x ∈ rackM a b, x.ok := by
  intro x hx
  simp only [rackM, List.mem_cons, List.not_mem_nil, or_false] at hx
  rcases hx with rfl | rfl | rfl | rfl <;> (unfold OpM.ok I64; simp only []; omega)
theorem rackOps_any (w : World) (a b : Int) (ha : 0 ≤ a ∧ a ≤ 1000) (hb : 0 ≤ b ∧ b ≤ 1000) :
    Calls Try.prog 186 #[.int .i64 a, .int .i64 b] w fun e w' => ∃ v, e = .returned v ∧ Ops w' (New w.heap.size w'.heap.size) v (rackM a b) ∧ Up w w' := by
  have hok := Lib.hid (rackM_ok ha hb)
  obtain ⟨ha0, ha1⟩ := ha
  obtain ⟨hb0, hb1⟩ := hb
  go_enter Try.func186, Try.ntmps186
  go_wp2
  go_ret
  refine ⟨_, rfl, ⟨Raw.of_block (heap_new_at (by simp)) rfl ⟨by simp, by simp⟩ rfl (by simp) (by omega), hok.out⟩, ((Chg.refl _ _).alloc _).alloc _⟩
theorem isRack_yes (n : Int) (w : World) (h : -3 ≤ n ∧ n ≤ 3) :
    Calls Try.prog 85 #[.int .i64 n] w fun e w' => e = .returned (.bool true) ∧ w = w' := by
  go_enter Try.func85, Try.ntmps85
  go_wp2_with (first | (go_at_call 76; refine (within_yes _ _ _ _ ?_).mono ?_; (omega); rintro e w' ⟨rfl, rfl⟩) | (go_at_call 76; refine (within_no _ _ _ _ ?_).mono ?_; (omega); rintro e w' ⟨rfl, rfl⟩))
  go_ret
  exact ⟨rfl, rfl⟩
theorem isRack_no (n : Int) (w : World) (h : n < -3 ∨ 3 < n) :
    Calls Try.prog 85 #[.int .i64 n] w fun e w' => e = .returned (.bool false) ∧ w = w' := by
  go_enter Try.func85, Try.ntmps85
  go_wp2_with (first | (go_at_call 76; refine (within_yes _ _ _ _ ?_).mono ?_; (omega); rintro e w' ⟨rfl, rfl⟩) | (go_at_call 76; refine (within_no _ _ _ _ ?_).mono ?_; (omega); rintro e w' ⟨rfl, rfl⟩))
  go_ret
  exact ⟨rfl, rfl⟩
end Go.Proofs.Ytjgdcjhmfbefdaa
