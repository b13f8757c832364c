/- Moves: one move as data, its tests, its copy. No condition. The laws' own copies of slices of records, and their sizes. No condition but room. The operations of letters of columns; CrossingOps on both sides. No condition but room. -/
import Derived.Test.YtplabnjdhkmmkaaPF5
import Derived.Lib.SmallJoins
import Derived.Test.YtplabnjdhkmmkaaPF4
import Derived.Test.YtplabnjdhkmmkaaPF6
import Derived.Test.YtplabnjdhkmmkaaPF7
section
set_option linter.unusedSimpArgs false
set_option linter.unusedVariables false
set_option maxHeartbeats 4000000
namespace Go.Proofs.Ytplabnjdhkmmkaa
open Go.ChangeShapes Go.WideShapes Go.ChangeAt Go.RowKit
def isMoveP (f t : Int) : Prop := (0 ≤ f ∧ f ≤ 23) ∧ (0 ≤ t ∧ t ≤ 23) ∧ f ≠ t ∧ (-3 ≤ t - f ∧ t - f ≤ 3)
instance (f t : Int) : Decidable (isMoveP f t) := inferInstanceAs (Decidable (_ ∧ _))
theorem move_cases (f t : Int) : (f < 0 ∨ 23 < f) ∨ ((0 ≤ f ∧ f ≤ 23) ∧ (t < 0 ∨ 23 < t)) ∨ ((0 ≤ f ∧ f ≤ 23) ∧ (0 ≤ t ∧ t ≤ 23) ∧ f = t) ∨
    ((0 ≤ f ∧ f ≤ 23) ∧ (0 ≤ t ∧ t ≤ 23) ∧ f ≠ t ∧ (t - f < -3 ∨ 3 < t - f)) ∨ ((0 ≤ f ∧ f ≤ 23) ∧ (0 ≤ t ∧ t ≤ 23) ∧ f ≠ t ∧ (-3 ≤ t - f ∧ t - f ≤ 3)) := by omega
theorem isMove_any (w : World) (f t : Int) :
    Calls Try.prog 38 #[.agg #[.int .i64 f, .int .i64 t]] w fun e w' => e = .returned (.bool (decide (isMoveP f t))) ∧ Up w w' := by
  rcases move_cases f t with h | ⟨h, h2⟩ | ⟨h, h2, h3⟩ | ⟨h, h2, h3, h4⟩ | ⟨h, h2, h3, h4⟩
  · rw [show decide (isMoveP f t) = false from decide_eq_false (fun hh => by unfold isMoveP at hh; omega)]
    go_enter Try.func38, Try.ntmps38
    go_wp2_with (first | (go_at_call 31; refine (isAt_yes _ _ ?_).mono ?_; (omega); rintro e w' ⟨rfl, rfl⟩) | (go_at_call 31; refine (isAt_no _ _ ?_).mono ?_; (omega); rintro e w' ⟨rfl, rfl⟩) | (go_at_call 60; refine (within_yes _ _ _ _ ?_).mono ?_; (omega); rintro e w' ⟨rfl, rfl⟩) | (go_at_call 60; refine (within_no _ _ _ _ ?_).mono ?_; (omega); rintro e w' ⟨rfl, rfl⟩))
    go_ret
    exact ⟨rfl, by repeat (first | exact Chg.refl _ _ | refine Chg.alloc ?_ _)⟩
  · rw [show decide (isMoveP f t) = false from decide_eq_false (fun hh => by unfold isMoveP at hh; omega)]
    go_enter Try.func38, Try.ntmps38
    go_wp2_with (first | (go_at_call 31; refine (isAt_yes _ _ ?_).mono ?_; (omega); rintro e w' ⟨rfl, rfl⟩) | (go_at_call 31; refine (isAt_no _ _ ?_).mono ?_; (omega); rintro e w' ⟨rfl, rfl⟩) | (go_at_call 60; refine (within_yes _ _ _ _ ?_).mono ?_; (omega); rintro e w' ⟨rfl, rfl⟩) | (go_at_call 60; refine (within_no _ _ _ _ ?_).mono ?_; (omega); rintro e w' ⟨rfl, rfl⟩))
    go_ret
    exact ⟨rfl, by repeat (first | exact Chg.refl _ _ | refine Chg.alloc ?_ _)⟩
  · rw [show decide (isMoveP f t) = false from decide_eq_false (fun hh => by unfold isMoveP at hh; omega)]
    subst h3
    have hn : (f != f) = false := by simp
    go_enter Try.func38, Try.ntmps38
    go_wp2_with (first | (go_at_call 31; refine (isAt_yes _ _ ?_).mono ?_; (omega); rintro e w' ⟨rfl, rfl⟩) | (go_at_call 31; refine (isAt_no _ _ ?_).mono ?_; (omega); rintro e w' ⟨rfl, rfl⟩) | (go_at_call 60; refine (within_yes _ _ _ _ ?_).mono ?_; (omega); rintro e w' ⟨rfl, rfl⟩) | (go_at_call 60; refine (within_no _ _ _ _ ?_).mono ?_; (omega); rintro e w' ⟨rfl, rfl⟩))
    go_ret
    exact ⟨rfl, by repeat (first | exact Chg.refl _ _ | refine Chg.alloc ?_ _)⟩
  · rw [show decide (isMoveP f t) = false from decide_eq_false (fun hh => by unfold isMoveP at hh; omega)]
    have hn : (f != t) = true := by simpa using h3
    clear h3
    go_enter Try.func38, Try.ntmps38
    go_wp2_with (first | (go_at_call 31; refine (isAt_yes _ _ ?_).mono ?_; (omega); rintro e w' ⟨rfl, rfl⟩) | (go_at_call 31; refine (isAt_no _ _ ?_).mono ?_; (omega); rintro e w' ⟨rfl, rfl⟩) | (go_at_call 60; refine (within_yes _ _ _ _ ?_).mono ?_; (omega); rintro e w' ⟨rfl, rfl⟩) | (go_at_call 60; refine (within_no _ _ _ _ ?_).mono ?_; (omega); rintro e w' ⟨rfl, rfl⟩))
    go_ret
    exact ⟨rfl, by repeat (first | exact Chg.refl _ _ | refine Chg.alloc ?_ _)⟩
  · rw [show decide (isMoveP f t) = true from decide_eq_true ⟨h, h2, h3, h4⟩]
    have hn : (f != t) = true := by simpa using h3
    clear h3
    go_enter Try.func38, Try.ntmps38
    go_wp2_with (first | (go_at_call 31; refine (isAt_yes _ _ ?_).mono ?_; (omega); rintro e w' ⟨rfl, rfl⟩) | (go_at_call 31; refine (isAt_no _ _ ?_).mono ?_; (omega); rintro e w' ⟨rfl, rfl⟩) | (go_at_call 60; refine (within_yes _ _ _ _ ?_).mono ?_; (omega); rintro e w' ⟨rfl, rfl⟩) | (go_at_call 60; refine (within_no _ _ _ _ ?_).mono ?_; (omega); rintro e w' ⟨rfl, rfl⟩))
    go_ret
    exact ⟨rfl, by repeat (first | exact Chg.refl _ _ | refine Chg.alloc ?_ _)⟩
end Go.Proofs.Ytplabnjdhkmmkaa
end
section
set_option linter.unusedSimpArgs false
set_option linter.unusedVariables false
namespace Go.Proofs.Ytplabnjdhkmmkaa
open Go.ChangeShapes Go.WideShapes Go.ChangeAt Go.RowKit
/-- in the middle of copying: all cells of the row are there; the first ones bear what they should -/
def Copying (w : World) (b m n j : Nat) (cs : List Value) : Prop :=
  ∀ t, t < n * m → (∃ u, w.cell? ⟨b, t, none⟩ = some u) ∧ w.frozen? ⟨b, t, none⟩ = false ∧ (t < j * m → w.cell? ⟨b, t, none⟩ = cs[t]?)
theorem Copying.cell {w : World} {b m n j : Nat} {cs : List Value} (h : Copying w b m n j cs) (hj : j < n) (i : Nat) (hi : i < m) :
    ∃ u, w.cell? ⟨b, j * m + i, none⟩ = some u ∧ w.frozen? ⟨b, j * m + i, none⟩ = false := by
  have hlt : j * m + i < n * m := by
    have : (j + 1) * m ≤ n * m := Nat.mul_le_mul_right m hj
    rw [Nat.add_mul] at this
    omega
  obtain ⟨⟨u, h1⟩, h2, _⟩ := h (j * m + i) hlt
  exact ⟨u, h1, h2⟩
theorem Copying.next {w : World} {b m n j : Nat} {cs : List Value} (h : Copying w b m n j cs) (hj : j < n) {vs : List Value} (hl : vs.length = m) (hv : ∀ i (hi : i < vs.length), cs[j * m + i]? = some vs[i]) :
    Copying (w.setCells b (j * m) vs) b m n (j + 1) cs := by
  intro t ht
  have hfr := (h t ht).2.1
  refine ⟨?_, by rw [World.frozen?_setCells]; exact hfr, fun hlt => ?_⟩
  · by_cases hin : j * m ≤ t ∧ t < (j + 1) * m
    · rw [Nat.add_mul] at hin
      have := World.cell?_setCells_in b vs (j * m) w (fun i hi => by
        obtain ⟨u, hu, _⟩ := h.cell hj i (by omega)
        simp [hu]) (t - j * m) (by omega)
      rw [show j * m + (t - j * m) = t by omega] at this
      exact ⟨_, this⟩
    · rw [Nat.add_mul] at hin
      rw [World.cell?_setCells_out b vs _ w _ (fun _ _ => by simp only []; omega)]
      exact (h t ht).1
  · by_cases hin : j * m ≤ t
    · rw [Nat.add_mul] at hlt
      have := World.cell?_setCells_in b vs (j * m) w (fun i hi => by
        obtain ⟨u, hu, _⟩ := h.cell hj i (by omega)
        simp [hu]) (t - j * m) (by omega)
      rw [show j * m + (t - j * m) = t by omega] at this
      rw [this]
      have h2 := hv (t - j * m) (by omega)
      rw [show j * m + (t - j * m) = t by omega] at h2
      rw [h2]
    · rw [World.cell?_setCells_out b vs _ w _ (fun _ _ => by simp only []; omega)]
      exact (h t ht).2.2 (by omega)
theorem Copying.up {w w' : World} {b m n j : Nat} {cs : List Value} (h : Copying w b m n j cs) (g : Up w w') : Copying w' b m n j cs := fun t ht => by
  obtain ⟨⟨u, h1⟩, h2, h3⟩ := h t ht
  have hb : b < w.heap.size := World.block_lt_of_cell? w _ h1
  have hc := g.cell h1 id
  refine ⟨⟨u, hc⟩, ?_, fun hlt => ?_⟩
  · have hk := g.block b hb id
    simpa [World.frozen?, hk] using h2
  · rw [hc, ← h1]; exact h3 hlt
theorem Copying.done {w : World} {S : Nat → Prop} {b m n : Nat} {cs : List Value} (h : Copying w b m n n cs) (hS : S b) (hb : b < w.heap.size) (hl : cs.length = n * m) (hm : n ≤ 9223372036854775807) :
    Raw w S m (.slice (some ⟨b, 0, none⟩) n n) n cs :=
  ⟨hl, _, n, rfl, Nat.le_refl _, hm, fun _ => ⟨b, 0, rfl, hS, hb, fun t ht => by
    rw [Nat.zero_add]
    have := h t (by omega)
    exact ⟨(this.2.2 (by omega)).trans (List.getElem?_eq_getElem ht), this.2.1⟩⟩, by simp⟩
theorem Copying.start (w : World) (m n : Nat) (cs : List Value) (arr : Array Value) (e : TypeId) (hz : arr.size = n * m) : Copying (w.alloc (.cells arr e)) w.heap.size m n 0 cs := fun t ht =>
  ⟨⟨arr[t]'(by omega), by rw [cell_new]; exact Array.getElem?_eq_getElem (by omega)⟩, frozen_new _ _ _ _, fun h0 => by omega⟩
end Go.Proofs.Ytplabnjdhkmmkaa
end
section
set_option linter.unusedSimpArgs false
set_option linter.unusedVariables false
namespace Go.Proofs.Ytplabnjdhkmmkaa
open Go.ChangeShapes Go.WideShapes Go.ChangeAt Go.RowKit
end Go.Proofs.Ytplabnjdhkmmkaa
end
