/- Moves: one move as data, its tests, its copy. No condition. The laws' own copies of slices of records, and their sizes. No condition but room. Rows of stitches as plain data: the columns that stitches take and make; lists of numbers one after the other. No condition. Contracts of small tests on numbers: carriers, directions, places, kinds of stitches. No condition. -/
import Derived.Test.YtplabnjdhkmmkaaPF3
import Derived.Lib.SmallJoins
import Derived.Test.YtplabnjdhkmmkaaPF1
section
set_option linter.unusedSimpArgs false
set_option linter.unusedVariables false
namespace Go.Proofs.Ytplabnjdhkmmkaa
open Go.ChangeShapes Go.WideShapes Go.ChangeAt Go.RowKit
def isMoveP (f t : Int) : Prop := (0 ≤ f ∧ f ≤ 23) ∧ (0 ≤ t ∧ t ≤ 23) ∧ f ≠ t ∧ (-3 ≤ t - f ∧ t - f ≤ 3)
instance (f t : Int) : Decidable (isMoveP f t) := inferInstanceAs (Decidable (_ ∧ _))
end Go.Proofs.Ytplabnjdhkmmkaa
end
section
set_option linter.unusedSimpArgs false
set_option linter.unusedVariables false
namespace Go.Proofs.Ytplabnjdhkmmkaa
open Go.ChangeShapes Go.WideShapes Go.ChangeAt Go.RowKit
/-- in the middle of copying: all cells of the row are there; the first ones bear what they should -/
def Copying (w : World) (b m n j : Nat) (cs : List Value) : Prop :=
  ∀ t, t < n * m → (∃ u, w.cell? ⟨b, t, none⟩ = some u) ∧ w.frozen? ⟨b, t, none⟩ = false ∧ (t < j * m → w.cell? ⟨b, t, none⟩ = cs[t]?)
theorem Copying.cell {w : World} {b m n j : Nat} {cs : List Value} (h : Copying w b m n j cs) (hj : j < n) (i : Nat) (hi : i < m) :
    ∃ u, w.cell? ⟨b, j * m + i, none⟩ = some u ∧ w.frozen? ⟨b, j * m + i, none⟩ = false := by
  have hlt : j * m + i < n * m := by
    have : (j + 1) * m ≤ n * m := Nat.mul_le_mul_right m hj
    rw [Nat.add_mul] at this
    omega
  obtain ⟨⟨u, h1⟩, h2, _⟩ := h (j * m + i) hlt
  exact ⟨u, h1, h2⟩
theorem Copying.next {w : World} {b m n j : Nat} {cs : List Value} (h : Copying w b m n j cs) (hj : j < n) {vs : List Value} (hl : vs.length = m) (hv : ∀ i (hi : i < vs.length), cs[j * m + i]? = some vs[i]) :
    Copying (w.setCells b (j * m) vs) b m n (j + 1) cs := by
  intro t ht
  have hfr := (h t ht).2.1
  refine ⟨?_, by rw [World.frozen?_setCells]; exact hfr, fun hlt => ?_⟩
  · by_cases hin : j * m ≤ t ∧ t < (j + 1) * m
    · rw [Nat.add_mul] at hin
      have := World.cell?_setCells_in b vs (j * m) w (fun i hi => by
        obtain ⟨u, hu, _⟩ := h.cell hj i (by omega)
        simp [hu]) (t - j * m) (by omega)
      rw [show j * m + (t - j * m) = t by omega] at this
      exact ⟨_, this⟩
    · rw [Nat.add_mul] at hin
      rw [World.cell?_setCells_out b vs _ w _ (fun _ _ => by simp only []; omega)]
      exact (h t ht).1
  · by_cases hin : j * m ≤ t
    · rw [Nat.add_mul] at hlt
      have := World.cell?_setCells_in b vs (j * m) w (fun i hi => by
        obtain ⟨u, hu, _⟩ := h.cell hj i (by omega)
        simp [hu]) (t - j * m) (by omega)
      rw [show j * m + (t - j * m) = t by omega] at this
      rw [this]
      have h2 := hv (t - j * m) (by omega)
      rw [show j * m + (t - j * m) = t by omega] at h2
      rw [h2]
    · rw [World.cell?_setCells_out b vs _ w _ (fun _ _ => by simp only []; omega)]
      exact (h t ht).2.2 (by omega)
theorem Copying.up {w w' : World} {b m n j : Nat} {cs : List Value} (h : Copying w b m n j cs) (g : Up w w') : Copying w' b m n j cs := fun t ht => by
  obtain ⟨⟨u, h1⟩, h2, h3⟩ := h t ht
  have hb : b < w.heap.size := World.block_lt_of_cell? w _ h1
  have hc := g.cell h1 id
  refine ⟨⟨u, hc⟩, ?_, fun hlt => ?_⟩
  · have hk := g.block b hb id
    simpa [World.frozen?, hk] using h2
  · rw [hc, ← h1]; exact h3 hlt
theorem Chg.setCellsNew {S : Nat → Prop} {a : World} {b : Nat} (hb : a.heap.size ≤ b) : ∀ (vs : List Value) (o : Nat) {w : World}, Chg S a w → Chg S a (w.setCells b o vs)
  | [], _, _, h => h
  | v :: r, o, _, h => Chg.setCellsNew hb r (o + 1) (h.setCell (.inr hb) v)
theorem Copying.done {w : World} {S : Nat → Prop} {b m n : Nat} {cs : List Value} (h : Copying w b m n n cs) (hS : S b) (hb : b < w.heap.size) (hl : cs.length = n * m) (hm : n ≤ 9223372036854775807) :
    Raw w S m (.slice (some ⟨b, 0, none⟩) n n) n cs :=
  ⟨hl, _, n, rfl, Nat.le_refl _, hm, fun _ => ⟨b, 0, rfl, hS, hb, fun t ht => by
    rw [Nat.zero_add]
    have := h t (by omega)
    exact ⟨(this.2.2 (by omega)).trans (List.getElem?_eq_getElem ht), this.2.1⟩⟩, by simp⟩
theorem Copying.start (w : World) (m n : Nat) (cs : List Value) (arr : Array Value) (e : TypeId) (hz : arr.size = n * m) : Copying (w.alloc (.cells arr e)) w.heap.size m n 0 cs := fun t ht =>
  ⟨⟨arr[t]'(by omega), by rw [cell_new]; exact Array.getElem?_eq_getElem (by omega)⟩, frozen_new _ _ _ _, fun h0 => by omega⟩
end Go.Proofs.Ytplabnjdhkmmkaa
end
section
set_option linter.unusedSimpArgs false
set_option linter.unusedVariables false
namespace Go.Proofs.Ytplabnjdhkmmkaa
def kindB (k : Int) : Bool := inB k 1 11
def takenK (k : Int) : Int := if k = 3 then 0 else if k = 4 ∨ k = 5 ∨ k = 8 ∨ k = 9 then 2 else if k = 10 ∨ k = 11 then 4 else 1
def madeK (k : Int) : Int := if k = 8 ∨ k = 9 then 2 else if k = 10 ∨ k = 11 then 4 else 1
def sumF (f : Int → Int) : List Int → Int
  | [] => 0
  | x :: xs => f x + sumF f xs
/-- a row that is laid out -/
structure LaidRow (d c : Int) (xs : List Int) : Prop where
  dir : d = 1 ∨ d = -1
  car : 1 ≤ c ∧ c ≤ 4
  len : xs.length ≤ 16
  kind : ∀ x ∈ xs, kindB x = true
  taken : 1 ≤ sumF takenK xs ∧ sumF takenK xs ≤ 8
  made : 1 ≤ sumF madeK xs ∧ sumF madeK xs ≤ 8
end Go.Proofs.Ytplabnjdhkmmkaa
end
section
set_option linter.unusedSimpArgs false
set_option linter.unusedVariables false
namespace Go.Proofs.Ytplabnjdhkmmkaa
open Go.ChangeShapes Go.WideShapes Go.ChangeAt Go.RowKit
theorem isCarrier_yes (n : Int) (w : World) (h : 1 ≤ n ∧ n ≤ 4) :
    Calls Try.prog 29 #[.int .i64 n] w fun e w' => e = .returned (.bool true) ∧ w = w' := by
  go_enter Try.func29, Try.ntmps29
  go_wp2_with (first | (go_at_call 60; refine (within_yes _ _ _ _ ?_).mono ?_; (omega); rintro e w' ⟨rfl, rfl⟩) | (go_at_call 60; refine (within_no _ _ _ _ ?_).mono ?_; (omega); rintro e w' ⟨rfl, rfl⟩))
  go_ret
  exact ⟨rfl, rfl⟩
theorem isCarrier_no (n : Int) (w : World) (h : n < 1 ∨ 4 < n) :
    Calls Try.prog 29 #[.int .i64 n] w fun e w' => e = .returned (.bool false) ∧ w = w' := by
  go_enter Try.func29, Try.ntmps29
  go_wp2_with (first | (go_at_call 60; refine (within_yes _ _ _ _ ?_).mono ?_; (omega); rintro e w' ⟨rfl, rfl⟩) | (go_at_call 60; refine (within_no _ _ _ _ ?_).mono ?_; (omega); rintro e w' ⟨rfl, rfl⟩))
  go_ret
  exact ⟨rfl, rfl⟩
theorem l07Yarn_yes (n : Int) (w : World) (h : 1 ≤ n ∧ n ≤ 4) :
    Calls Try.prog 91 #[.int .i64 n] w fun e w' => e = .returned (.bool true) ∧ w = w' := by
  go_enter Try.func91, Try.ntmps91
  go_wp2_with (first | (go_at_call 64; refine (l00In_yes _ _ _ _ ?_).mono ?_; (omega); rintro e w' ⟨rfl, rfl⟩) | (go_at_call 64; refine (l00In_no _ _ _ _ ?_).mono ?_; (omega); rintro e w' ⟨rfl, rfl⟩))
  go_ret
  exact ⟨rfl, rfl⟩
theorem l07Yarn_no (n : Int) (w : World) (h : n < 1 ∨ 4 < n) :
    Calls Try.prog 91 #[.int .i64 n] w fun e w' => e = .returned (.bool false) ∧ w = w' := by
  go_enter Try.func91, Try.ntmps91
  go_wp2_with (first | (go_at_call 64; refine (l00In_yes _ _ _ _ ?_).mono ?_; (omega); rintro e w' ⟨rfl, rfl⟩) | (go_at_call 64; refine (l00In_no _ _ _ _ ?_).mono ?_; (omega); rintro e w' ⟨rfl, rfl⟩))
  go_ret
  exact ⟨rfl, rfl⟩
theorem l07Dir_yes (n : Int) (w : World) (h : n = 1 ∨ n = -1) :
    Calls Try.prog 89 #[.int .i64 n] w fun e w' => e = .returned (.bool true) ∧ w = w' := by
  rcases h with rfl | rfl
  all_goals
    go_enter Try.func89, Try.ntmps89
    go_wp2
    go_ret
    exact ⟨rfl, rfl⟩
theorem l07Dir_no (n : Int) (w : World) (h : n ≠ 1 ∧ n ≠ -1) :
    Calls Try.prog 89 #[.int .i64 n] w fun e w' => e = .returned (.bool false) ∧ w = w' := by
  have h1 : (n == 1) = false := by simpa using h.1
  have h2 : (n == -1) = false := by simpa using h.2
  clear h
  go_enter Try.func89, Try.ntmps89
  go_wp2
  go_ret
  exact ⟨rfl, rfl⟩
theorem isDirection_yes (n : Int) (w : World) (h : n = 1 ∨ n = -1) :
    Calls Try.prog 142 #[.int .i64 n] w fun e w' => e = .returned (.bool true) ∧ w = w' := by
  rcases h with rfl | rfl
  all_goals
    go_enter Try.func142, Try.ntmps142
    go_wp2
    go_ret
    exact ⟨rfl, rfl⟩
theorem isDirection_no (n : Int) (w : World) (h : n ≠ 1 ∧ n ≠ -1) :
    Calls Try.prog 142 #[.int .i64 n] w fun e w' => e = .returned (.bool false) ∧ w = w' := by
  have h1 : (n == 1) = false := by simpa using h.1
  have h2 : (n == -1) = false := by simpa using h.2
  clear h
  go_enter Try.func142, Try.ntmps142
  go_wp2
  go_ret
  exact ⟨rfl, rfl⟩
end Go.Proofs.Ytplabnjdhkmmkaa
end
