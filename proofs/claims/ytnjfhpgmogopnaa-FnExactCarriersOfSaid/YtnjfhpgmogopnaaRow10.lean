/- The operations of letters of columns; CrossingOps on both sides. No condition but room. -/
import Derived.Test.YtnjfhpgmogopnaaRow9
import Derived.Test.YtnjfhpgmogopnaaCopy
namespace Go.Proofs.Ytnjfhpgmogopnaa
open Go.ChangeShapes Go.WideShapes Go.ChangeAt Go.RowKit
def crossL (first : Int) (ws : List Int) : List OpM := ws.flatMap fun k => crossM (first + 2 * (absI k - 1)) (decide (0 < k))
theorem crossL_len (first : Int) (ws : List Int) : (crossL first ws).length = 12 * ws.length := by
  induction ws with
  | nil => rfl
  | cons k ws ih => simp only [crossL, List.flatMap_cons, List.length_append, List.length_cons] at *; rw [ih, crossM_length]; omega
theorem crossL_take (first : Int) {ws : List Int} {j : Nat} (h : j < ws.length) : crossL first (ws.take (j + 1)) = crossL first (ws.take j) ++ crossM (first + 2 * (absI ws[j] - 1)) (decide (0 < ws[j])) := by
  unfold crossL
  rw [List.take_succ_eq_append_getElem h, List.flatMap_append]
  simp
def letOk (hi : Int) (ws : List Int) : Prop := ∀ k ∈ ws, 1 ≤ absI k ∧ absI k ≤ hi
theorem absI_le {k hi : Int} (h : absI k ≤ hi) : -hi ≤ k ∧ k ≤ hi := by unfold absI at h; split at h <;> omega
theorem needle_letter {k : Int} (h : 1 ≤ absI k ∧ absI k ≤ 7) : (1 ≤ 2 * (absI k - 1) + 1 ∧ 2 * (absI k - 1) + 1 ≤ 20) ∧ (0 ≤ absI k - 1 ∧ absI k - 1 ≤ 1000) := by omega
def crossingOut (r : RowM) : List OpM := if rowCodeM r.d r.c r.xs = 0 then crossL 1 (letL 0 r.xs) else []
theorem crossingOut_bd (r : RowM) : cntOps (crossingOut r) ≤ 1000000 := by
  unfold crossingOut cntOps
  split
  · rename_i h
    have hl := (laid_of h).len
    have := letL_length r.xs 0
    rw [crossL_len]
    omega
  · simp
end Go.Proofs.Ytnjfhpgmogopnaa
