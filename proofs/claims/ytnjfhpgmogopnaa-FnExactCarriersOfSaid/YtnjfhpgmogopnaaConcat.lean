/- slices.Grow of nil and slices.Concat at slices of operations. Condition: room. -/
import Derived.Test.YtnjfhpgmogopnaaOwnO
import Derived.Lib.AppendZerosOnto
import Derived.Lib.SliceRun
namespace Go.Proofs.Ytnjfhpgmogopnaa
open Go.ChangeShapes Go.WideShapes Go.ChangeAt Go.RowKit
def sumLen {α : Type} (l : List (List α)) (i : Nat) : Nat := ((l.take i).map List.length).sum
theorem sumLen_succ {α : Type} (l : List (List α)) (i : Nat) (h : i < l.length) : sumLen l (i + 1) = sumLen l i + l[i].length := by
  unfold sumLen
  rw [List.take_succ_eq_append_getElem h, List.map_append, List.sum_append]
  simp only [List.map_cons, List.map_nil, List.sum_cons, List.sum_nil, Nat.add_zero]
theorem sumLen_le {α : Type} (l : List (List α)) : ∀ i, sumLen l i ≤ sumLen l l.length := by
  intro i
  unfold sumLen
  rw [List.take_length]
  induction l generalizing i with
  | nil => simp
  | cons x xs ih =>
    cases i with
    | zero => simp
    | succ i => have := ih i; simp at this ⊢; omega
theorem flat_take {α : Type} (l : List (List α)) (i : Nat) (h : i < l.length) : (l.take (i + 1)).flatten = (l.take i).flatten ++ l[i] := by
  rw [List.take_succ_eq_append_getElem h, List.flatten_append]
  simp only [List.flatten_cons, List.flatten_nil, List.append_nil]
theorem flat_take_length {α : Type} (l : List (List α)) (i : Nat) : (l.take i).flatten.length = sumLen l i := by simp [sumLen, List.length_flatten]
end Go.Proofs.Ytnjfhpgmogopnaa
