/- slices.Grow of nil and slices.Concat at slices of operations. Condition: room. The operations with which two columns change places. Condition: a small needle. Appending operations at a step of a region that draws its order. No condition but room. The letters of rows, and the operations of their crossings, on both sides. No condition but room. -/
import Derived.Test.YtgdcffbakjfacaaDoorFC7
import Derived.Lib.AppendZerosOnto
import Derived.Lib.SliceRun
import Derived.Test.YtgdcffbakjfacaaDoorFC3
import Derived.Test.YtgdcffbakjfacaaDoorMoves
import Derived.Deep.RegionHeld3
namespace Go.Proofs.YtgdcffbakjfacaaDoor
open Go.ChangeShapes Go.WideShapes Go.ChangeAt Go.RowKit
def sumLen {α : Type} (l : List (List α)) (i : Nat) : Nat := ((l.take i).map List.length).sum
theorem sumLen_succ {α : Type} (l : List (List α)) (i : Nat) (h : i < l.length) : sumLen l (i + 1) = sumLen l i + l[i].length := by
  unfold sumLen
  rw [List.take_succ_eq_append_getElem h, List.map_append, List.sum_append]
  simp only [List.map_cons, List.map_nil, List.sum_cons, List.sum_nil, Nat.add_zero]
theorem sumLen_le {α : Type} (l : List (List α)) : ∀ i, sumLen l i ≤ sumLen l l.length := by
  intro i
  unfold sumLen
  rw [List.take_length]
  induction l generalizing i with
  | nil => simp
  | cons x xs ih =>
    cases i with
    | zero => simp
    | succ i => have := ih i; simp at this ⊢; omega
theorem flat_take {α : Type} (l : List (List α)) (i : Nat) (h : i < l.length) : (l.take (i + 1)).flatten = (l.take i).flatten ++ l[i] := by
  rw [List.take_succ_eq_append_getElem h, List.flatten_append]
  simp only [List.flatten_cons, List.flatten_nil, List.append_nil]
theorem flat_take_length {α : Type} (l : List (List α)) (i : Nat) : (l.take i).flatten.length = sumLen l i := by simp [sumLen, List.length_flatten]
end Go.Proofs.YtgdcffbakjfacaaDoor
namespace Go.Proofs.YtgdcffbakjfacaaDoor
open Go.ChangeShapes Go.WideShapes Go.ChangeAt Go.RowKit
def crossM (l : Int) (f : Bool) : List OpM := if f then rackM (l + 2) (l - 1) ++ rackM l (l + 2) ++ rackM (l - 1) l else rackM l (l + 3) ++ rackM (l + 2) l ++ rackM (l + 3) (l + 2)
theorem crossM_length (l : Int) (f : Bool) : (crossM l f).length = 12 := by
  cases f <;> simp [crossM, rackM]
end Go.Proofs.YtgdcffbakjfacaaDoor
namespace Go.Proofs.YtgdcffbakjfacaaDoor
open Go.ChangeShapes Go.WideShapes Go.ChangeAt Go.RowKit
end Go.Proofs.YtgdcffbakjfacaaDoor
namespace Go.Proofs.YtgdcffbakjfacaaDoor
open Go.ChangeShapes Go.WideShapes Go.ChangeAt Go.RowKit
theorem Ints.lit {w : World} {g : Nat} {arr : Array Value} {e : TypeId} {xs : List Int} (hh : w.heap[g]? = some (.cells arr e (0, 0))) (ha : arr.toList = xs.map (Value.int .i64)) (hx : ∀ x ∈ xs, I64 x) (hl : xs.length ≤ 1000) :
    Ints w (fun b => b = g) (.slice (some ⟨g, 0, none⟩) xs.length xs.length) xs := by
  refine Ints.of_cells rfl (Array.getElem?_eq_some_iff.1 hh).1 (Nat.le_refl _) (by omega) hx fun t ht => ?_
  have h1 := cell_of_row w g t arr e (0, 0) hh
  refine ⟨?_, by simp [World.frozen?, hh]⟩
  rw [h1, ← Array.getElem?_toList, ha, List.getElem?_map, List.getElem?_eq_getElem ht]
  rfl
theorem letAt_8 (c : Int) : letAt 8 c = [c + 1] := rfl
theorem letAt_9 (c : Int) : letAt 9 c = [-c - 1] := rfl
theorem letAt_5 (c : Int) : letAt 5 c = [-c - 1] := rfl
theorem letAt_10 (c : Int) : letAt 10 c = [c + 2, c + 1, c + 3, c + 2] := rfl
theorem letAt_11 (c : Int) : letAt 11 c = [-c - 2, -c - 1, -c - 3, -c - 2] := rfl
theorem letAt_no {k c : Int} (h : ¬ k = 8 ∧ ¬ k = 9 ∧ ¬ k = 5 ∧ ¬ k = 10 ∧ ¬ k = 11) : letAt k c = [] := by
  unfold letAt
  rw [if_neg h.1, if_neg (fun hh => hh.elim h.2.1 h.2.2.1), if_neg h.2.2.2.1, if_neg h.2.2.2.2]
end Go.Proofs.YtgdcffbakjfacaaDoor
