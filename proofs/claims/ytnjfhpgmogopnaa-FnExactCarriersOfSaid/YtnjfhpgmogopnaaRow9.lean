/- The letters of rows, and the operations of their crossings, on both sides. No condition but room. -/
import Derived.Test.YtnjfhpgmogopnaaRow6
import Derived.Test.YtnjfhpgmogopnaaLetM
import Derived.Test.YtnjfhpgmogopnaaCross
import Derived.Test.YtnjfhpgmogopnaaStepO
import Derived.Deep.RegionHeld3
namespace Go.Proofs.Ytnjfhpgmogopnaa
open Go.ChangeShapes Go.WideShapes Go.ChangeAt Go.RowKit
theorem Ints.lit {w : World} {g : Nat} {arr : Array Value} {e : TypeId} {xs : List Int} (hh : w.heap[g]? = some (.cells arr e (0, 0))) (ha : arr.toList = xs.map (Value.int .i64)) (hx : ∀ x ∈ xs, I64 x) (hl : xs.length ≤ 1000) :
    Ints w (fun b => b = g) (.slice (some ⟨g, 0, none⟩) xs.length xs.length) xs := by
  refine Ints.of_cells rfl (Array.getElem?_eq_some_iff.1 hh).1 (Nat.le_refl _) (by omega) hx fun t ht => ?_
  have h1 := cell_of_row w g t arr e (0, 0) hh
  refine ⟨?_, by simp [World.frozen?, hh]⟩
  rw [h1, ← Array.getElem?_toList, ha, List.getElem?_map, List.getElem?_eq_getElem ht]
  rfl
theorem sAbs_any (k : Int) (w : World) (h : -1000000 ≤ k ∧ k ≤ 1000000) :
    Calls Try.prog 180 #[.int .i64 k] w fun e w' => e = .returned (.int .i64 (absI k)) ∧ w = w' := by
  obtain ⟨h0, h1⟩ := h
  by_cases hk : k < 0
  · have HV := Lib.hid (show absI k = -k from if_pos hk)
    go_enter Try.func180, Try.ntmps180
    go_wp2
    go_ret
    exact ⟨ret_int HV.out.symm, rfl⟩
  · have HV := Lib.hid (show absI k = k from if_neg hk)
    go_enter Try.func180, Try.ntmps180
    go_wp2
    go_ret
    exact ⟨ret_int HV.out.symm, rfl⟩
theorem size_any (k : Int) (w : World) (h : -1000000 ≤ k ∧ k ≤ 1000000) :
    Calls Try.prog 183 #[.int .i64 k] w fun e w' => e = .returned (.int .i64 (absI k)) ∧ w = w' := by
  obtain ⟨h0, h1⟩ := h
  by_cases hk : k < 0
  · have HV := Lib.hid (show absI k = -k from if_pos hk)
    go_enter Try.func183, Try.ntmps183
    go_wp2
    go_ret
    exact ⟨ret_int (by rw [HV.out]), rfl⟩
  · have HV := Lib.hid (show absI k = k from if_neg hk)
    go_enter Try.func183, Try.ntmps183
    go_wp2
    go_ret
    exact ⟨ret_int (by rw [HV.out]), rfl⟩
theorem letAt_8 (c : Int) : letAt 8 c = [c + 1] := rfl
theorem letAt_9 (c : Int) : letAt 9 c = [-c - 1] := rfl
theorem letAt_5 (c : Int) : letAt 5 c = [-c - 1] := rfl
theorem letAt_10 (c : Int) : letAt 10 c = [c + 2, c + 1, c + 3, c + 2] := rfl
theorem letAt_11 (c : Int) : letAt 11 c = [-c - 2, -c - 1, -c - 3, -c - 2] := rfl
theorem letAt_no {k c : Int} (h : ¬ k = 8 ∧ ¬ k = 9 ∧ ¬ k = 5 ∧ ¬ k = 10 ∧ ¬ k = 11) : letAt k c = [] := by
  unfold letAt
  rw [if_neg h.1, if_neg (fun hh => hh.elim h.2.1 h.2.2.1), if_neg h.2.2.2.1, if_neg h.2.2.2.2]
end Go.Proofs.Ytnjfhpgmogopnaa
