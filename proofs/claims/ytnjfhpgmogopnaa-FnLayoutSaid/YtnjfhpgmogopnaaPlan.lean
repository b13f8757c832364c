/- How columns are moved: the reference's and the program's plans. No condition. -/
import Derived.Test.YtnjfhpgmogopnaaSteps
import Derived.Deep.RegionHeld3
namespace Go.Proofs.Ytnjfhpgmogopnaa
open Go.ChangeShapes Go.WideShapes Go.ChangeAt Go.RowKit
def ix (xs : List Int) (i : Nat) : Int := xs.getD i 0
theorem ix_eq {xs : List Int} {i : Nat} (h : i < xs.length) : ix xs i = xs[i] := by unfold ix; simp [h]
theorem Ints.ix {w : World} {S : Nat → Prop} {A : Option Addr} {c : Nat} {xs : List Int} (h : Ints w S (.slice A xs.length c) xs) {i : Nat} (hi : i < xs.length) :
    ∃ b o, A = some ⟨b, o, none⟩ ∧ b < w.heap.size ∧ ∀ j, j < xs.length → w.cell? ⟨b, o + j, none⟩ = some (.int .i64 (ix xs j)) := by
  obtain ⟨A', c', he, _, _, _, hr, _⟩ := h
  obtain ⟨rfl, rfl⟩ : A = A' ∧ c = c' := by simpa using he
  obtain ⟨b, o, hA, _, hbl, hc⟩ := hr (by omega)
  exact ⟨b, o, hA, hbl, fun j hj => by rw [ix_eq hj]; exact (hc j hj).1⟩
theorem places_in {tw : Bool} {xs : List Int} (h : placesB tw xs = true) {i : Nat} (hi : i < xs.length) : 0 ≤ ix xs i ∧ ix xs i ≤ 23 := by
  obtain ⟨h1, _⟩ := of_decide_eq_true h
  rw [ix_eq hi]
  exact ⟨(h1 i hi hi).1, (h1 i hi hi).2.1⟩
theorem places_short {tw : Bool} {xs : List Int} (h : placesB tw xs = true) : xs.length ≤ 8 := (of_decide_eq_true h).2
/-- no two columns are put together of which the second does not come from the right -/
def groupsTo (xs ys : List Int) (j : Nat) : Prop := ∀ i, i < j → 0 < i → i < ys.length → ¬ (ix ys i = ix ys (i - 1) ∧ ix xs i ≤ ix ys i)
instance (xs ys : List Int) (j : Nat) : Decidable (groupsTo xs ys j) := inferInstanceAs (Decidable (∀ i, i < j → _))
def groupsB (xs ys : List Int) : Bool := decide (groupsTo xs ys ys.length)
theorem groupsTo_succ {xs ys : List Int} {j : Nat} (h : groupsTo xs ys j) (hn : 0 < j → ¬ (ix ys j = ix ys (j - 1) ∧ ix xs j ≤ ix ys j)) : groupsTo xs ys (j + 1) := fun i hi h0 hl => by
  by_cases e : i = j
  · subst e; exact hn h0
  · exact h i (by omega) h0 hl
theorem groupsB_not {xs ys : List Int} {j : Nat} (hj : 0 < j) (hl : j < ys.length) (h : ix ys j = ix ys (j - 1) ∧ ix xs j ≤ ix ys j) : groupsB xs ys = false :=
  decide_eq_false fun hh => hh j hl hj hl h
/-- the moves of the columns that go to the right, from the last column on; of those that go to the left, from the first one on -/
def upAt (xs ys : List Int) (i : Nat) : List MoveM := if ix xs i < ix ys i then stepsM (ix xs i) (ix ys i) else []
def downAt (xs ys : List Int) (i : Nat) : List MoveM := if ix ys i < ix xs i then stepsM (ix xs i) (ix ys i) else []
def upTo (xs ys : List Int) (m : Nat) : List MoveM := (List.range m).flatMap fun r => upAt xs ys (xs.length - 1 - r)
def downTo (xs ys : List Int) (m : Nat) : List MoveM := (List.range m).flatMap fun i => downAt xs ys i
def planM (xs ys : List Int) : List MoveM := upTo xs ys xs.length ++ downTo xs ys xs.length
theorem upTo_succ (xs ys : List Int) (m : Nat) : upTo xs ys (m + 1) = upTo xs ys m ++ upAt xs ys (xs.length - 1 - m) := by simp [upTo, List.range_succ]
theorem downTo_succ (xs ys : List Int) (m : Nat) : downTo xs ys (m + 1) = downTo xs ys m ++ downAt xs ys m := by simp [downTo, List.range_succ]
theorem upAt_len (xs ys : List Int) (i : Nat) : (upAt xs ys i).length ≤ 24 := by
  unfold upAt; split
  · exact stepsF_length _ _ _
  · simp
theorem downAt_len (xs ys : List Int) (i : Nat) : (downAt xs ys i).length ≤ 24 := by
  unfold downAt; split
  · exact stepsF_length _ _ _
  · simp
theorem upTo_len (xs ys : List Int) : ∀ m, (upTo xs ys m).length ≤ 24 * m
  | 0 => by simp [upTo]
  | m + 1 => by
    have h1 := upTo_len xs ys m
    have h2 := upAt_len xs ys (xs.length - 1 - m)
    rw [upTo_succ, List.length_append]
    omega
theorem downTo_len (xs ys : List Int) : ∀ m, (downTo xs ys m).length ≤ 24 * m
  | 0 => by simp [downTo]
  | m + 1 => by
    have h1 := downTo_len xs ys m
    have h2 := downAt_len xs ys m
    rw [downTo_succ, List.length_append]
    omega
def PlanOk (xs ys : List Int) : Prop := xs.length = ys.length ∧ xs.length ≤ 8 ∧ (∀ i, i < xs.length → 0 ≤ ix xs i ∧ ix xs i ≤ 23) ∧ (∀ i, i < xs.length → 0 ≤ ix ys i ∧ ix ys i ≤ 23)
end Go.Proofs.Ytnjfhpgmogopnaa
