/- How columns are moved: the reference's and the program's plans. No condition. -/
import Derived.Test.YtjgdcjhmfbefdaaSteps
import Derived.Deep.RegionHeld3
namespace Go.Proofs.Ytjgdcjhmfbefdaa
open Go.ChangeShapes Go.WideShapes Go.ChangeAt Go.RowKit
def ix (xs : List Int) (i : Nat) : Int := xs.getD i 0
theorem ix_eq {xs : List Int} {i : Nat} (h : i < xs.length) : ix xs i = xs[i] := by unfold ix; simp [h]
theorem Ints.ix {w : World} {S : Nat → Prop} {A : Option Addr} {c : Nat} {xs : List Int} (h : Ints w S (.slice A xs.length c) xs) {i : Nat} (hi : i < xs.length) :
    ∃ b o, A = some ⟨b, o, none⟩ ∧ b < w.heap.size ∧ ∀ j, j < xs.length → w.cell? ⟨b, o + j, none⟩ = some (.int .i64 (ix xs j)) := by
  obtain ⟨A', c', he, _, _, _, hr, _⟩ := h
  obtain ⟨rfl, rfl⟩ : A = A' ∧ c = c' := by simpa using he
  obtain ⟨b, o, hA, _, hbl, hc⟩ := hr (by omega)
  exact ⟨b, o, hA, hbl, fun j hj => by rw [ix_eq hj]; exact (hc j hj).1⟩
theorem places_in {tw : Bool} {xs : List Int} (h : placesB tw xs = true) {i : Nat} (hi : i < xs.length) : 0 ≤ ix xs i ∧ ix xs i ≤ 23 := by
  obtain ⟨h1, _⟩ := of_decide_eq_true h
  rw [ix_eq hi]
  exact ⟨(h1 i hi hi).1, (h1 i hi hi).2.1⟩
theorem places_short {tw : Bool} {xs : List Int} (h : placesB tw xs = true) : xs.length ≤ 8 := (of_decide_eq_true h).2
/-- no two columns are put together of which the second does not come from the right -/
def groupsTo (xs ys : List Int) (j : Nat) : Prop := ∀ i, i < j → 0 < i → i < ys.length → ¬ (ix ys i = ix ys (i - 1) ∧ ix xs i ≤ ix ys i)
instance (xs ys : List Int) (j : Nat) : Decidable (groupsTo xs ys j) := inferInstanceAs (Decidable (∀ i, i < j → _))
def groupsB (xs ys : List Int) : Bool := decide (groupsTo xs ys ys.length)
theorem groupsTo_succ {xs ys : List Int} {j : Nat} (h : groupsTo xs ys j) (hn : 0 < j → ¬ (ix ys j = ix ys (j - 1) ∧ ix xs j ≤ ix ys j)) : groupsTo xs ys (j + 1) := fun i hi h0 hl => by
  by_cases e : i = j
  · subst e; exact hn h0
  · exact h i (by omega) h0 hl
theorem groupsB_not {xs ys : List Int} {j : Nat} (hj : 0 < j) (hl : j < ys.length) (h : ix ys j = ix ys (j - 1) ∧ ix xs j ≤ ix ys j) : groupsB xs ys = false :=
  decide_eq_false fun hh => hh j hl hj hl h
/-- the moves of the columns that go to the right, from the last column on; of those that go to the left, from the first one on -/
def upAt (xs ys : List Int) (i : Nat) : List MoveM := if ix xs i < ix ys i then stepsM (ix xs i) (ix ys i) else []
def downAt (xs ys : List Int) (i : Nat) : List MoveM := if ix ys i < ix xs i then stepsM (ix xs i) (ix ys i) else []
def upTo (xs ys : List Int) (m : Nat) : List MoveM := (List.range m).flatMap fun r => upAt xs ys (xs.length - 1 - r)
def downTo (xs ys : List Int) (m : Nat) : List MoveM := (List.range m).flatMap fun i => downAt xs ys i
def planM (xs ys : List Int) : List MoveM := upTo xs ys xs.length ++ downTo xs ys xs.length
theorem upTo_succ (xs ys : List Int) (m : Nat) : upTo xs ys (m + 1) = upTo xs ys m ++ upAt xs ys (xs.length - 1 - m) := by simp [upTo, List.range_succ]
theorem downTo_succ (xs ys : List Int) (m : Nat) : downTo xs ys (m + 1) = downTo xs ys m ++ downAt xs ys m := by simp [downTo, List.range_succ]
theorem upAt_len (xs ys : List Int) (i : Nat) : (upAt xs ys i).length ≤ 24 := by
  unfold upAt; split
  · exact stepsF_length _ _ _
  · simp
theorem downAt_len (xs ys : List Int) (i : Nat) : (downAt xs ys i).length ≤ 24 := by
  unfold downAt; split
  · exact stepsF_length _ _ _
  · simp
theorem upTo_len (xs ys : List Int) : ∀ m, (upTo xs ys m).length ≤ 24 * m
  | 0 => by simp [upTo]
  | m + 1 => by
    have h1 := upTo_len xs ys m
    have h2 := upAt_len xs ys (xs.length - 1 - m)
    rw [upTo_succ, List.length_append]
    omega
theorem downTo_len (xs ys : List Int) : ∀ m, (downTo xs ys m).length ≤ 24 * m
  | 0 => by simp [downTo]
  | m + 1 => by
    have h1 := downTo_len xs ys m
    have h2 := downAt_len xs ys m
    rw [downTo_succ, List.length_append]
    omega
set_option maxRecDepth 100000 in
set_option maxHeartbeats 4000000 in
theorem l21Groups_any (w : World) (S T : Nat → Prop) (v u : Value) (xs ys : List Int) (h : Ints w S v xs) (h2 : Ints w T u ys) (hl : xs.length = ys.length) (hs : ys.length ≤ 8) :
    Calls Try.prog 185 #[v, u] w fun e w' => e = .returned (.bool (groupsB xs ys)) ∧ Drawn w w' := by
  obtain ⟨A, c, rfl, hlc, hcm, -⟩ := h.shape
  obtain ⟨A2, c2, rfl, hlc2, hcm2, -⟩ := h2.shape
  have H := Lib.hid h
  have H2 := Lib.hid h2
  clear h h2
  have HLen := Lib.hid hl
  clear hl
  go_enter Try.func185, Try.ntmps185
  go_wp2
  go_loopw [5] (fun i wr => ∃ j : Nat, j ≤ ys.length ∧ i = .int .i64 (j + 1) ∧ Hid (groupsTo xs ys (j + 1)) ∧ Drawn w wr) (fun i _ => ys.length - (intOf i).toNat)
  case atStart => exact ⟨0, by omega, rfl, fun i hi h0 => by omega, Drawn.refl _⟩
  case round =>
    obtain ⟨j, hj, rfl, hp, hd⟩ := hrel
    by_cases hlt : j + 1 < ys.length
    · obtain ⟨b, o, rfl, -, hc⟩ := H.out.ix (i := j + 1) (by rw [HLen.out]; exact hlt)
      obtain ⟨b2, o2, rfl, -, hc2⟩ := H2.out.ix (i := j + 1) hlt
      have f1 := hd.cell (hc (j + 1) (by rw [HLen.out]; exact hlt))
      have f2 := hd.cell (hc2 (j + 1) hlt)
      have f3 := hd.cell (hc2 j (by omega))
      have hxl : ((j : Int) + 1) < xs.length := by rw [HLen.out]; omega
      clear hc hc2
      by_cases he : ix ys (j + 1) = ix ys j
      · have hd1 : (ix ys (j + 1) == ix ys j) = true := by simpa using he
        by_cases hle : ix xs (j + 1) ≤ ix ys (j + 1)
        · have hd2 : decide (ix xs (j + 1) ≤ ix ys (j + 1)) = true := decide_eq_true hle
          have HB := Lib.hid (groupsB_not (xs := xs) (j := j + 1) (by omega) hlt ⟨by simpa using he, hle⟩)
          clear he hle
          go_wp2
          go_quiet (fail)
          go_wp2
          go_ret
          exact ⟨ret_bool HB.out.symm, hd.drewN _⟩
        · have hd2 : decide (ix xs (j + 1) ≤ ix ys (j + 1)) = false := decide_eq_false hle
          have HB := Lib.hid (groupsTo_succ hp.out (fun _ hh => hle hh.2))
          clear he hle
          go_wp2
          go_quiet (fail)
          go_wp2
          go_roundw
          case rel => exact ⟨j + 1, by omega, by go_num, HB, hd.drewN _⟩
          case measure => first | (simp [intOf]; done) | (simp [intOf]; omega)
      · have hd1 : (ix ys (j + 1) == ix ys j) = false := by simpa using he
        have HB := Lib.hid (groupsTo_succ hp.out (fun _ hh => he (by simpa using hh.1)))
        clear he
        go_wp2
        go_quiet (fail)
        go_wp2
        go_roundw
        case rel => exact ⟨j + 1, by omega, by go_num, HB, hd.drewN _⟩
        case measure => first | (simp [intOf]; done) | (simp [intOf]; omega)
    · have HB := Lib.hid (show groupsB xs ys = true from decide_eq_true (fun i hi h0 hl => hp.out i (by omega) h0 hl))
      go_wp2
      go_ret
      exact ⟨ret_bool HB.out.symm, hd⟩
def PlanOk (xs ys : List Int) : Prop := xs.length = ys.length ∧ xs.length ≤ 8 ∧ (∀ i, i < xs.length → 0 ≤ ix xs i ∧ ix xs i ≤ 23) ∧ (∀ i, i < xs.length → 0 ≤ ix ys i ∧ ix ys i ≤ 23)
end Go.Proofs.Ytjgdcjhmfbefdaa
