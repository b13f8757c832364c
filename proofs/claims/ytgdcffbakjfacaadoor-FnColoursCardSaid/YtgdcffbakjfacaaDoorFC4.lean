/- How columns are moved: the reference's and the program's plans. No condition. Kinds of stitches and lists of them: the program's and the reference's tests and sums. No condition. Functions of the library on slices of numbers with a test; the program's test of a list of stitches; sums over lists. No condition. Stacks of columns: valid on both sides. No condition. -/
import Derived.Test.YtgdcffbakjfacaaDoorSteps
import Derived.Deep.RegionHeld3
import Derived.Test.YtgdcffbakjfacaaDoorFC1
import Derived.Test.YtgdcffbakjfacaaDoorFC3
import Derived.Test.YtgdcffbakjfacaaDoorFC2
namespace Go.Proofs.YtgdcffbakjfacaaDoor
open Go.ChangeShapes Go.WideShapes Go.ChangeAt Go.RowKit
def ix (xs : List Int) (i : Nat) : Int := xs.getD i 0
theorem ix_eq {xs : List Int} {i : Nat} (h : i < xs.length) : ix xs i = xs[i] := by unfold ix; simp [h]
theorem Ints.ix {w : World} {S : Nat → Prop} {A : Option Addr} {c : Nat} {xs : List Int} (h : Ints w S (.slice A xs.length c) xs) {i : Nat} (hi : i < xs.length) :
    ∃ b o, A = some ⟨b, o, none⟩ ∧ b < w.heap.size ∧ ∀ j, j < xs.length → w.cell? ⟨b, o + j, none⟩ = some (.int .i64 (ix xs j)) := by
  obtain ⟨A', c', he, _, _, _, hr, _⟩ := h
  obtain ⟨rfl, rfl⟩ : A = A' ∧ c = c' := by simpa using he
  obtain ⟨b, o, hA, _, hbl, hc⟩ := hr (by omega)
  exact ⟨b, o, hA, hbl, fun j hj => by rw [ix_eq hj]; exact (hc j hj).1⟩
theorem places_in {tw : Bool} {xs : List Int} (h : placesB tw xs = true) {i : Nat} (hi : i < xs.length) : 0 ≤ ix xs i ∧ ix xs i ≤ 23 := by
  obtain ⟨h1, _⟩ := of_decide_eq_true h
  rw [ix_eq hi]
  exact ⟨(h1 i hi hi).1, (h1 i hi hi).2.1⟩
theorem places_short {tw : Bool} {xs : List Int} (h : placesB tw xs = true) : xs.length ≤ 8 := (of_decide_eq_true h).2
/-- no two columns are put together of which the second does not come from the right -/
def groupsTo (xs ys : List Int) (j : Nat) : Prop := ∀ i, i < j → 0 < i → i < ys.length → ¬ (ix ys i = ix ys (i - 1) ∧ ix xs i ≤ ix ys i)
instance (xs ys : List Int) (j : Nat) : Decidable (groupsTo xs ys j) := inferInstanceAs (Decidable (∀ i, i < j → _))
def groupsB (xs ys : List Int) : Bool := decide (groupsTo xs ys ys.length)
theorem groupsTo_succ {xs ys : List Int} {j : Nat} (h : groupsTo xs ys j) (hn : 0 < j → ¬ (ix ys j = ix ys (j - 1) ∧ ix xs j ≤ ix ys j)) : groupsTo xs ys (j + 1) := fun i hi h0 hl => by
  by_cases e : i = j
  · subst e; exact hn h0
  · exact h i (by omega) h0 hl
theorem groupsB_not {xs ys : List Int} {j : Nat} (hj : 0 < j) (hl : j < ys.length) (h : ix ys j = ix ys (j - 1) ∧ ix xs j ≤ ix ys j) : groupsB xs ys = false :=
  decide_eq_false fun hh => hh j hl hj hl h
/-- the moves of the columns that go to the right, from the last column on; of those that go to the left, from the first one on -/
def upAt (xs ys : List Int) (i : Nat) : List MoveM := if ix xs i < ix ys i then stepsM (ix xs i) (ix ys i) else []
def downAt (xs ys : List Int) (i : Nat) : List MoveM := if ix ys i < ix xs i then stepsM (ix xs i) (ix ys i) else []
def upTo (xs ys : List Int) (m : Nat) : List MoveM := (List.range m).flatMap fun r => upAt xs ys (xs.length - 1 - r)
def downTo (xs ys : List Int) (m : Nat) : List MoveM := (List.range m).flatMap fun i => downAt xs ys i
def planM (xs ys : List Int) : List MoveM := upTo xs ys xs.length ++ downTo xs ys xs.length
theorem upTo_succ (xs ys : List Int) (m : Nat) : upTo xs ys (m + 1) = upTo xs ys m ++ upAt xs ys (xs.length - 1 - m) := by simp [upTo, List.range_succ]
theorem downTo_succ (xs ys : List Int) (m : Nat) : downTo xs ys (m + 1) = downTo xs ys m ++ downAt xs ys m := by simp [downTo, List.range_succ]
theorem upAt_len (xs ys : List Int) (i : Nat) : (upAt xs ys i).length ≤ 24 := by
  unfold upAt; split
  · exact stepsF_length _ _ _
  · simp
theorem downAt_len (xs ys : List Int) (i : Nat) : (downAt xs ys i).length ≤ 24 := by
  unfold downAt; split
  · exact stepsF_length _ _ _
  · simp
theorem upTo_len (xs ys : List Int) : ∀ m, (upTo xs ys m).length ≤ 24 * m
  | 0 => by simp [upTo]
  | m + 1 => by
    have h1 := upTo_len xs ys m
    have h2 := upAt_len xs ys (xs.length - 1 - m)
    rw [upTo_succ, List.length_append]
    omega
theorem downTo_len (xs ys : List Int) : ∀ m, (downTo xs ys m).length ≤ 24 * m
  | 0 => by simp [downTo]
  | m + 1 => by
    have h1 := downTo_len xs ys m
    have h2 := downAt_len xs ys m
    rw [downTo_succ, List.length_append]
    omega
def PlanOk (xs ys : List Int) : Prop := xs.length = ys.length ∧ xs.length ≤ 8 ∧ (∀ i, i < xs.length → 0 ≤ ix xs i ∧ ix xs i ≤ 23) ∧ (∀ i, i < xs.length → 0 ≤ ix ys i ∧ ix ys i ≤ 23)
end Go.Proofs.YtgdcffbakjfacaaDoor
namespace Go.Proofs.YtgdcffbakjfacaaDoor
open Go.ChangeShapes Go.WideShapes Go.ChangeAt Go.RowKit
theorem kindB_cases {k : Int} (h : kindB k = true) : k = 1 ∨ k = 2 ∨ k = 3 ∨ k = 4 ∨ k = 5 ∨ k = 6 ∨ k = 7 ∨ k = 8 ∨ k = 9 ∨ k = 10 ∨ k = 11 := by
  have := of_decide_eq_true h
  omega
theorem isStitch_any (k : Int) (w : World) :
    Calls Tryd.prog 83 #[.int .i64 k] w fun e w' => e = .returned (.bool (kindB k)) ∧ w = w' := by
  cases h : kindB k with
  | false => exact isStitch_no k w (by have := of_decide_eq_false h; omega)
  | true => exact isStitch_yes k w (of_decide_eq_true h)
set_option maxHeartbeats 4000000 in
theorem ColumnsTaken_any (k : Int) (w : World) :
    Calls Tryd.prog 72 #[.int .i64 k] w fun e w' => e = .returned (.int .i64 (takenOf k)) ∧ w = w' := by
  cases h : kindB k with
  | false =>
    have hv : takenOf k = -1 := by unfold takenOf; rw [h]; rfl
    rw [hv]
    have H := Lib.hid h
    clear h hv
    go_enter Tryd.func72, Tryd.ntmps72
    go_wp2_with fail
    refine (isStitch_any _ _).mono ?_
    rintro e w' ⟨rfl, rfl⟩
    rw [H.out]
    go_wp2
    go_ret
    exact ⟨rfl, rfl⟩
  | true =>
    have hc := kindB_cases h
    have H := Lib.hid h
    clear h
    rcases hc with rfl | rfl | rfl | rfl | rfl | rfl | rfl | rfl | rfl | rfl | rfl
    all_goals
      go_enter Tryd.func72, Tryd.ntmps72
      go_wp2_with fail
      refine (isStitch_any _ _).mono ?_
      rintro e w' ⟨rfl, rfl⟩
      rw [H.out]
      go_wp2
      go_ret
      exact ⟨rfl, rfl⟩
set_option maxHeartbeats 4000000 in
theorem ColumnsMade_any (k : Int) (w : World) :
    Calls Tryd.prog 85 #[.int .i64 k] w fun e w' => e = .returned (.int .i64 (madeOf k)) ∧ w = w' := by
  cases h : kindB k with
  | false =>
    have hv : madeOf k = -1 := by unfold madeOf; rw [h]; rfl
    rw [hv]
    have H := Lib.hid h
    clear h hv
    go_enter Tryd.func85, Tryd.ntmps85
    go_wp2_with fail
    refine (isStitch_any _ _).mono ?_
    rintro e w' ⟨rfl, rfl⟩
    rw [H.out]
    go_wp2
    go_ret
    exact ⟨rfl, rfl⟩
  | true =>
    have hc := kindB_cases h
    have H := Lib.hid h
    clear h
    rcases hc with rfl | rfl | rfl | rfl | rfl | rfl | rfl | rfl | rfl | rfl | rfl
    all_goals
      go_enter Tryd.func85, Tryd.ntmps85
      go_wp2_with fail
      refine (isStitch_any _ _).mono ?_
      rintro e w' ⟨rfl, rfl⟩
      rw [H.out]
      go_wp2
      go_ret
      exact ⟨rfl, rfl⟩
theorem stB_of {xs : List Int} (h : ∀ i (hi : i < xs.length), kindB xs[i] = true) : stB xs = decide ((xs.length : Int) ≤ 16) := by
  unfold stB
  have : xs.all kindB = true := List.all_eq_true.2 fun x hx => by
    obtain ⟨i, hi, rfl⟩ := List.getElem_of_mem hx
    exact h i hi
  rw [this, Bool.true_and]
  exact decide_eq_decide.2 (by omega)
theorem stB_not {xs : List Int} {i : Nat} (hi : i < xs.length) (h : kindB xs[i] = false) : stB xs = false := by
  unfold stB
  have : xs.all kindB = false := by
    rw [Bool.eq_false_iff]
    intro hh
    rw [List.all_eq_true.1 hh _ (List.getElem_mem hi)] at h
    cases h
  rw [this, Bool.false_and]
def badKind (k : Int) : Bool := !kindB k
theorem areStitches1_any (k : Int) (w : World) : Calls Tryd.prog 82 #[.int .i64 k] w fun e w' => e = .returned (.bool (badKind k)) ∧ w = w' := by
  unfold badKind
  go_enter Tryd.func82, Tryd.ntmps82
  go_wp2_with fail
  refine (isStitch_any _ _).mono ?_
  rintro e w' ⟨rfl, rfl⟩
  go_wp2
  go_ret
  exact ⟨rfl, rfl⟩
end Go.Proofs.YtgdcffbakjfacaaDoor
namespace Go.Proofs.YtgdcffbakjfacaaDoor
open Go.ChangeShapes Go.WideShapes Go.ChangeAt Go.RowKit
/-- the place of the first number that answers, or -1 -/
def idxM (p : Int → Bool) (xs : List Int) : Int := match xs.findIdx? p with | some i => (i : Int) | none => -1
theorem idxM_none {p : Int → Bool} {xs : List Int} (h : ∀ i (hi : i < xs.length), p xs[i] = false) : idxM p xs = -1 := by
  unfold idxM
  have : xs.findIdx? p = none := List.findIdx?_eq_none_iff.2 fun x hx => by
    obtain ⟨i, hi, rfl⟩ := List.getElem_of_mem hx
    exact h i hi
  rw [this]
theorem idxM_at {p : Int → Bool} {xs : List Int} {j : Nat} (hj : j < xs.length) (h : p xs[j] = true) (hb : ∀ i (hi : i < xs.length), i < j → p xs[i] = false) : idxM p xs = j := by
  unfold idxM
  have : xs.findIdx? p = some j := List.findIdx?_eq_some_iff_getElem.2 ⟨hj, h, fun i hi => by rw [hb i (by omega) hi]; simp⟩
  rw [this]
theorem idxM_any (p : Int → Bool) (xs : List Int) : decide (idxM p xs ≥ 0) = xs.any p := by
  unfold idxM
  cases hf : xs.findIdx? p with
  | none =>
    have h1 := List.findIdx?_eq_none_iff.1 hf
    have : xs.any p = false := by
      rw [List.any_eq_false]
      intro x hx; rw [h1 x hx]; simp
    rw [this]; rfl
  | some j =>
    obtain ⟨h1, h2, _⟩ := List.findIdx?_eq_some_iff_getElem.1 hf
    have : xs.any p = true := List.any_eq_true.2 ⟨_, List.getElem_mem h1, h2⟩
    rw [this]
    simp
theorem idxM_bd (p : Int → Bool) (xs : List Int) : -1 ≤ idxM p xs ∧ idxM p xs ≤ xs.length := by
  unfold idxM
  cases hf : xs.findIdx? p with
  | none => simp only []; omega
  | some j =>
    obtain ⟨h1, _⟩ := List.findIdx?_eq_some_iff_getElem.1 hf
    simp only []; omega
set_option maxHeartbeats 1000000 in
theorem areStitchesIdx_any (w : World) (S : Nat → Prop) (v : Value) (xs : List Int) (h : Ints w S v xs) :
    Calls Tryd.prog 41 #[v, .func (.func 82) #[] #[]] w fun e w' => e = .returned (.int .i64 (idxM badKind xs)) ∧ w = w' := by
  obtain ⟨A, c, rfl, hlc, hcm, -⟩ := h.shape
  have H := Lib.hid h
  clear h
  go_enter Tryd.func41, Tryd.ntmps41
  go_wp2
  go_loop [5, 8] (fun _ i => ∃ j : Nat, j ≤ xs.length ∧ i = .int .i64 j ∧ Hid (∀ i (hi : i < xs.length), i < j → badKind xs[i] = false)) (fun _ i => xs.length - (intOf i).toNat)
  case atStart => exact ⟨0, by omega, rfl, fun i hi h => by omega⟩
  case round =>
    obtain ⟨j, hj, rfl, hp⟩ := hrel
    by_cases hlt : j < xs.length
    · obtain ⟨b, o, rfl, -, hc⟩ := H.out.ix hlt
      have f1 := hc j hlt
      rw [ix_eq hlt] at f1
      clear hc
      cases hk : badKind xs[j] with
      | true =>
        have HB := Lib.hid (idxM_at hlt hk hp.out)
        have HK := Lib.hid hk
        clear hk
        go_wp2_with fail
        refine (areStitches1_any _ _).mono ?_
        rintro e w' ⟨rfl, rfl⟩
        rw [HK.out]
        go_wp2
        go_ret
        exact ⟨ret_int HB.out.symm, rfl⟩
      | false =>
        have HK := Lib.hid hk
        clear hk
        go_wp2_with fail
        refine (areStitches1_any _ _).mono ?_
        rintro e w' ⟨rfl, rfl⟩
        rw [HK.out]
        go_wp2
        go_round
        case rel => exact ⟨j + 1, by omega, by go_num, fun i hi h => by
          by_cases e : i = j
          · subst e; exact HK.out
          · exact hp.out i hi (by omega)⟩
        case measure => simp [intOf]; omega
    · have HB := Lib.hid (idxM_none (p := badKind) (xs := xs) (fun i hi => hp.out i hi (by omega)))
      go_wp2
      go_ret
      exact ⟨ret_int HB.out.symm, rfl⟩
theorem areStitchesHas_any (w : World) (S : Nat → Prop) (v : Value) (xs : List Int) (h : Ints w S v xs) :
    Calls Tryd.prog 26 #[v, .func (.func 82) #[] #[]] w fun e w' => e = .returned (.bool (xs.any badKind)) ∧ w = w' := by
  obtain ⟨A, c, rfl, hlc, hcm, -⟩ := h.shape
  have H := Lib.hid h
  have HA := Lib.hid (idxM_any badKind xs)
  have hb := idxM_bd badKind xs
  clear h
  go_enter Tryd.func26, Tryd.ntmps26
  go_wp2_with fail
  refine (areStitchesIdx_any _ S _ xs H.out).mono ?_
  rintro e w' ⟨rfl, rfl⟩
  go_wp2
  go_ret
  exact ⟨ret_bool (by rw [← HA.out]), rfl⟩
theorem stB_any (xs : List Int) : stB xs = (decide (xs.length ≤ 16) && !xs.any badKind) := by
  unfold stB
  rw [Bool.and_comm]
  congr 1
  rw [Bool.eq_iff_iff, List.all_eq_true, Bool.not_eq_true', List.any_eq_false]
  simp [badKind]
theorem areStitches_any (w : World) (S : Nat → Prop) (v : Value) (xs : List Int) (h : Ints w S v xs) :
    Calls Tryd.prog 69 #[v] w fun e w' => e = .returned (.bool (stB xs)) ∧ w = w' := by
  obtain ⟨A, c, rfl, hlc, hcm, -⟩ := h.shape
  have H := Lib.hid h
  clear h
  by_cases hl : xs.length ≤ 16
  · have HS := Lib.hid (show stB xs = !xs.any badKind by rw [stB_any, decide_eq_true hl, Bool.true_and])
    go_enter Tryd.func69, Tryd.ntmps69
    go_wp2_with fail
    refine (areStitchesHas_any _ S _ xs H.out).mono ?_
    rintro e w' ⟨rfl, rfl⟩
    go_wp2
    go_ret
    exact ⟨ret_bool HS.out.symm, rfl⟩
  · have HS := Lib.hid (show stB xs = false by rw [stB_any, decide_eq_false hl, Bool.false_and])
    go_enter Tryd.func69, Tryd.ntmps69
    go_wp2
    go_ret
    exact ⟨ret_bool HS.out.symm, rfl⟩
set_option maxHeartbeats 1000000 in
theorem takenBy_yes (w : World) (S : Nat → Prop) (v : Value) (xs : List Int) (h : Ints w S v xs) (hs : stB xs = true) :
    Calls Tryd.prog 71 #[v] w fun e w' => e = .returned (.int .i64 (sumF takenK xs)) ∧ w = w' := by
  obtain ⟨A, c, rfl, hlc, hcm, -⟩ := h.shape
  have H := Lib.hid h
  have HS := Lib.hid hs
  have hl := stB_len hs
  have HK := Lib.hid (stB_kind hs)
  clear h hs
  go_enter Tryd.func71, Tryd.ntmps71
  go_wp2
  go_loop [3, 5, 8] (fun n _ i => ∃ j : Nat, j ≤ xs.length ∧ i = .int .i64 j ∧ n = .int .i64 (sumF takenK (xs.take j))) (fun _ _ i => xs.length - (intOf i).toNat)
  case atStart => exact ⟨0, by omega, rfl, rfl⟩
  case round =>
    obtain ⟨j, hj, rfl, rfl⟩ := hrel
    by_cases hlt : j < xs.length
    · obtain ⟨b, o, rfl, -, hc⟩ := H.out.ix hlt
      have f1 := hc j hlt
      rw [ix_eq hlt] at f1
      have HT := Lib.hid (sumF_take takenK hlt)
      have HV := Lib.hid (takenOf_ok (HK.out _ (List.getElem_mem hlt)))
      have hb1 := takenK_bd xs[j]
      have hb2 := sumF_bd takenK 0 4 (by omega) (fun x => by have := takenK_bd x; omega) (xs.take j)
      rw [List.length_take, Nat.min_eq_left hj] at hb2
      clear hc
      go_wp2_with fail
      refine (ColumnsTaken_any _ _).mono ?_
      rintro e w1 ⟨rfl, rfl⟩
      rw [HV.out]
      go_wp2
      go_round
      case rel => exact ⟨j + 1, by omega, by go_num, by rw [HT.out]⟩
      case measure => simp [intOf]; omega
    · obtain rfl : j = xs.length := by omega
      have HT := Lib.hid (show sumF takenK (xs.take xs.length) = sumF takenK xs by rw [List.take_length])
      go_wp2
      go_ret
      exact ⟨ret_int (by first | rfl | exact HT.out), rfl⟩
end Go.Proofs.YtgdcffbakjfacaaDoor
section
set_option linter.unusedSimpArgs false
set_option linter.unusedVariables false
namespace Go.Proofs.YtgdcffbakjfacaaDoor
open Go.ChangeShapes Go.WideShapes Go.ChangeAt Go.RowKit
def stk1B (k : Int) : Bool := inB k 1 4
def stkB (xs : List Int) : Bool := xs.all stk1B && decide (xs.length ≤ 8)
theorem stkB_len {xs : List Int} (h : stkB xs = true) : xs.length ≤ 8 := by
  unfold stkB at h; rw [Bool.and_eq_true] at h; exact of_decide_eq_true h.2
theorem stkB_bd {xs : List Int} (h : stkB xs = true) : ∀ x ∈ xs, 1 ≤ x ∧ x ≤ 4 := by
  unfold stkB at h; rw [Bool.and_eq_true] at h
  intro x hx
  have := List.all_eq_true.1 h.1 x hx
  unfold stk1B inB at this
  exact of_decide_eq_true this
theorem stkB_of {xs : List Int} (h : ∀ i (hi : i < xs.length), stk1B xs[i] = true) : stkB xs = decide ((xs.length : Int) ≤ 8) := by
  unfold stkB
  have : xs.all stk1B = true := List.all_eq_true.2 fun x hx => by
    obtain ⟨i, hi, rfl⟩ := List.getElem_of_mem hx
    exact h i hi
  rw [this, Bool.true_and]
  exact decide_eq_decide.2 (by omega)
theorem stkB_not {xs : List Int} {i : Nat} (hi : i < xs.length) (h : stk1B xs[i] = false) : stkB xs = false := by
  unfold stkB
  have : xs.all stk1B = false := by
    rw [Bool.eq_false_iff]
    intro hh
    rw [List.all_eq_true.1 hh _ (List.getElem_mem hi)] at h
    cases h
  rw [this, Bool.false_and]
def badStk (k : Int) : Bool := !stk1B k
theorem areStacks1_any (k : Int) (w : World) : Calls Tryd.prog 84 #[.int .i64 k] w fun e w' => e = .returned (.bool (badStk k)) ∧ w = w' := by
  unfold badStk stk1B
  go_enter Tryd.func84, Tryd.ntmps84
  go_wp2_with fail
  refine (within_any _ _ _ _).mono ?_
  rintro e w' ⟨rfl, rfl⟩
  go_wp2
  go_ret
  exact ⟨rfl, rfl⟩
set_option maxHeartbeats 1000000 in
theorem areStacksIdx_any (w : World) (S : Nat → Prop) (v : Value) (xs : List Int) (h : Ints w S v xs) :
    Calls Tryd.prog 41 #[v, .func (.func 84) #[] #[]] w fun e w' => e = .returned (.int .i64 (idxM badStk xs)) ∧ w = w' := by
  obtain ⟨A, c, rfl, hlc, hcm, -⟩ := h.shape
  have H := Lib.hid h
  clear h
  go_enter Tryd.func41, Tryd.ntmps41
  go_wp2
  go_loop [5, 8] (fun _ i => ∃ j : Nat, j ≤ xs.length ∧ i = .int .i64 j ∧ Hid (∀ i (hi : i < xs.length), i < j → badStk xs[i] = false)) (fun _ i => xs.length - (intOf i).toNat)
  case atStart => exact ⟨0, by omega, rfl, fun i hi h => by omega⟩
  case round =>
    obtain ⟨j, hj, rfl, hp⟩ := hrel
    by_cases hlt : j < xs.length
    · obtain ⟨b, o, rfl, -, hc⟩ := H.out.ix hlt
      have f1 := hc j hlt
      rw [ix_eq hlt] at f1
      clear hc
      cases hk : badStk xs[j] with
      | true =>
        have HB := Lib.hid (idxM_at hlt hk hp.out)
        have HK := Lib.hid hk
        clear hk
        go_wp2_with fail
        refine (areStacks1_any _ _).mono ?_
        rintro e w' ⟨rfl, rfl⟩
        rw [HK.out]
        go_wp2
        go_ret
        exact ⟨ret_int HB.out.symm, rfl⟩
      | false =>
        have HK := Lib.hid hk
        clear hk
        go_wp2_with fail
        refine (areStacks1_any _ _).mono ?_
        rintro e w' ⟨rfl, rfl⟩
        rw [HK.out]
        go_wp2
        go_round
        case rel => exact ⟨j + 1, by omega, by go_num, fun i hi h => by
          by_cases e : i = j
          · subst e; exact HK.out
          · exact hp.out i hi (by omega)⟩
        case measure => simp [intOf]; omega
    · have HB := Lib.hid (idxM_none (p := badStk) (xs := xs) (fun i hi => hp.out i hi (by omega)))
      go_wp2
      go_ret
      exact ⟨ret_int HB.out.symm, rfl⟩
theorem areStacksHas_any (w : World) (S : Nat → Prop) (v : Value) (xs : List Int) (h : Ints w S v xs) :
    Calls Tryd.prog 26 #[v, .func (.func 84) #[] #[]] w fun e w' => e = .returned (.bool (xs.any badStk)) ∧ w = w' := by
  obtain ⟨A, c, rfl, hlc, hcm, -⟩ := h.shape
  have H := Lib.hid h
  have HA := Lib.hid (idxM_any badStk xs)
  have hb := idxM_bd badStk xs
  clear h
  go_enter Tryd.func26, Tryd.ntmps26
  go_wp2_with fail
  refine (areStacksIdx_any _ S _ xs H.out).mono ?_
  rintro e w' ⟨rfl, rfl⟩
  go_wp2
  go_ret
  exact ⟨ret_bool (by rw [← HA.out]), rfl⟩
theorem stkB_any (xs : List Int) : stkB xs = (decide (xs.length ≤ 8) && !xs.any badStk) := by
  unfold stkB
  rw [Bool.and_comm]
  congr 1
  rw [Bool.eq_iff_iff, List.all_eq_true, Bool.not_eq_true', List.any_eq_false]
  simp [badStk]
theorem areStacks_any (w : World) (S : Nat → Prop) (v : Value) (xs : List Int) (h : Ints w S v xs) :
    Calls Tryd.prog 70 #[v] w fun e w' => e = .returned (.bool (stkB xs)) ∧ w = w' := by
  obtain ⟨A, c, rfl, hlc, hcm, -⟩ := h.shape
  have H := Lib.hid h
  clear h
  by_cases hl : xs.length ≤ 8
  · have HS := Lib.hid (show stkB xs = !xs.any badStk by rw [stkB_any, decide_eq_true hl, Bool.true_and])
    go_enter Tryd.func70, Tryd.ntmps70
    go_wp2_with fail
    refine (areStacksHas_any _ S _ xs H.out).mono ?_
    rintro e w' ⟨rfl, rfl⟩
    go_wp2
    go_ret
    exact ⟨ret_bool HS.out.symm, rfl⟩
  · have HS := Lib.hid (show stkB xs = false by rw [stkB_any, decide_eq_false hl, Bool.false_and])
    go_enter Tryd.func70, Tryd.ntmps70
    go_wp2
    go_ret
    exact ⟨ret_bool HS.out.symm, rfl⟩
end Go.Proofs.YtgdcffbakjfacaaDoor
end
