/- Kinds of stitches and lists of them: the program's and the reference's tests and sums. No condition. -/
import Derived.Test.YtjgdcjhmfbefdaaRowM
import Derived.Test.YtjgdcjhmfbefdaaSmall
import Derived.Test.YtjgdcjhmfbefdaaInts
import Derived.Test.YtjgdcjhmfbefdaaPlan
namespace Go.Proofs.Ytjgdcjhmfbefdaa
open Go.ChangeShapes Go.WideShapes Go.ChangeAt Go.RowKit
theorem kindB_cases {k : Int} (h : kindB k = true) : k = 1 ∨ k = 2 ∨ k = 3 ∨ k = 4 ∨ k = 5 ∨ k = 6 ∨ k = 7 ∨ k = 8 ∨ k = 9 ∨ k = 10 ∨ k = 11 := by
  have := of_decide_eq_true h
  omega
theorem isStitch_any (k : Int) (w : World) :
    Calls Try.prog 260 #[.int .i64 k] w fun e w' => e = .returned (.bool (kindB k)) ∧ w = w' := by
  cases h : kindB k with
  | false => exact isStitch_no k w (by have := of_decide_eq_false h; omega)
  | true => exact isStitch_yes k w (of_decide_eq_true h)
theorem l14Kind_any (k : Int) (w : World) :
    Calls Try.prog 256 #[.int .i64 k] w fun e w' => e = .returned (.bool (kindB k)) ∧ w = w' := by
  cases h : kindB k with
  | false => exact l14Kind_no k w (by have := of_decide_eq_false h; omega)
  | true => exact l14Kind_yes k w (of_decide_eq_true h)
set_option maxHeartbeats 4000000 in
theorem ColumnsTaken_any (k : Int) (w : World) :
    Calls Try.prog 252 #[.int .i64 k] w fun e w' => e = .returned (.int .i64 (takenOf k)) ∧ w = w' := by
  cases h : kindB k with
  | false =>
    have hv : takenOf k = -1 := by unfold takenOf; rw [h]; rfl
    rw [hv]
    have H := Lib.hid h
    clear h hv
    go_enter Try.func252, Try.ntmps252
    go_wp2_with fail
    refine (isStitch_any _ _).mono ?_
    rintro e w' ⟨rfl, rfl⟩
    rw [H.out]
    go_wp2
    go_ret
    exact ⟨rfl, rfl⟩
  | true =>
    have hc := kindB_cases h
    have H := Lib.hid h
    clear h
    rcases hc with rfl | rfl | rfl | rfl | rfl | rfl | rfl | rfl | rfl | rfl | rfl
    all_goals
      go_enter Try.func252, Try.ntmps252
      go_wp2_with fail
      refine (isStitch_any _ _).mono ?_
      rintro e w' ⟨rfl, rfl⟩
      rw [H.out]
      go_wp2
      go_ret
      exact ⟨rfl, rfl⟩
set_option maxHeartbeats 4000000 in
theorem sColumnsTaken_any (k : Int) (w : World) :
    Calls Try.prog 246 #[.int .i64 k] w fun e w' => e = .returned (.int .i64 (takenOf k)) ∧ Up w w' := by
  cases h : kindB k with
  | false =>
    have hv : takenOf k = -1 := by unfold takenOf; rw [h]; rfl
    rw [hv]
    have H := Lib.hid h
    clear h hv
    go_enter Try.func246, Try.ntmps246
    go_wp2_with fail
    refine (l14Kind_any _ _).mono ?_
    rintro e w' ⟨rfl, rfl⟩
    rw [H.out]
    go_wp2
    go_ret
    exact ⟨rfl, Chg.refl _ _⟩
  | true =>
    have hc := kindB_cases h
    have H := Lib.hid h
    clear h
    rcases hc with rfl | rfl | rfl | rfl | rfl | rfl | rfl | rfl | rfl | rfl | rfl
    all_goals
      go_enter Try.func246, Try.ntmps246
      go_wp2_with fail
      refine (l14Kind_any _ _).mono ?_
      rintro e w' ⟨rfl, rfl⟩
      rw [H.out]
      go_wp2
      go_ret
      exact ⟨rfl, by repeat (first | exact Chg.refl _ _ | refine Chg.alloc ?_ _)⟩
set_option maxHeartbeats 4000000 in
theorem ColumnsMade_any (k : Int) (w : World) :
    Calls Try.prog 262 #[.int .i64 k] w fun e w' => e = .returned (.int .i64 (madeOf k)) ∧ w = w' := by
  cases h : kindB k with
  | false =>
    have hv : madeOf k = -1 := by unfold madeOf; rw [h]; rfl
    rw [hv]
    have H := Lib.hid h
    clear h hv
    go_enter Try.func262, Try.ntmps262
    go_wp2_with fail
    refine (isStitch_any _ _).mono ?_
    rintro e w' ⟨rfl, rfl⟩
    rw [H.out]
    go_wp2
    go_ret
    exact ⟨rfl, rfl⟩
  | true =>
    have hc := kindB_cases h
    have H := Lib.hid h
    clear h
    rcases hc with rfl | rfl | rfl | rfl | rfl | rfl | rfl | rfl | rfl | rfl | rfl
    all_goals
      go_enter Try.func262, Try.ntmps262
      go_wp2_with fail
      refine (isStitch_any _ _).mono ?_
      rintro e w' ⟨rfl, rfl⟩
      rw [H.out]
      go_wp2
      go_ret
      exact ⟨rfl, rfl⟩
set_option maxHeartbeats 4000000 in
theorem sColumnsMade_any (k : Int) (w : World) :
    Calls Try.prog 247 #[.int .i64 k] w fun e w' => e = .returned (.int .i64 (madeOf k)) ∧ Up w w' := by
  cases h : kindB k with
  | false =>
    have hv : madeOf k = -1 := by unfold madeOf; rw [h]; rfl
    rw [hv]
    have H := Lib.hid h
    clear h hv
    go_enter Try.func247, Try.ntmps247
    go_wp2_with fail
    refine (l14Kind_any _ _).mono ?_
    rintro e w' ⟨rfl, rfl⟩
    rw [H.out]
    go_wp2
    go_ret
    exact ⟨rfl, Chg.refl _ _⟩
  | true =>
    have hc := kindB_cases h
    have H := Lib.hid h
    clear h
    rcases hc with rfl | rfl | rfl | rfl | rfl | rfl | rfl | rfl | rfl | rfl | rfl
    all_goals
      go_enter Try.func247, Try.ntmps247
      go_wp2_with fail
      refine (l14Kind_any _ _).mono ?_
      rintro e w' ⟨rfl, rfl⟩
      rw [H.out]
      go_wp2
      go_ret
      exact ⟨rfl, by repeat (first | exact Chg.refl _ _ | refine Chg.alloc ?_ _)⟩
theorem stB_of {xs : List Int} (h : ∀ i (hi : i < xs.length), kindB xs[i] = true) : stB xs = decide ((xs.length : Int) ≤ 16) := by
  unfold stB
  have : xs.all kindB = true := List.all_eq_true.2 fun x hx => by
    obtain ⟨i, hi, rfl⟩ := List.getElem_of_mem hx
    exact h i hi
  rw [this, Bool.true_and]
  exact decide_eq_decide.2 (by omega)
theorem stB_not {xs : List Int} {i : Nat} (hi : i < xs.length) (h : kindB xs[i] = false) : stB xs = false := by
  unfold stB
  have : xs.all kindB = false := by
    rw [Bool.eq_false_iff]
    intro hh
    rw [List.all_eq_true.1 hh _ (List.getElem_mem hi)] at h
    cases h
  rw [this, Bool.false_and]
set_option maxHeartbeats 1000000 in
theorem l14Ok_any (w : World) (S : Nat → Prop) (v : Value) (xs : List Int) (h : Ints w S v xs) :
    Calls Try.prog 241 #[v] w fun e w' => e = .returned (.bool (stB xs)) ∧ w = w' := by
  obtain ⟨A, c, rfl, hlc, hcm, -⟩ := h.shape
  have H := Lib.hid h
  clear h
  go_enter Try.func241, Try.ntmps241
  go_wp2
  go_loop [3] (fun i => ∃ j : Nat, j ≤ xs.length ∧ i = .int .i64 j ∧ Hid (∀ i (hi : i < xs.length), i < j → kindB xs[i] = true)) (fun i => xs.length - (intOf i).toNat)
  case atStart => exact ⟨0, by omega, rfl, fun i hi h => by omega⟩
  case round =>
    obtain ⟨j, hj, rfl, hp⟩ := hrel
    by_cases hlt : j < xs.length
    · obtain ⟨b, o, rfl, -, hc⟩ := H.out.ix hlt
      have f1 := hc j hlt
      rw [ix_eq hlt] at f1
      clear hc
      cases hk : kindB xs[j] with
      | false =>
        have HB := Lib.hid (stB_not hlt hk)
        have HK := Lib.hid hk
        clear hk
        go_wp2_with fail
        refine (l14Kind_any _ _).mono ?_
        rintro e w' ⟨rfl, rfl⟩
        rw [HK.out]
        go_wp2
        go_ret
        exact ⟨ret_bool HB.out.symm, rfl⟩
      | true =>
        have HK := Lib.hid hk
        clear hk
        go_wp2_with fail
        refine (l14Kind_any _ _).mono ?_
        rintro e w' ⟨rfl, rfl⟩
        rw [HK.out]
        go_wp2
        go_round
        case rel => exact ⟨j + 1, by omega, by go_num, fun i hi h => by
          by_cases e : i = j
          · subst e; exact HK.out
          · exact hp.out i hi (by omega)⟩
        case measure => simp [intOf]; omega
    · have HB := Lib.hid (stB_of (xs := xs) (fun i hi => hp.out i hi (by omega)))
      go_wp2
      go_ret
      exact ⟨ret_bool HB.out.symm, rfl⟩
def badKind (k : Int) : Bool := !kindB k
theorem areStitches1_any (k : Int) (w : World) : Calls Try.prog 259 #[.int .i64 k] w fun e w' => e = .returned (.bool (badKind k)) ∧ w = w' := by
  unfold badKind
  go_enter Try.func259, Try.ntmps259
  go_wp2_with fail
  refine (isStitch_any _ _).mono ?_
  rintro e w' ⟨rfl, rfl⟩
  go_wp2
  go_ret
  exact ⟨rfl, rfl⟩
end Go.Proofs.Ytjgdcjhmfbefdaa
