/- Stacks of columns: valid on both sides. No condition. -/
import Derived.Test.YtnjfhpgmogopnaaRow2
set_option linter.unusedSimpArgs false
set_option linter.unusedVariables false
namespace Go.Proofs.Ytnjfhpgmogopnaa
open Go.ChangeShapes Go.WideShapes Go.ChangeAt Go.RowKit
def stk1B (k : Int) : Bool := inB k 1 4
def stkB (xs : List Int) : Bool := xs.all stk1B && decide (xs.length ≤ 8)
theorem stkB_len {xs : List Int} (h : stkB xs = true) : xs.length ≤ 8 := by
  unfold stkB at h; rw [Bool.and_eq_true] at h; exact of_decide_eq_true h.2
theorem stkB_bd {xs : List Int} (h : stkB xs = true) : ∀ x ∈ xs, 1 ≤ x ∧ x ≤ 4 := by
  unfold stkB at h; rw [Bool.and_eq_true] at h
  intro x hx
  have := List.all_eq_true.1 h.1 x hx
  unfold stk1B inB at this
  exact of_decide_eq_true this
theorem stkB_of {xs : List Int} (h : ∀ i (hi : i < xs.length), stk1B xs[i] = true) : stkB xs = decide ((xs.length : Int) ≤ 8) := by
  unfold stkB
  have : xs.all stk1B = true := List.all_eq_true.2 fun x hx => by
    obtain ⟨i, hi, rfl⟩ := List.getElem_of_mem hx
    exact h i hi
  rw [this, Bool.true_and]
  exact decide_eq_decide.2 (by omega)
theorem stkB_not {xs : List Int} {i : Nat} (hi : i < xs.length) (h : stk1B xs[i] = false) : stkB xs = false := by
  unfold stkB
  have : xs.all stk1B = false := by
    rw [Bool.eq_false_iff]
    intro hh
    rw [List.all_eq_true.1 hh _ (List.getElem_mem hi)] at h
    cases h
  rw [this, Bool.false_and]
set_option maxHeartbeats 1000000 in
theorem l14Stacks_any (w : World) (S : Nat → Prop) (v : Value) (xs : List Int) (h : Ints w S v xs) :
    Calls Try.prog 274 #[v] w fun e w' => e = .returned (.bool (stkB xs)) ∧ w = w' := by
  obtain ⟨A, c, rfl, hlc, hcm, -⟩ := h.shape
  have H := Lib.hid h
  clear h
  go_enter Try.func274, Try.ntmps274
  go_wp2
  go_loop [3] (fun i => ∃ j : Nat, j ≤ xs.length ∧ i = .int .i64 j ∧ Hid (∀ i (hi : i < xs.length), i < j → stk1B xs[i] = true)) (fun i => xs.length - (intOf i).toNat)
  case atStart => exact ⟨0, by omega, rfl, fun i hi h => by omega⟩
  case round =>
    obtain ⟨j, hj, rfl, hp⟩ := hrel
    by_cases hlt : j < xs.length
    · obtain ⟨b, o, rfl, -, hc⟩ := H.out.ix hlt
      have f1 := hc j hlt
      rw [ix_eq hlt] at f1
      clear hc
      cases hk : stk1B xs[j] with
      | false =>
        have HB := Lib.hid (stkB_not hlt hk)
        have HK := Lib.hid hk
        clear hk
        go_wp2_with fail
        refine (l00In_any _ _ _ _).mono ?_
        rintro e w' ⟨rfl, rfl⟩
        rw [show inB _ 1 4 = _ from HK.out]
        go_wp2
        go_ret
        exact ⟨ret_bool HB.out.symm, rfl⟩
      | true =>
        have HK := Lib.hid hk
        clear hk
        go_wp2_with fail
        refine (l00In_any _ _ _ _).mono ?_
        rintro e w' ⟨rfl, rfl⟩
        rw [show inB _ 1 4 = _ from HK.out]
        go_wp2
        go_round
        case rel => exact ⟨j + 1, by omega, by go_num, fun i hi h => by
          by_cases e : i = j
          · subst e; exact HK.out
          · exact hp.out i hi (by omega)⟩
        case measure => simp [intOf]; omega
    · have HB := Lib.hid (stkB_of (xs := xs) (fun i hi => hp.out i hi (by omega)))
      go_wp2
      go_ret
      exact ⟨ret_bool HB.out.symm, rfl⟩
def badStk (k : Int) : Bool := !stk1B k
theorem areStacks1_any (k : Int) (w : World) : Calls Try.prog 279 #[.int .i64 k] w fun e w' => e = .returned (.bool (badStk k)) ∧ w = w' := by
  unfold badStk stk1B
  go_enter Try.func279, Try.ntmps279
  go_wp2_with fail
  refine (within_any _ _ _ _).mono ?_
  rintro e w' ⟨rfl, rfl⟩
  go_wp2
  go_ret
  exact ⟨rfl, rfl⟩
set_option maxHeartbeats 1000000 in
theorem areStacksIdx_any (w : World) (S : Nat → Prop) (v : Value) (xs : List Int) (h : Ints w S v xs) :
    Calls Try.prog 240 #[v, .func (.func 279) #[] #[]] w fun e w' => e = .returned (.int .i64 (idxM badStk xs)) ∧ w = w' := by
  obtain ⟨A, c, rfl, hlc, hcm, -⟩ := h.shape
  have H := Lib.hid h
  clear h
  go_enter Try.func240, Try.ntmps240
  go_wp2
  go_loop [5, 8] (fun _ i => ∃ j : Nat, j ≤ xs.length ∧ i = .int .i64 j ∧ Hid (∀ i (hi : i < xs.length), i < j → badStk xs[i] = false)) (fun _ i => xs.length - (intOf i).toNat)
  case atStart => exact ⟨0, by omega, rfl, fun i hi h => by omega⟩
  case round =>
    obtain ⟨j, hj, rfl, hp⟩ := hrel
    by_cases hlt : j < xs.length
    · obtain ⟨b, o, rfl, -, hc⟩ := H.out.ix hlt
      have f1 := hc j hlt
      rw [ix_eq hlt] at f1
      clear hc
      cases hk : badStk xs[j] with
      | true =>
        have HB := Lib.hid (idxM_at hlt hk hp.out)
        have HK := Lib.hid hk
        clear hk
        go_wp2_with fail
        refine (areStacks1_any _ _).mono ?_
        rintro e w' ⟨rfl, rfl⟩
        rw [HK.out]
        go_wp2
        go_ret
        exact ⟨ret_int HB.out.symm, rfl⟩
      | false =>
        have HK := Lib.hid hk
        clear hk
        go_wp2_with fail
        refine (areStacks1_any _ _).mono ?_
        rintro e w' ⟨rfl, rfl⟩
        rw [HK.out]
        go_wp2
        go_round
        case rel => exact ⟨j + 1, by omega, by go_num, fun i hi h => by
          by_cases e : i = j
          · subst e; exact HK.out
          · exact hp.out i hi (by omega)⟩
        case measure => simp [intOf]; omega
    · have HB := Lib.hid (idxM_none (p := badStk) (xs := xs) (fun i hi => hp.out i hi (by omega)))
      go_wp2
      go_ret
      exact ⟨ret_int HB.out.symm, rfl⟩
theorem areStacksHas_any (w : World) (S : Nat → Prop) (v : Value) (xs : List Int) (h : Ints w S v xs) :
    Calls Try.prog 188 #[v, .func (.func 279) #[] #[]] w fun e w' => e = .returned (.bool (xs.any badStk)) ∧ w = w' := by
  obtain ⟨A, c, rfl, hlc, hcm, -⟩ := h.shape
  have H := Lib.hid h
  have HA := Lib.hid (idxM_any badStk xs)
  have hb := idxM_bd badStk xs
  clear h
  go_enter Try.func188, Try.ntmps188
  go_wp2_with fail
  refine (areStacksIdx_any _ S _ xs H.out).mono ?_
  rintro e w' ⟨rfl, rfl⟩
  go_wp2
  go_ret
  exact ⟨ret_bool (by rw [← HA.out]), rfl⟩
theorem stkB_any (xs : List Int) : stkB xs = (decide (xs.length ≤ 8) && !xs.any badStk) := by
  unfold stkB
  rw [Bool.and_comm]
  congr 1
  rw [Bool.eq_iff_iff, List.all_eq_true, Bool.not_eq_true', List.any_eq_false]
  simp [badStk]
theorem areStacks_any (w : World) (S : Nat → Prop) (v : Value) (xs : List Int) (h : Ints w S v xs) :
    Calls Try.prog 252 #[v] w fun e w' => e = .returned (.bool (stkB xs)) ∧ w = w' := by
  obtain ⟨A, c, rfl, hlc, hcm, -⟩ := h.shape
  have H := Lib.hid h
  clear h
  by_cases hl : xs.length ≤ 8
  · have HS := Lib.hid (show stkB xs = !xs.any badStk by rw [stkB_any, decide_eq_true hl, Bool.true_and])
    go_enter Try.func252, Try.ntmps252
    go_wp2_with fail
    refine (areStacksHas_any _ S _ xs H.out).mono ?_
    rintro e w' ⟨rfl, rfl⟩
    go_wp2
    go_ret
    exact ⟨ret_bool HS.out.symm, rfl⟩
  · have HS := Lib.hid (show stkB xs = false by rw [stkB_any, decide_eq_false hl, Bool.false_and])
    go_enter Try.func252, Try.ntmps252
    go_wp2
    go_ret
    exact ⟨ret_bool HS.out.symm, rfl⟩
end Go.Proofs.Ytnjfhpgmogopnaa
