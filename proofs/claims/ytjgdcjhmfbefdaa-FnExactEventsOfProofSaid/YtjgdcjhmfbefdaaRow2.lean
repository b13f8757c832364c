/- Functions of the library on slices of numbers with a test; the program's test of a list of stitches; sums over lists. No condition. -/
import Derived.Test.YtjgdcjhmfbefdaaRow1
namespace Go.Proofs.Ytjgdcjhmfbefdaa
open Go.ChangeShapes Go.WideShapes Go.ChangeAt Go.RowKit
/-- the place of the first number that answers, or -1 -/
def idxM (p : Int → Bool) (xs : List Int) : Int := match xs.findIdx? p with | some i => (i : Int) | none => -1
theorem idxM_none {p : Int → Bool} {xs : List Int} (h : ∀ i (hi : i < xs.length), p xs[i] = false) : idxM p xs = -1 := by
  unfold idxM
  have : xs.findIdx? p = none := List.findIdx?_eq_none_iff.2 fun x hx => by
    obtain ⟨i, hi, rfl⟩ := List.getElem_of_mem hx
    exact h i hi
  rw [this]
theorem idxM_at {p : Int → Bool} {xs : List Int} {j : Nat} (hj : j < xs.length) (h : p xs[j] = true) (hb : ∀ i (hi : i < xs.length), i < j → p xs[i] = false) : idxM p xs = j := by
  unfold idxM
  have : xs.findIdx? p = some j := List.findIdx?_eq_some_iff_getElem.2 ⟨hj, h, fun i hi => by rw [hb i (by omega) hi]; simp⟩
  rw [this]
theorem idxM_any (p : Int → Bool) (xs : List Int) : decide (idxM p xs ≥ 0) = xs.any p := by
  unfold idxM
  cases hf : xs.findIdx? p with
  | none =>
    have h1 := List.findIdx?_eq_none_iff.1 hf
    have : xs.any p = false := by
      rw [List.any_eq_false]
      intro x hx; rw [h1 x hx]; simp
    rw [this]; rfl
  | some j =>
    obtain ⟨h1, h2, _⟩ := List.findIdx?_eq_some_iff_getElem.1 hf
    have : xs.any p = true := List.any_eq_true.2 ⟨_, List.getElem_mem h1, h2⟩
    rw [this]
    simp
theorem idxM_bd (p : Int → Bool) (xs : List Int) : -1 ≤ idxM p xs ∧ idxM p xs ≤ xs.length := by
  unfold idxM
  cases hf : xs.findIdx? p with
  | none => simp only []; omega
  | some j =>
    obtain ⟨h1, _⟩ := List.findIdx?_eq_some_iff_getElem.1 hf
    simp only []; omega
set_option maxHeartbeats 1000000 in
theorem areStitchesIdx_any (w : World) (S : Nat → Prop) (v : Value) (xs : List Int) (h : Ints w S v xs) :
    Calls Try.prog 224 #[v, .func (.func 259) #[] #[]] w fun e w' => e = .returned (.int .i64 (idxM badKind xs)) ∧ w = w' := by
  obtain ⟨A, c, rfl, hlc, hcm, -⟩ := h.shape
  have H := Lib.hid h
  clear h
  go_enter Try.func224, Try.ntmps224
  go_wp2
  go_loop [5, 8] (fun _ i => ∃ j : Nat, j ≤ xs.length ∧ i = .int .i64 j ∧ Hid (∀ i (hi : i < xs.length), i < j → badKind xs[i] = false)) (fun _ i => xs.length - (intOf i).toNat)
  case atStart => exact ⟨0, by omega, rfl, fun i hi h => by omega⟩
  case round =>
    obtain ⟨j, hj, rfl, hp⟩ := hrel
    by_cases hlt : j < xs.length
    · obtain ⟨b, o, rfl, -, hc⟩ := H.out.ix hlt
      have f1 := hc j hlt
      rw [ix_eq hlt] at f1
      clear hc
      cases hk : badKind xs[j] with
      | true =>
        have HB := Lib.hid (idxM_at hlt hk hp.out)
        have HK := Lib.hid hk
        clear hk
        go_wp2_with fail
        refine (areStitches1_any _ _).mono ?_
        rintro e w' ⟨rfl, rfl⟩
        rw [HK.out]
        go_wp2
        go_ret
        exact ⟨ret_int HB.out.symm, rfl⟩
      | false =>
        have HK := Lib.hid hk
        clear hk
        go_wp2_with fail
        refine (areStitches1_any _ _).mono ?_
        rintro e w' ⟨rfl, rfl⟩
        rw [HK.out]
        go_wp2
        go_round
        case rel => exact ⟨j + 1, by omega, by go_num, fun i hi h => by
          by_cases e : i = j
          · subst e; exact HK.out
          · exact hp.out i hi (by omega)⟩
        case measure => simp [intOf]; omega
    · have HB := Lib.hid (idxM_none (p := badKind) (xs := xs) (fun i hi => hp.out i hi (by omega)))
      go_wp2
      go_ret
      exact ⟨ret_int HB.out.symm, rfl⟩
theorem areStitchesHas_any (w : World) (S : Nat → Prop) (v : Value) (xs : List Int) (h : Ints w S v xs) :
    Calls Try.prog 174 #[v, .func (.func 259) #[] #[]] w fun e w' => e = .returned (.bool (xs.any badKind)) ∧ w = w' := by
  obtain ⟨A, c, rfl, hlc, hcm, -⟩ := h.shape
  have H := Lib.hid h
  have HA := Lib.hid (idxM_any badKind xs)
  have hb := idxM_bd badKind xs
  clear h
  go_enter Try.func174, Try.ntmps174
  go_wp2_with fail
  refine (areStitchesIdx_any _ S _ xs H.out).mono ?_
  rintro e w' ⟨rfl, rfl⟩
  go_wp2
  go_ret
  exact ⟨ret_bool (by rw [← HA.out]), rfl⟩
theorem stB_any (xs : List Int) : stB xs = (decide (xs.length ≤ 16) && !xs.any badKind) := by
  unfold stB
  rw [Bool.and_comm]
  congr 1
  rw [Bool.eq_iff_iff, List.all_eq_true, Bool.not_eq_true', List.any_eq_false]
  simp [badKind]
theorem areStitches_any (w : World) (S : Nat → Prop) (v : Value) (xs : List Int) (h : Ints w S v xs) :
    Calls Try.prog 249 #[v] w fun e w' => e = .returned (.bool (stB xs)) ∧ w = w' := by
  obtain ⟨A, c, rfl, hlc, hcm, -⟩ := h.shape
  have H := Lib.hid h
  clear h
  by_cases hl : xs.length ≤ 16
  · have HS := Lib.hid (show stB xs = !xs.any badKind by rw [stB_any, decide_eq_true hl, Bool.true_and])
    go_enter Try.func249, Try.ntmps249
    go_wp2_with fail
    refine (areStitchesHas_any _ S _ xs H.out).mono ?_
    rintro e w' ⟨rfl, rfl⟩
    go_wp2
    go_ret
    exact ⟨ret_bool HS.out.symm, rfl⟩
  · have HS := Lib.hid (show stB xs = false by rw [stB_any, decide_eq_false hl, Bool.false_and])
    go_enter Try.func249, Try.ntmps249
    go_wp2
    go_ret
    exact ⟨ret_bool HS.out.symm, rfl⟩
set_option maxHeartbeats 1000000 in
theorem sTakenBy_yes (w : World) (S : Nat → Prop) (v : Value) (xs : List Int) (h : Ints w S v xs) (hs : stB xs = true) :
    Calls Try.prog 243 #[v] w fun e w' => e = .returned (.int .i64 (sumF takenK xs)) ∧ Up w w' := by
  obtain ⟨A, c, rfl, hlc, hcm, -⟩ := h.shape
  have H := Lib.hid h
  have HS := Lib.hid hs
  have hl := stB_len hs
  have HK := Lib.hid (stB_kind hs)
  clear h hs
  go_enter Try.func243, Try.ntmps243
  go_wp2_with fail
  refine (l14Ok_any _ S _ xs H.out).mono ?_
  rintro e w' ⟨rfl, rfl⟩
  rw [HS.out]
  go_wp2
  go_loopw [3, 4] (fun n i wr => ∃ j : Nat, j ≤ xs.length ∧ i = .int .i64 j ∧ n = .int .i64 (sumF takenK (xs.take j)) ∧ Hid (Up w wr)) (fun _ i _ => xs.length - (intOf i).toNat)
  case atStart => exact ⟨0, by omega, rfl, rfl, Chg.refl _ _⟩
  case round =>
    obtain ⟨j, hj, rfl, rfl, hg⟩ := hrel
    by_cases hlt : j < xs.length
    · obtain ⟨b, o, rfl, -, hc⟩ := H.out.ix hlt
      have f1 := Chg.cell hg.out (hc j hlt) id
      rw [ix_eq hlt] at f1
      have HT := Lib.hid (sumF_take takenK hlt)
      have HV := Lib.hid (takenOf_ok (HK.out _ (List.getElem_mem hlt)))
      have hb1 := takenK_bd xs[j]
      have hb2 := sumF_bd takenK 0 4 (by omega) (fun x => by have := takenK_bd x; omega) (xs.take j)
      rw [List.length_take, Nat.min_eq_left hj] at hb2
      clear hc
      go_wp2_with fail
      refine (sColumnsTaken_any _ _).mono ?_
      rintro e w1 ⟨rfl, g1⟩
      rw [HV.out]
      have G1 := Lib.hid g1
      clear g1 f1
      go_wp2
      go_roundw
      case rel => exact ⟨j + 1, by omega, by go_num, by rw [HT.out], Chg.trans hg.out G1.out⟩
      case measure => simp [intOf]; omega
    · obtain rfl : j = xs.length := by omega
      have HT := Lib.hid (show sumF takenK (xs.take xs.length) = sumF takenK xs by rw [List.take_length])
      go_wp2
      go_ret
      exact ⟨ret_int HT.out, hg.out⟩
theorem sTakenBy_any (w : World) (S : Nat → Prop) (v : Value) (xs : List Int) (h : Ints w S v xs) :
    Calls Try.prog 243 #[v] w fun e w' => e = .returned (.int .i64 (if stB xs then sumF takenK xs else -1)) ∧ Up w w' := by
  cases hs : stB xs with
  | true => exact sTakenBy_yes w S v xs h hs
  | false =>
    obtain ⟨A, c, rfl, hlc, hcm, -⟩ := h.shape
    have H := Lib.hid h
    have HS := Lib.hid hs
    clear h hs
    go_enter Try.func243, Try.ntmps243
    go_wp2_with fail
    refine (l14Ok_any _ S _ xs H.out).mono ?_
    rintro e w' ⟨rfl, rfl⟩
    rw [HS.out]
    go_wp2
    go_ret
    exact ⟨rfl, Chg.refl _ _⟩
set_option maxHeartbeats 1000000 in
theorem takenBy_yes (w : World) (S : Nat → Prop) (v : Value) (xs : List Int) (h : Ints w S v xs) (hs : stB xs = true) :
    Calls Try.prog 251 #[v] w fun e w' => e = .returned (.int .i64 (sumF takenK xs)) ∧ w = w' := by
  obtain ⟨A, c, rfl, hlc, hcm, -⟩ := h.shape
  have H := Lib.hid h
  have HS := Lib.hid hs
  have hl := stB_len hs
  have HK := Lib.hid (stB_kind hs)
  clear h hs
  go_enter Try.func251, Try.ntmps251
  go_wp2
  go_loop [3, 5, 8] (fun n _ i => ∃ j : Nat, j ≤ xs.length ∧ i = .int .i64 j ∧ n = .int .i64 (sumF takenK (xs.take j))) (fun _ _ i => xs.length - (intOf i).toNat)
  case atStart => exact ⟨0, by omega, rfl, rfl⟩
  case round =>
    obtain ⟨j, hj, rfl, rfl⟩ := hrel
    by_cases hlt : j < xs.length
    · obtain ⟨b, o, rfl, -, hc⟩ := H.out.ix hlt
      have f1 := hc j hlt
      rw [ix_eq hlt] at f1
      have HT := Lib.hid (sumF_take takenK hlt)
      have HV := Lib.hid (takenOf_ok (HK.out _ (List.getElem_mem hlt)))
      have hb1 := takenK_bd xs[j]
      have hb2 := sumF_bd takenK 0 4 (by omega) (fun x => by have := takenK_bd x; omega) (xs.take j)
      rw [List.length_take, Nat.min_eq_left hj] at hb2
      clear hc
      go_wp2_with fail
      refine (ColumnsTaken_any _ _).mono ?_
      rintro e w1 ⟨rfl, rfl⟩
      rw [HV.out]
      go_wp2
      go_round
      case rel => exact ⟨j + 1, by omega, by go_num, by rw [HT.out]⟩
      case measure => simp [intOf]; omega
    · obtain rfl : j = xs.length := by omega
      have HT := Lib.hid (show sumF takenK (xs.take xs.length) = sumF takenK xs by rw [List.take_length])
      go_wp2
      go_ret
      exact ⟨ret_int (by first | rfl | exact HT.out), rfl⟩
end Go.Proofs.Ytjgdcjhmfbefdaa
