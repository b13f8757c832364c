/- When a colour chart is valid. No condition. -/
import Derived.Test.YtgdcffbakjfacaaDoorFC13
import Derived.Test.YtgdcffbakjfacaaDoorFC11
set_option linter.unusedSimpArgs false
set_option linter.unusedVariables false
set_option maxRecDepth 100000
set_option maxHeartbeats 4000000
namespace Go.Proofs.YtgdcffbakjfacaaDoor
open Go.ChangeShapes Go.WideShapes Go.ChangeAt Go.RowKit
theorem callBo {f : FuncId} {args : Array Value} {w : World} {b c : Bool} (h : Calls Tryd.prog f args w fun e w' => e = .returned (.bool b) ∧ Up w w') (hb : b = c) : Calls Tryd.prog f args w fun e w' => e = .returned (.bool c) ∧ Up w w' := hb ▸ h
def SignP (b : Bool) (w : World) (e : Ending) (w' : World) : Prop := ∃ n : Int, decide (0 ≤ n) = b ∧ e = .returned (.int .i64 n) ∧ Up w w'
def NoneTo {α : Type} (f : α → Bool) (xs : List α) (j : Nat) : Prop := ∀ i (h : i < xs.length), i < j → f xs[i] = false
theorem NoneTo.start {α : Type} (f : α → Bool) (xs : List α) : NoneTo f xs 0 := fun _ _ h => absurd h (Nat.not_lt_zero _)
theorem NoneTo.next {α : Type} {f : α → Bool} {xs : List α} {j : Nat} (h : NoneTo f xs j) (hj : j < xs.length) (hf : f xs[j] = false) : NoneTo f xs (j + 1) := fun i hi hij => by
  by_cases e : i = j
  · subst e; exact hf
  · exact h i hi (by omega)
theorem NoneTo.all {α : Type} {f : α → Bool} {xs : List α} (h : NoneTo f xs xs.length) : xs.any f = false := by
  rw [List.any_eq_false]
  intro x hx
  obtain ⟨i, hi, rfl⟩ := List.getElem_of_mem hx
  rw [h i hi hi]
  exact Bool.false_ne_true
theorem any_at {α : Type} {f : α → Bool} {xs : List α} {j : Nat} (hj : j < xs.length) (h : f xs[j] = true) : xs.any f = true := List.any_eq_true.2 ⟨_, List.getElem_mem hj, h⟩
def badCar (x : Int) : Bool := !carB x
def badLine (n : Int) (r : List Int) : Bool := decide ((r.length : Int) ≠ n) || r.any badCar
theorem okLine_bad (n : Int) (r : List Int) : okLine n r = !badLine n r := by
  unfold okLine badLine
  rw [Bool.not_or, List.not_any_eq_all_not]
  have e : (fun a => !badCar a) = carB := by funext a; simp [badCar]
  rw [e]
  by_cases h : (r.length : Int) = n <;> simp [h]
theorem okCol_bad (c : ColM) : c.rs.all (okLine c.n) = !c.rs.any (badLine c.n) := by
  rw [List.not_any_eq_all_not]
  congr 1
  funext a
  exact okLine_bad c.n a
theorem badCar_any (w : World) (x : Int) : Calls Tryd.prog 27 #[.int .i64 x] w fun e w' => e = .returned (.bool (badCar x)) ∧ Up w w' := by
  go_enter Tryd.func27, Tryd.ntmps27
  go_wp2_with fail
  refine (isCarrier_any x _).mono ?_
  rintro e w' ⟨rfl, rfl⟩
  go_wp2
  go_ret
  exact ⟨rfl, (by repeat (first | exact Chg.refl _ _ | apply Chg.drew | apply Chg.drewN | refine Chg.alloc ?_ _))⟩
theorem badIdx_any (w : World) (S : Nat → Prop) (v : Value) (xs : List Int) (h : Ints w S v xs) :
    Calls Tryd.prog 41 #[v, .func (.func 27) #[] #[]] w (SignP (xs.any badCar) w) := by
  obtain ⟨A, c, rfl, hlc, hcm, -⟩ := h.shape
  have H := Lib.hid h
  clear h
  go_enter Tryd.func41, Tryd.ntmps41
  go_wp2
  go_loopw [5, 8] (fun _ i wr => ∃ j : Nat, j ≤ xs.length ∧ i = .int .i64 j ∧ Hid (NoneTo badCar xs j) ∧ Hid (Up w wr)) (fun _ i _ => xs.length - (intOf i).toNat)
  case atStart => exact ⟨0, by omega, rfl, NoneTo.start _ xs, Chg.refl _ _⟩
  case round =>
    obtain ⟨j, hj, rfl, hs, hu⟩ := hrel
    by_cases hlt : j < xs.length
    · skip
      obtain ⟨b, o, rfl, -, hc⟩ := ints_ixf (H.out.up hu.out) hlt
      have q0 := (hc j hlt).1
      rw [ix_eq hlt] at q0
      clear hc
      cases hk : badCar xs[j] with
      | true =>
        have HK := Lib.hid hk
        have HB := Lib.hid (any_at hlt hk)
        clear hk
        go_wp2_with fail
        refine (callBo (badCar_any _ xs[j]) HK.out).mono ?_
        rintro e w1 ⟨rfl, g1⟩
        have G1 := Lib.hid (show Up wr _ from Chg.trans (by repeat (first | exact Chg.refl _ _ | apply Chg.drew | apply Chg.drewN | refine Chg.alloc ?_ _)) g1)
        clear q0
        clear g1
        go_wp2
        go_ret
        exact ⟨j, by rw [HB.out]; exact decide_eq_true (by omega), rfl, Chg.trans hu.out G1.out⟩
      | false =>
        have HK := Lib.hid hk
        clear hk
        go_wp2_with fail
        refine (callBo (badCar_any _ xs[j]) HK.out).mono ?_
        rintro e w1 ⟨rfl, g1⟩
        have G1 := Lib.hid (show Up wr _ from Chg.trans (by repeat (first | exact Chg.refl _ _ | apply Chg.drew | apply Chg.drewN | refine Chg.alloc ?_ _)) g1)
        clear q0
        clear g1
        go_wp2
        go_roundw
        case rel => exact ⟨j + 1, by omega, by go_num, Lib.hid (hs.out.next hlt HK.out), Lib.hid (Chg.trans hu.out G1.out)⟩
        case measure => first | (simp [intOf]; done) | (simp [intOf]; omega)
    · obtain rfl : j = xs.length := by omega
      have HB := Lib.hid hs.out.all
      go_wp2
      go_ret
      exact ⟨-1, by rw [HB.out]; exact decide_eq_false (by omega), rfl, hu.out⟩
theorem badHas_any (w : World) (S : Nat → Prop) (v : Value) (xs : List Int) (h : Ints w S v xs) :
    Calls Tryd.prog 26 #[v, .func (.func 27) #[] #[]] w fun e w' => e = .returned (.bool (xs.any badCar)) ∧ Up w w' := by
  obtain ⟨A, c, rfl, hlc, hcm, -⟩ := h.shape
  have H := Lib.hid h
  clear h
  go_enter Tryd.func26, Tryd.ntmps26
  go_wp2_with fail
  refine (badIdx_any _ S _ xs H.out).mono ?_
  rintro e w1 ⟨n, hn, rfl, g1⟩
  have HN := Lib.hid hn
  have G1 := Lib.hid g1
  clear hn g1
  go_wp2
  go_ret
  exact ⟨by rw [← HN.out]; rfl, G1.out⟩
theorem badLine_any (w : World) (S : Nat → Prop) (v : Value) (r : List Int) (h : Ints w S v r) (bc : Nat) (n : Int) (q : w.cell? ⟨bc, 0, none⟩ = some (.int .i64 n)) : Calls Tryd.prog 25 #[v, .pointer (some ⟨bc, 0, none⟩)] w fun e w' => e = .returned (.bool (badLine n r)) ∧ Up w w' := by
  obtain ⟨A, c, rfl, hlc, hcm, -⟩ := h.shape
  have H := Lib.hid h
  clear h
  unfold badLine
  by_cases hl : (r.length : Int) = n
  · have hq : ((r.length : Int) != n) = false := by simp [hl]
    have HQ := Lib.hid (show decide ((r.length : Int) ≠ n) = false from decide_eq_false (fun h => h hl))
    clear hl
    go_enter Tryd.func25, Tryd.ntmps25
    go_wp2_with fail
    refine (badHas_any _ S _ r (H.out.up (by repeat (first | exact Chg.refl _ _ | apply Chg.drew | apply Chg.drewN | refine Chg.alloc ?_ _)))).mono ?_
    rintro e w1 ⟨rfl, g1⟩
    have G1 := Lib.hid (show Up w w1 from Chg.trans (by repeat (first | exact Chg.refl _ _ | apply Chg.drew | apply Chg.drewN | refine Chg.alloc ?_ _)) g1)
    clear g1 q
    go_wp2
    go_ret
    exact ⟨by rw [HQ.out, Bool.false_or]; rfl, G1.out⟩
  · have hq : ((r.length : Int) != n) = true := by simpa using hl
    have HQ := Lib.hid (show decide ((r.length : Int) ≠ n) = true from decide_eq_true hl)
    clear hl
    go_enter Tryd.func25, Tryd.ntmps25
    go_wp2
    go_ret
    exact ⟨by rw [HQ.out, Bool.true_or]; rfl, (by repeat (first | exact Chg.refl _ _ | apply Chg.drew | apply Chg.drewN | refine Chg.alloc ?_ _))⟩
theorem badIdx2_any (w : World) (M H L : Nat → Prop) (v : Value) (xs : List (List Int)) (h : IntSSV w M H L v xs) (bc : Nat) (n : Int) (q : w.cell? ⟨bc, 0, none⟩ = some (.int .i64 n)) :
    Calls Tryd.prog 40 #[v, .func (.func 25) #[] #[.pointer (some ⟨bc, 0, none⟩)]] w (SignP (xs.any (badLine n)) w) := by
  obtain ⟨A, c, rfl, hlc, hcm, -⟩ := h.shape
  have H := Lib.hid h
  have Q := Lib.hid q
  clear h
  go_enter Tryd.func40, Tryd.ntmps40
  go_wp2
  go_loopw [5, 8] (fun _ i wr => ∃ j : Nat, j ≤ xs.length ∧ i = .int .i64 j ∧ Hid (NoneTo (badLine n) xs j) ∧ Hid (Up w wr)) (fun _ i _ => xs.length - (intOf i).toNat)
  case atStart => exact ⟨0, by omega, rfl, NoneTo.start _ xs, Chg.refl _ _⟩
  case round =>
    obtain ⟨j, hj, rfl, hs, hu⟩ := hrel
    by_cases hlt : j < xs.length
    · skip
      obtain ⟨b, o, k1, vs, he, -, -, -, hE, hc⟩ := (H.out.up hu.out).at_ hlt
      obtain ⟨rfl, rfl⟩ : A = some ⟨b, o, none⟩ ∧ c = k1 := by simpa using he
      obtain ⟨A3, k3, rfl, hv, hk3, hk3m⟩ := hE
      have f0 := (hc 0 _ rfl).1
      simp only [Nat.mul_one, Nat.add_zero] at f0
      have HV := Lib.hid hv
      have HQ := Lib.hid (Chg.cell hu.out Q.out id)
      clear hc he hv
      cases hk : (badLine n) xs[j] with
      | true =>
        have HK := Lib.hid hk
        have HB := Lib.hid (any_at hlt hk)
        clear hk
        go_wp2_with fail
        refine (callBo (badLine_any _ L _ xs[j] (HV.out.up (by repeat (first | exact Chg.refl _ _ | apply Chg.drew | apply Chg.drewN | refine Chg.alloc ?_ _))) bc n (Chg.cell (show Up wr _ from (by repeat (first | exact Chg.refl _ _ | apply Chg.drew | apply Chg.drewN | refine Chg.alloc ?_ _))) HQ.out id)) HK.out).mono ?_
        rintro e w1 ⟨rfl, g1⟩
        have G1 := Lib.hid (show Up wr _ from Chg.trans (by repeat (first | exact Chg.refl _ _ | apply Chg.drew | apply Chg.drewN | refine Chg.alloc ?_ _)) g1)
        clear f0
        clear g1
        go_wp2
        go_ret
        exact ⟨j, by rw [HB.out]; exact decide_eq_true (by omega), rfl, Chg.trans hu.out G1.out⟩
      | false =>
        have HK := Lib.hid hk
        clear hk
        go_wp2_with fail
        refine (callBo (badLine_any _ L _ xs[j] (HV.out.up (by repeat (first | exact Chg.refl _ _ | apply Chg.drew | apply Chg.drewN | refine Chg.alloc ?_ _))) bc n (Chg.cell (show Up wr _ from (by repeat (first | exact Chg.refl _ _ | apply Chg.drew | apply Chg.drewN | refine Chg.alloc ?_ _))) HQ.out id)) HK.out).mono ?_
        rintro e w1 ⟨rfl, g1⟩
        have G1 := Lib.hid (show Up wr _ from Chg.trans (by repeat (first | exact Chg.refl _ _ | apply Chg.drew | apply Chg.drewN | refine Chg.alloc ?_ _)) g1)
        clear f0
        clear g1
        go_wp2
        go_roundw
        case rel => exact ⟨j + 1, by omega, by go_num, Lib.hid (hs.out.next hlt HK.out), Lib.hid (Chg.trans hu.out G1.out)⟩
        case measure => first | (simp [intOf]; done) | (simp [intOf]; omega)
    · obtain rfl : j = xs.length := by omega
      have HB := Lib.hid hs.out.all
      go_wp2
      go_ret
      exact ⟨-1, by rw [HB.out]; exact decide_eq_false (by omega), rfl, hu.out⟩
theorem badHas2_any (w : World) (M H' L : Nat → Prop) (v : Value) (xs : List (List Int)) (h : IntSSV w M H' L v xs) (bc : Nat) (n : Int) (q : w.cell? ⟨bc, 0, none⟩ = some (.int .i64 n)) :
    Calls Tryd.prog 24 #[v, .func (.func 25) #[] #[.pointer (some ⟨bc, 0, none⟩)]] w fun e w' => e = .returned (.bool (xs.any (badLine n))) ∧ Up w w' := by
  obtain ⟨A, c, rfl, hlc, hcm, -⟩ := h.shape
  have H := Lib.hid h
  clear h
  go_enter Tryd.func24, Tryd.ntmps24
  go_wp2_with fail
  refine (badIdx2_any _ M H' L _ xs H.out bc n q).mono ?_
  rintro e w1 ⟨n, hn, rfl, g1⟩
  have HN := Lib.hid hn
  have G1 := Lib.hid g1
  clear hn g1
  go_wp2
  go_ret
  exact ⟨by rw [← HN.out]; rfl, G1.out⟩
theorem ValidColours_any (w : World) (M H L : Nat → Prop) (v : Value) (c : ColM) (h : ColV w M H L v c) :
    Calls Tryd.prog 14 #[v] w fun e w' => e = .returned (.bool (okCol c)) ∧ Up w w' := by
  obtain ⟨A, kk, rfl, h0, ⟨hlk, hkm⟩, hi0⟩ := h
  have H0 := Lib.hid (h0.up ((Chg.refl Nowhere w).alloc (.cells #[.int .i64 c.n, .slice A c.rs.length kk] 26)))
  have q0 := (show (w.alloc (.cells #[.int .i64 c.n, .slice A c.rs.length kk] 26)).cell? ⟨w.heap.size, 0, none⟩ = some (.int .i64 c.n) from cell_new _ _ _ _)
  have q1 := (show (w.alloc (.cells #[.int .i64 c.n, .slice A c.rs.length kk] 26)).cell? ⟨w.heap.size, 1, none⟩ = some (.slice A c.rs.length kk) from cell_new _ _ _ _)
  clear h0 hi0
  have HOK := Lib.hid (show okCol c = ((inB c.n 1 8 && inB c.rs.length 1 8) && !c.rs.any (badLine c.n)) by unfold okCol; rw [okCol_bad])
  by_cases h8 : 1 ≤ c.n ∧ c.n ≤ 8
  · have E1 := Lib.hid (inB_yes h8)
    by_cases hr8 : 1 ≤ (c.rs.length : Int) ∧ (c.rs.length : Int) ≤ 8
    · have E2 := Lib.hid (inB_yes hr8)
      have d1 : decide ((c.rs.length : Int) < 1) = false := decide_eq_false (by omega)
      have d2 : decide ((c.rs.length : Int) > 8) = false := decide_eq_false (by omega)
      clear h8 hr8
      go_enter Tryd.func14, Tryd.ntmps14
      go_wp2_with fail
      refine (within_any c.n 1 8 _).mono ?_
      rintro e w' ⟨rfl, rfl⟩
      rw [E1.out]
      go_wp2_with fail
      refine (badHas2_any _ M H L _ c.rs (H0.out.up (by repeat (first | exact Chg.refl _ _ | apply Chg.drew | apply Chg.drewN | refine Chg.alloc ?_ _))) _ c.n (Chg.cell (show Up (w.alloc (.cells #[.int .i64 c.n, .slice A c.rs.length kk] 26)) _ from (by repeat (first | exact Chg.refl _ _ | apply Chg.drew | apply Chg.drewN | refine Chg.alloc ?_ _))) q0 id)).mono ?_
      rintro e w1 ⟨rfl, g1⟩
      have G1 := Lib.hid (show Up w w1 from Chg.trans (by repeat (first | exact Chg.refl _ _ | apply Chg.drew | apply Chg.drewN | refine Chg.alloc ?_ _)) g1)
      clear g1 q0 q1
      go_wp2
      go_ret
      exact ⟨by rw [HOK.out, E1.out, E2.out]; rfl, G1.out⟩
    · have E2 := Lib.hid (inB_no (n := (c.rs.length : Int)) (lo := 1) (hi := 8) (by omega))
      have HF := Lib.hid (show okCol c = false by rw [HOK.out, E1.out, E2.out]; rfl)
      clear h8
      by_cases hr1 : (c.rs.length : Int) < 1
      · have d1 : decide ((c.rs.length : Int) < 1) = true := decide_eq_true hr1
        clear hr8 hr1
        go_enter Tryd.func14, Tryd.ntmps14
        go_wp2_with fail
        refine (within_any c.n 1 8 _).mono ?_
        rintro e w' ⟨rfl, rfl⟩
        rw [E1.out]
        go_wp2
        go_ret
        exact ⟨by rw [HF.out]; rfl, (by repeat (first | exact Chg.refl _ _ | apply Chg.drew | apply Chg.drewN | refine Chg.alloc ?_ _))⟩
      · have d1 : decide ((c.rs.length : Int) < 1) = false := decide_eq_false hr1
        have d2 : decide ((c.rs.length : Int) > 8) = true := decide_eq_true (by omega)
        clear hr8 hr1
        go_enter Tryd.func14, Tryd.ntmps14
        go_wp2_with fail
        refine (within_any c.n 1 8 _).mono ?_
        rintro e w' ⟨rfl, rfl⟩
        rw [E1.out]
        go_wp2
        go_ret
        exact ⟨by rw [HF.out]; rfl, (by repeat (first | exact Chg.refl _ _ | apply Chg.drew | apply Chg.drewN | refine Chg.alloc ?_ _))⟩
  · have E1 := Lib.hid (inB_no (n := c.n) (lo := 1) (hi := 8) (by omega))
    have HF := Lib.hid (show okCol c = false by rw [HOK.out, E1.out]; rfl)
    clear h8
    go_enter Tryd.func14, Tryd.ntmps14
    go_wp2_with fail
    refine (within_any c.n 1 8 _).mono ?_
    rintro e w' ⟨rfl, rfl⟩
    rw [E1.out]
    go_wp2
    go_ret
    exact ⟨by rw [HF.out]; rfl, (by repeat (first | exact Chg.refl _ _ | apply Chg.drew | apply Chg.drewN | refine Chg.alloc ?_ _))⟩
theorem idxInt_any (w : World) (S : Nat → Prop) (v : Value) (xs : List Int) (x : Int) (h : Ints w S v xs) : Calls Tryd.prog 44 #[v, .int .i64 x] w (SignP (decide (x ∈ xs)) w) := by
  obtain ⟨A, c, rfl, hlc, hcm, -⟩ := h.shape
  have H := Lib.hid h
  clear h
  go_enter Tryd.func44, Tryd.ntmps44
  go_wp2
  go_loopw [5, 8] (fun _ i wr => ∃ j : Nat, j ≤ xs.length ∧ i = .int .i64 j ∧ Hid (x ∉ xs.take j) ∧ Hid (Up w wr)) (fun _ i _ => xs.length - (intOf i).toNat)
  case atStart => exact ⟨0, by omega, rfl, Lib.hid (by simp), Chg.refl _ _⟩
  case round =>
    obtain ⟨j, hj, rfl, hs, hu⟩ := hrel
    by_cases hlt : j < xs.length
    · obtain ⟨b, o, rfl, -, hc⟩ := ints_ixf (H.out.up hu.out) hlt
      have q0 := (hc j hlt).1
      rw [ix_eq hlt] at q0
      clear hc
      by_cases hx : xs[j] = x
      · have hq : (x == xs[j]) = true := by rw [hx]; simp
        have HM := Lib.hid (show decide (x ∈ xs) = true from decide_eq_true (hx ▸ List.getElem_mem hlt))
        clear hx
        go_wp2
        go_ret
        exact ⟨j, by rw [HM.out]; exact decide_eq_true (by omega), rfl, Chg.trans hu.out (by repeat (first | exact Chg.refl _ _ | apply Chg.drew | apply Chg.drewN | refine Chg.alloc ?_ _))⟩
      · have hq : (x == xs[j]) = false := by simpa using fun h => hx h.symm
        have HX := Lib.hid hx
        clear hx
        go_wp2
        go_roundw
        case rel => exact ⟨j + 1, by omega, by go_num, Lib.hid (by rw [List.take_succ_eq_append_getElem hlt, List.mem_append]; intro h; rcases h with h | h; exact hs.out h; exact HX.out (List.mem_singleton.1 h).symm), Lib.hid (Chg.trans hu.out (by repeat (first | exact Chg.refl _ _ | apply Chg.drew | apply Chg.drewN | refine Chg.alloc ?_ _)))⟩
        case measure => first | (simp [intOf]; done) | (simp [intOf]; omega)
    · obtain rfl : j = xs.length := by omega
      have HM := Lib.hid (show decide (x ∈ xs) = false from decide_eq_false (by have := hs.out; rwa [List.take_length] at this))
      go_wp2
      go_ret
      exact ⟨-1, by rw [HM.out]; exact decide_eq_false (by omega), rfl, Chg.trans hu.out (by repeat (first | exact Chg.refl _ _ | apply Chg.drew | apply Chg.drewN | refine Chg.alloc ?_ _))⟩
theorem hasInt_any (w : World) (S : Nat → Prop) (v : Value) (xs : List Int) (x : Int) (h : Ints w S v xs) : Calls Tryd.prog 35 #[v, .int .i64 x] w fun e w' => e = .returned (.bool (decide (x ∈ xs))) ∧ Up w w' := by
  obtain ⟨A, c, rfl, hlc, hcm, -⟩ := h.shape
  have H := Lib.hid h
  clear h
  go_enter Tryd.func35, Tryd.ntmps35
  go_wp2_with fail
  refine (idxInt_any _ S _ xs x H.out).mono ?_
  rintro e w1 ⟨n, hn, rfl, g1⟩
  have HN := Lib.hid hn
  have G1 := Lib.hid g1
  clear hn g1
  go_wp2
  go_ret
  exact ⟨by rw [← HN.out]; rfl, G1.out⟩
end Go.Proofs.YtgdcffbakjfacaaDoor
