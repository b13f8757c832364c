/- When a colour chart is valid. No condition. allStacks: the stacks behind each row of a chart. No condition. l15Stacks: the stacks behind each row of a chart. No condition. ValidChart, layoutWidth, LayoutWidth, on both sides. No condition. The laws' helpers on charts: sizes. No condition. The laws' helpers on charts: copies. No condition. The laws' helpers on charts. No condition. The laws' helpers on charts: equality. No condition. -/
import Derived.Test.YtchfjglofmphfaaPD13
import Derived.Test.YtchfjglofmphfaaPD11
import Derived.Test.YtchfjglofmphfaaPD12
import Derived.Test.YtchfjglofmphfaaPD6
import Derived.Test.YtchfjglofmphfaaPD9
section
set_option linter.unusedSimpArgs false
set_option linter.unusedVariables false
set_option maxRecDepth 100000
set_option maxHeartbeats 4000000
namespace Go.Proofs.Ytchfjglofmphfaa
open Go.ChangeShapes Go.WideShapes Go.ChangeAt Go.RowKit
theorem callBo {f : FuncId} {args : Array Value} {w : World} {b c : Bool} (h : Calls Try.prog f args w fun e w' => e = .returned (.bool b) ∧ Up w w') (hb : b = c) : Calls Try.prog f args w fun e w' => e = .returned (.bool c) ∧ Up w w' := hb ▸ h
def SignP (b : Bool) (w : World) (e : Ending) (w' : World) : Prop := ∃ n : Int, decide (0 ≤ n) = b ∧ e = .returned (.int .i64 n) ∧ Up w w'
def NoneTo {α : Type} (f : α → Bool) (xs : List α) (j : Nat) : Prop := ∀ i (h : i < xs.length), i < j → f xs[i] = false
theorem NoneTo.start {α : Type} (f : α → Bool) (xs : List α) : NoneTo f xs 0 := fun _ _ h => absurd h (Nat.not_lt_zero _)
theorem NoneTo.next {α : Type} {f : α → Bool} {xs : List α} {j : Nat} (h : NoneTo f xs j) (hj : j < xs.length) (hf : f xs[j] = false) : NoneTo f xs (j + 1) := fun i hi hij => by
  by_cases e : i = j
  · subst e; exact hf
  · exact h i hi (by omega)
theorem NoneTo.all {α : Type} {f : α → Bool} {xs : List α} (h : NoneTo f xs xs.length) : xs.any f = false := by
  rw [List.any_eq_false]
  intro x hx
  obtain ⟨i, hi, rfl⟩ := List.getElem_of_mem hx
  rw [h i hi hi]
  exact Bool.false_ne_true
theorem any_at {α : Type} {f : α → Bool} {xs : List α} {j : Nat} (hj : j < xs.length) (h : f xs[j] = true) : xs.any f = true := List.any_eq_true.2 ⟨_, List.getElem_mem hj, h⟩
def badCar (x : Int) : Bool := !carB x
def badLine (n : Int) (r : List Int) : Bool := decide ((r.length : Int) ≠ n) || r.any badCar
theorem okLine_bad (n : Int) (r : List Int) : okLine n r = !badLine n r := by
  unfold okLine badLine
  rw [Bool.not_or, List.not_any_eq_all_not]
  have e : (fun a => !badCar a) = carB := by funext a; simp [badCar]
  rw [e]
  by_cases h : (r.length : Int) = n <;> simp [h]
theorem okCol_bad (c : ColM) : c.rs.all (okLine c.n) = !c.rs.any (badLine c.n) := by
  rw [List.not_any_eq_all_not]
  congr 1
  funext a
  exact okLine_bad c.n a
theorem badCar_any (w : World) (x : Int) : Calls Try.prog 125 #[.int .i64 x] w fun e w' => e = .returned (.bool (badCar x)) ∧ Up w w' := by
  go_enter Try.func125, Try.ntmps125
  go_wp2_with fail
  refine (isCarrier_any x _).mono ?_
  rintro e w' ⟨rfl, rfl⟩
  go_wp2
  go_ret
  exact ⟨rfl, (by repeat (first | exact Chg.refl _ _ | apply Chg.drew | apply Chg.drewN | refine Chg.alloc ?_ _))⟩
theorem badIdx_any (w : World) (S : Nat → Prop) (v : Value) (xs : List Int) (h : Ints w S v xs) :
    Calls Try.prog 173 #[v, .func (.func 125) #[] #[]] w (SignP (xs.any badCar) w) := by
  obtain ⟨A, c, rfl, hlc, hcm, -⟩ := h.shape
  have H := Lib.hid h
  clear h
  go_enter Try.func173, Try.ntmps173
  go_wp2
  go_loopw [5, 8] (fun _ i wr => ∃ j : Nat, j ≤ xs.length ∧ i = .int .i64 j ∧ Hid (NoneTo badCar xs j) ∧ Hid (Up w wr)) (fun _ i _ => xs.length - (intOf i).toNat)
  case atStart => exact ⟨0, by omega, rfl, NoneTo.start _ xs, Chg.refl _ _⟩
  case round =>
    obtain ⟨j, hj, rfl, hs, hu⟩ := hrel
    by_cases hlt : j < xs.length
    · skip
      obtain ⟨b, o, rfl, -, hc⟩ := ints_ixf (H.out.up hu.out) hlt
      have q0 := (hc j hlt).1
      rw [ix_eq hlt] at q0
      clear hc
      cases hk : badCar xs[j] with
      | true =>
        have HK := Lib.hid hk
        have HB := Lib.hid (any_at hlt hk)
        clear hk
        go_wp2_with fail
        refine (callBo (badCar_any _ xs[j]) HK.out).mono ?_
        rintro e w1 ⟨rfl, g1⟩
        have G1 := Lib.hid (show Up wr _ from Chg.trans (by repeat (first | exact Chg.refl _ _ | apply Chg.drew | apply Chg.drewN | refine Chg.alloc ?_ _)) g1)
        clear q0
        clear g1
        go_wp2
        go_ret
        exact ⟨j, by rw [HB.out]; exact decide_eq_true (by omega), rfl, Chg.trans hu.out G1.out⟩
      | false =>
        have HK := Lib.hid hk
        clear hk
        go_wp2_with fail
        refine (callBo (badCar_any _ xs[j]) HK.out).mono ?_
        rintro e w1 ⟨rfl, g1⟩
        have G1 := Lib.hid (show Up wr _ from Chg.trans (by repeat (first | exact Chg.refl _ _ | apply Chg.drew | apply Chg.drewN | refine Chg.alloc ?_ _)) g1)
        clear q0
        clear g1
        go_wp2
        go_roundw
        case rel => exact ⟨j + 1, by omega, by go_num, Lib.hid (hs.out.next hlt HK.out), Lib.hid (Chg.trans hu.out G1.out)⟩
        case measure => first | (simp [intOf]; done) | (simp [intOf]; omega)
    · obtain rfl : j = xs.length := by omega
      have HB := Lib.hid hs.out.all
      go_wp2
      go_ret
      exact ⟨-1, by rw [HB.out]; exact decide_eq_false (by omega), rfl, hu.out⟩
theorem badHas_any (w : World) (S : Nat → Prop) (v : Value) (xs : List Int) (h : Ints w S v xs) :
    Calls Try.prog 124 #[v, .func (.func 125) #[] #[]] w fun e w' => e = .returned (.bool (xs.any badCar)) ∧ Up w w' := by
  obtain ⟨A, c, rfl, hlc, hcm, -⟩ := h.shape
  have H := Lib.hid h
  clear h
  go_enter Try.func124, Try.ntmps124
  go_wp2_with fail
  refine (badIdx_any _ S _ xs H.out).mono ?_
  rintro e w1 ⟨n, hn, rfl, g1⟩
  have HN := Lib.hid hn
  have G1 := Lib.hid g1
  clear hn g1
  go_wp2
  go_ret
  exact ⟨by rw [← HN.out]; rfl, G1.out⟩
theorem badLine_any (w : World) (S : Nat → Prop) (v : Value) (r : List Int) (h : Ints w S v r) (bc : Nat) (n : Int) (q : w.cell? ⟨bc, 0, none⟩ = some (.int .i64 n)) : Calls Try.prog 123 #[v, .pointer (some ⟨bc, 0, none⟩)] w fun e w' => e = .returned (.bool (badLine n r)) ∧ Up w w' := by
  obtain ⟨A, c, rfl, hlc, hcm, -⟩ := h.shape
  have H := Lib.hid h
  clear h
  unfold badLine
  by_cases hl : (r.length : Int) = n
  · have hq : ((r.length : Int) != n) = false := by simp [hl]
    have HQ := Lib.hid (show decide ((r.length : Int) ≠ n) = false from decide_eq_false (fun h => h hl))
    clear hl
    go_enter Try.func123, Try.ntmps123
    go_wp2_with fail
    refine (badHas_any _ S _ r (H.out.up (by repeat (first | exact Chg.refl _ _ | apply Chg.drew | apply Chg.drewN | refine Chg.alloc ?_ _)))).mono ?_
    rintro e w1 ⟨rfl, g1⟩
    have G1 := Lib.hid (show Up w w1 from Chg.trans (by repeat (first | exact Chg.refl _ _ | apply Chg.drew | apply Chg.drewN | refine Chg.alloc ?_ _)) g1)
    clear g1 q
    go_wp2
    go_ret
    exact ⟨by rw [HQ.out, Bool.false_or]; rfl, G1.out⟩
  · have hq : ((r.length : Int) != n) = true := by simpa using hl
    have HQ := Lib.hid (show decide ((r.length : Int) ≠ n) = true from decide_eq_true hl)
    clear hl
    go_enter Try.func123, Try.ntmps123
    go_wp2
    go_ret
    exact ⟨by rw [HQ.out, Bool.true_or]; rfl, (by repeat (first | exact Chg.refl _ _ | apply Chg.drew | apply Chg.drewN | refine Chg.alloc ?_ _))⟩
theorem badIdx2_any (w : World) (M H L : Nat → Prop) (v : Value) (xs : List (List Int)) (h : IntSSV w M H L v xs) (bc : Nat) (n : Int) (q : w.cell? ⟨bc, 0, none⟩ = some (.int .i64 n)) :
    Calls Try.prog 172 #[v, .func (.func 123) #[] #[.pointer (some ⟨bc, 0, none⟩)]] w (SignP (xs.any (badLine n)) w) := by
  obtain ⟨A, c, rfl, hlc, hcm, -⟩ := h.shape
  have H := Lib.hid h
  have Q := Lib.hid q
  clear h
  go_enter Try.func172, Try.ntmps172
  go_wp2
  go_loopw [5, 8] (fun _ i wr => ∃ j : Nat, j ≤ xs.length ∧ i = .int .i64 j ∧ Hid (NoneTo (badLine n) xs j) ∧ Hid (Up w wr)) (fun _ i _ => xs.length - (intOf i).toNat)
  case atStart => exact ⟨0, by omega, rfl, NoneTo.start _ xs, Chg.refl _ _⟩
  case round =>
    obtain ⟨j, hj, rfl, hs, hu⟩ := hrel
    by_cases hlt : j < xs.length
    · skip
      obtain ⟨b, o, k1, vs, he, -, -, -, hE, hc⟩ := (H.out.up hu.out).at_ hlt
      obtain ⟨rfl, rfl⟩ : A = some ⟨b, o, none⟩ ∧ c = k1 := by simpa using he
      obtain ⟨A3, k3, rfl, hv, hk3, hk3m⟩ := hE
      have f0 := (hc 0 _ rfl).1
      simp only [Nat.mul_one, Nat.add_zero] at f0
      have HV := Lib.hid hv
      have HQ := Lib.hid (Chg.cell hu.out Q.out id)
      clear hc he hv
      cases hk : (badLine n) xs[j] with
      | true =>
        have HK := Lib.hid hk
        have HB := Lib.hid (any_at hlt hk)
        clear hk
        go_wp2_with fail
        refine (callBo (badLine_any _ L _ xs[j] (HV.out.up (by repeat (first | exact Chg.refl _ _ | apply Chg.drew | apply Chg.drewN | refine Chg.alloc ?_ _))) bc n (Chg.cell (show Up wr _ from (by repeat (first | exact Chg.refl _ _ | apply Chg.drew | apply Chg.drewN | refine Chg.alloc ?_ _))) HQ.out id)) HK.out).mono ?_
        rintro e w1 ⟨rfl, g1⟩
        have G1 := Lib.hid (show Up wr _ from Chg.trans (by repeat (first | exact Chg.refl _ _ | apply Chg.drew | apply Chg.drewN | refine Chg.alloc ?_ _)) g1)
        clear f0
        clear g1
        go_wp2
        go_ret
        exact ⟨j, by rw [HB.out]; exact decide_eq_true (by omega), rfl, Chg.trans hu.out G1.out⟩
      | false =>
        have HK := Lib.hid hk
        clear hk
        go_wp2_with fail
        refine (callBo (badLine_any _ L _ xs[j] (HV.out.up (by repeat (first | exact Chg.refl _ _ | apply Chg.drew | apply Chg.drewN | refine Chg.alloc ?_ _))) bc n (Chg.cell (show Up wr _ from (by repeat (first | exact Chg.refl _ _ | apply Chg.drew | apply Chg.drewN | refine Chg.alloc ?_ _))) HQ.out id)) HK.out).mono ?_
        rintro e w1 ⟨rfl, g1⟩
        have G1 := Lib.hid (show Up wr _ from Chg.trans (by repeat (first | exact Chg.refl _ _ | apply Chg.drew | apply Chg.drewN | refine Chg.alloc ?_ _)) g1)
        clear f0
        clear g1
        go_wp2
        go_roundw
        case rel => exact ⟨j + 1, by omega, by go_num, Lib.hid (hs.out.next hlt HK.out), Lib.hid (Chg.trans hu.out G1.out)⟩
        case measure => first | (simp [intOf]; done) | (simp [intOf]; omega)
    · obtain rfl : j = xs.length := by omega
      have HB := Lib.hid hs.out.all
      go_wp2
      go_ret
      exact ⟨-1, by rw [HB.out]; exact decide_eq_false (by omega), rfl, hu.out⟩
theorem badHas2_any (w : World) (M H' L : Nat → Prop) (v : Value) (xs : List (List Int)) (h : IntSSV w M H' L v xs) (bc : Nat) (n : Int) (q : w.cell? ⟨bc, 0, none⟩ = some (.int .i64 n)) :
    Calls Try.prog 122 #[v, .func (.func 123) #[] #[.pointer (some ⟨bc, 0, none⟩)]] w fun e w' => e = .returned (.bool (xs.any (badLine n))) ∧ Up w w' := by
  obtain ⟨A, c, rfl, hlc, hcm, -⟩ := h.shape
  have H := Lib.hid h
  clear h
  go_enter Try.func122, Try.ntmps122
  go_wp2_with fail
  refine (badIdx2_any _ M H' L _ xs H.out bc n q).mono ?_
  rintro e w1 ⟨n, hn, rfl, g1⟩
  have HN := Lib.hid hn
  have G1 := Lib.hid g1
  clear hn g1
  go_wp2
  go_ret
  exact ⟨by rw [← HN.out]; rfl, G1.out⟩
theorem ValidColours_any (w : World) (M H L : Nat → Prop) (v : Value) (c : ColM) (h : ColV w M H L v c) :
    Calls Try.prog 68 #[v] w fun e w' => e = .returned (.bool (okCol c)) ∧ Up w w' := by
  obtain ⟨A, kk, rfl, h0, ⟨hlk, hkm⟩, hi0⟩ := h
  have H0 := Lib.hid (h0.up ((Chg.refl Nowhere w).alloc (.cells #[.int .i64 c.n, .slice A c.rs.length kk] 50)))
  have q0 := (show (w.alloc (.cells #[.int .i64 c.n, .slice A c.rs.length kk] 50)).cell? ⟨w.heap.size, 0, none⟩ = some (.int .i64 c.n) from cell_new _ _ _ _)
  have q1 := (show (w.alloc (.cells #[.int .i64 c.n, .slice A c.rs.length kk] 50)).cell? ⟨w.heap.size, 1, none⟩ = some (.slice A c.rs.length kk) from cell_new _ _ _ _)
  clear h0 hi0
  have HOK := Lib.hid (show okCol c = ((inB c.n 1 8 && inB c.rs.length 1 8) && !c.rs.any (badLine c.n)) by unfold okCol; rw [okCol_bad])
  by_cases h8 : 1 ≤ c.n ∧ c.n ≤ 8
  · have E1 := Lib.hid (inB_yes h8)
    by_cases hr8 : 1 ≤ (c.rs.length : Int) ∧ (c.rs.length : Int) ≤ 8
    · have E2 := Lib.hid (inB_yes hr8)
      have d1 : decide ((c.rs.length : Int) < 1) = false := decide_eq_false (by omega)
      have d2 : decide ((c.rs.length : Int) > 8) = false := decide_eq_false (by omega)
      clear h8 hr8
      go_enter Try.func68, Try.ntmps68
      go_wp2_with fail
      refine (within_any c.n 1 8 _).mono ?_
      rintro e w' ⟨rfl, rfl⟩
      rw [E1.out]
      go_wp2_with fail
      refine (badHas2_any _ M H L _ c.rs (H0.out.up (by repeat (first | exact Chg.refl _ _ | apply Chg.drew | apply Chg.drewN | refine Chg.alloc ?_ _))) _ c.n (Chg.cell (show Up (w.alloc (.cells #[.int .i64 c.n, .slice A c.rs.length kk] 50)) _ from (by repeat (first | exact Chg.refl _ _ | apply Chg.drew | apply Chg.drewN | refine Chg.alloc ?_ _))) q0 id)).mono ?_
      rintro e w1 ⟨rfl, g1⟩
      have G1 := Lib.hid (show Up w w1 from Chg.trans (by repeat (first | exact Chg.refl _ _ | apply Chg.drew | apply Chg.drewN | refine Chg.alloc ?_ _)) g1)
      clear g1 q0 q1
      go_wp2
      go_ret
      exact ⟨by rw [HOK.out, E1.out, E2.out]; rfl, G1.out⟩
    · have E2 := Lib.hid (inB_no (n := (c.rs.length : Int)) (lo := 1) (hi := 8) (by omega))
      have HF := Lib.hid (show okCol c = false by rw [HOK.out, E1.out, E2.out]; rfl)
      clear h8
      by_cases hr1 : (c.rs.length : Int) < 1
      · have d1 : decide ((c.rs.length : Int) < 1) = true := decide_eq_true hr1
        clear hr8 hr1
        go_enter Try.func68, Try.ntmps68
        go_wp2_with fail
        refine (within_any c.n 1 8 _).mono ?_
        rintro e w' ⟨rfl, rfl⟩
        rw [E1.out]
        go_wp2
        go_ret
        exact ⟨by rw [HF.out]; rfl, (by repeat (first | exact Chg.refl _ _ | apply Chg.drew | apply Chg.drewN | refine Chg.alloc ?_ _))⟩
      · have d1 : decide ((c.rs.length : Int) < 1) = false := decide_eq_false hr1
        have d2 : decide ((c.rs.length : Int) > 8) = true := decide_eq_true (by omega)
        clear hr8 hr1
        go_enter Try.func68, Try.ntmps68
        go_wp2_with fail
        refine (within_any c.n 1 8 _).mono ?_
        rintro e w' ⟨rfl, rfl⟩
        rw [E1.out]
        go_wp2
        go_ret
        exact ⟨by rw [HF.out]; rfl, (by repeat (first | exact Chg.refl _ _ | apply Chg.drew | apply Chg.drewN | refine Chg.alloc ?_ _))⟩
  · have E1 := Lib.hid (inB_no (n := c.n) (lo := 1) (hi := 8) (by omega))
    have HF := Lib.hid (show okCol c = false by rw [HOK.out, E1.out]; rfl)
    clear h8
    go_enter Try.func68, Try.ntmps68
    go_wp2_with fail
    refine (within_any c.n 1 8 _).mono ?_
    rintro e w' ⟨rfl, rfl⟩
    rw [E1.out]
    go_wp2
    go_ret
    exact ⟨by rw [HF.out]; rfl, (by repeat (first | exact Chg.refl _ _ | apply Chg.drew | apply Chg.drewN | refine Chg.alloc ?_ _))⟩
theorem l19Ok_any (w : World) (M H L : Nat → Prop) (bc : Nat) (c : ColM) (A : Option Addr) (kk : Nat) (q0 : w.cell? ⟨bc, 0, none⟩ = some (.int .i64 c.n)) (q1 : w.cell? ⟨bc, 1, none⟩ = some (.slice A c.rs.length kk)) (h0 : IntSSV w M H L (.slice A c.rs.length kk) c.rs) (hlk : c.rs.length ≤ kk ∧ kk ≤ 9223372036854775807) :
    Calls Try.prog 66 #[.pointer (some ⟨bc, 0, none⟩)] w fun e w' => e = .returned (.bool (okCol c)) ∧ Up w w' := by
  obtain ⟨hlk, hkm⟩ := hlk
  have H0 := Lib.hid h0
  have Q0 := Lib.hid q0
  have Q1 := Lib.hid q1
  have hbl := World.block_lt_of_cell? w _ q0
  clear h0
  have HOK := Lib.hid (show okCol c = ((inB c.n 1 8 && inB c.rs.length 1 8) && !c.rs.any (badLine c.n)) by unfold okCol; rw [okCol_bad])
  by_cases h8 : 1 ≤ c.n ∧ c.n ≤ 8
  rotate_left
  · have E1 := Lib.hid (inB_no (n := c.n) (lo := 1) (hi := 8) (by omega))
    have HF := Lib.hid (show okCol c = false by rw [HOK.out, E1.out]; rfl)
    clear h8
    go_enter Try.func66, Try.ntmps66
    go_wp2_with fail
    refine (l00In_any c.n 1 8 _).mono ?_
    rintro e w' ⟨rfl, rfl⟩
    rw [E1.out]
    go_wp2
    go_ret
    exact ⟨by rw [HF.out]; rfl, (by repeat (first | exact Chg.refl _ _ | apply Chg.drew | apply Chg.drewN | refine Chg.alloc ?_ _))⟩
  have E1 := Lib.hid (inB_yes h8)
  have H8 := Lib.hid h8
  by_cases hr8 : 1 ≤ (c.rs.length : Int) ∧ (c.rs.length : Int) ≤ 8
  rotate_left
  · have E2 := Lib.hid (inB_no (n := (c.rs.length : Int)) (lo := 1) (hi := 8) (by omega))
    have HF := Lib.hid (show okCol c = false by rw [HOK.out, E1.out, E2.out]; rfl)
    clear h8 hr8
    go_enter Try.func66, Try.ntmps66
    go_wp2_with fail
    refine (l00In_any c.n 1 8 _).mono ?_
    rintro e w' ⟨rfl, rfl⟩
    rw [E1.out]
    go_wp2_with fail
    refine (l00In_any c.rs.length 1 8 _).mono ?_
    rintro e w' ⟨rfl, rfl⟩
    rw [E2.out]
    go_wp2
    go_ret
    exact ⟨by rw [HF.out]; rfl, (by repeat (first | exact Chg.refl _ _ | apply Chg.drew | apply Chg.drewN | refine Chg.alloc ?_ _))⟩
  have E2 := Lib.hid (inB_yes hr8)
  have hrl : c.rs.length ≤ 8 := by omega
  clear h8 hr8
  go_enter Try.func66, Try.ntmps66
  go_wp2_with fail
  refine (l00In_any c.n 1 8 _).mono ?_
  rintro e w' ⟨rfl, rfl⟩
  rw [E1.out]
  go_wp2_with fail
  refine (l00In_any c.rs.length 1 8 _).mono ?_
  rintro e w' ⟨rfl, rfl⟩
  rw [E2.out]
  go_wp2
  go_loopw [3, 4] (fun i _ wr => ∃ j : Nat, j ≤ c.rs.length ∧ i = .int .i64 j ∧ Hid (NoneTo (badLine c.n) c.rs j) ∧ Hid (Up w wr)) (fun i _ _ => c.rs.length - (intOf i).toNat)
  case atStart => exact ⟨0, by omega, rfl, NoneTo.start _ _, (by repeat (first | exact Chg.refl _ _ | apply Chg.drew | apply Chg.drewN | refine Chg.alloc ?_ _))⟩
  clear q0 q1
  case round =>
    obtain ⟨j, hj, rfl, hs, hu⟩ := hrel
    have q0 := Chg.cell hu.out Q0.out id
    have q1 := Chg.cell hu.out Q1.out id
    by_cases hlt : j < c.rs.length
    · obtain ⟨b, o, k1, vs, he, -, -, -, hE, hc⟩ := (H0.out.up hu.out).at_ hlt
      obtain ⟨rfl, rfl⟩ : A = some ⟨b, o, none⟩ ∧ kk = k1 := by simpa using he
      obtain ⟨A3, k3, rfl, hv, hk3, hk3m⟩ := hE
      have f0 := (hc 0 _ rfl).1
      simp only [Nat.mul_one, Nat.add_zero] at f0
      obtain ⟨row, hrow⟩ : ∃ row, row = c.rs[j] := ⟨_, rfl⟩
      rw [← hrow] at hv hk3 f0
      have HRW := Lib.hid hrow
      have HV := Lib.hid hv
      have F0 := Lib.hid f0
      clear hc he hv hrow
      by_cases hl : (row.length : Int) = c.n
      rotate_left
      · have hq : ((row.length : Int) != c.n) = true := by simpa using hl
        have HF := Lib.hid (show okCol c = false by rw [HOK.out, any_at hlt (show badLine c.n c.rs[j] = true by rw [← HRW.out]; unfold badLine; rw [decide_eq_true hl]; rfl)]; simp)
        clear hl
        go_wp2_with fail
        go_quiet (fail)
        go_wp2
        go_ret
        exact ⟨by rw [HF.out]; rfl, Chg.trans hu.out (by repeat (first | exact Chg.refl _ _ | apply Chg.drew | apply Chg.drewN | refine Chg.alloc ?_ _))⟩
      have hq : ((row.length : Int) != c.n) = false := by simp [hl]
      have HL := Lib.hid hl
      have hrn : row.length ≤ 8 := by have := H8.out; omega
      clear hl
      go_wp2_with fail
      go_quiet (fail)
      go_wp2
      clear f0 q0 q1 hq
      go_loopw [4] (fun i wx => ∃ m : Nat, m ≤ row.length ∧ i = .int .i64 m ∧ Hid (NoneTo badCar row m) ∧ Hid (Up wr wx)) (fun i _ => row.length - (intOf i).toNat)
      case atStart => exact ⟨0, by omega, rfl, NoneTo.start _ _, (by repeat (first | exact Chg.refl _ _ | apply Chg.drew | apply Chg.drewN | refine Chg.alloc ?_ _))⟩
      case round =>
        obtain ⟨m, hm, rfl, hn, hux⟩ := hrel
        have q1 := Chg.cell (Chg.trans hu.out hux.out) Q1.out id
        have f0 := Chg.cell hux.out F0.out id
        by_cases hml : m < row.length
        · obtain ⟨b2, o2, rfl, -, hc⟩ := ints_ixf (HV.out.up hux.out) hml
          have g0 := (hc m hml).1
          rw [ix_eq hml] at g0
          clear hc
          cases hk : carB row[m] with
          | false =>
            have HK := Lib.hid hk
            have HF := Lib.hid (show okCol c = false by rw [HOK.out, any_at hlt (show badLine c.n c.rs[j] = true by rw [← HRW.out]; unfold badLine; rw [any_at hml (show badCar row[m] = true by unfold badCar; rw [hk]; rfl), Bool.or_true])]; simp)
            clear hk
            go_wp2_with fail
            refine (l07Yarn_any row[m] _).mono ?_
            rintro e w' ⟨rfl, rfl⟩
            rw [HK.out]
            go_wp2
            go_ret
            exact ⟨by rw [HF.out]; rfl, Chg.trans hu.out (Chg.trans hux.out (by repeat (first | exact Chg.refl _ _ | apply Chg.drew | apply Chg.drewN | refine Chg.alloc ?_ _)))⟩
          | true =>
            have HK := Lib.hid hk
            clear hk
            go_wp2_with fail
            refine (l07Yarn_any row[m] _).mono ?_
            rintro e w' ⟨rfl, rfl⟩
            rw [HK.out]
            go_wp2
            go_roundw
            case rel => exact ⟨m + 1, by omega, by go_num, Lib.hid (hn.out.next hml (by unfold badCar; rw [HK.out]; rfl)), Lib.hid (Chg.trans hux.out (by repeat (first | exact Chg.refl _ _ | apply Chg.drew | apply Chg.drewN | refine Chg.alloc ?_ _)))⟩
            case measure => first | (simp [intOf]; done) | (simp [intOf]; omega)
        · obtain rfl : m = row.length := by omega
          have HB := Lib.hid (show badLine c.n c.rs[j] = false by rw [← HRW.out]; unfold badLine; rw [hn.out.all, decide_eq_false (fun h => h HL.out)]; rfl)
          go_wp2
          go_roundw
          case rel => exact ⟨j + 1, by omega, by go_num, Lib.hid (hs.out.next hlt HB.out), Lib.hid (Chg.trans hu.out (Chg.trans hux.out (by repeat (first | exact Chg.refl _ _ | apply Chg.drew | apply Chg.drewN | refine Chg.alloc ?_ _))))⟩
          case measure => first | (simp [intOf]; done) | (simp [intOf]; omega)
    · obtain rfl : j = c.rs.length := by omega
      have HF := Lib.hid (show okCol c = true by rw [HOK.out, E1.out, E2.out, hs.out.all]; rfl)
      go_wp2
      go_ret
      exact ⟨by rw [HF.out]; rfl, Chg.trans hu.out (by repeat (first | exact Chg.refl _ _ | apply Chg.drew | apply Chg.drewN | refine Chg.alloc ?_ _))⟩
theorem idxInt_any (w : World) (S : Nat → Prop) (v : Value) (xs : List Int) (x : Int) (h : Ints w S v xs) : Calls Try.prog 145 #[v, .int .i64 x] w (SignP (decide (x ∈ xs)) w) := by
  obtain ⟨A, c, rfl, hlc, hcm, -⟩ := h.shape
  have H := Lib.hid h
  clear h
  go_enter Try.func145, Try.ntmps145
  go_wp2
  go_loopw [5, 8] (fun _ i wr => ∃ j : Nat, j ≤ xs.length ∧ i = .int .i64 j ∧ Hid (x ∉ xs.take j) ∧ Hid (Up w wr)) (fun _ i _ => xs.length - (intOf i).toNat)
  case atStart => exact ⟨0, by omega, rfl, Lib.hid (by simp), Chg.refl _ _⟩
  case round =>
    obtain ⟨j, hj, rfl, hs, hu⟩ := hrel
    by_cases hlt : j < xs.length
    · obtain ⟨b, o, rfl, -, hc⟩ := ints_ixf (H.out.up hu.out) hlt
      have q0 := (hc j hlt).1
      rw [ix_eq hlt] at q0
      clear hc
      by_cases hx : xs[j] = x
      · have hq : (x == xs[j]) = true := by rw [hx]; simp
        have HM := Lib.hid (show decide (x ∈ xs) = true from decide_eq_true (hx ▸ List.getElem_mem hlt))
        clear hx
        go_wp2
        go_ret
        exact ⟨j, by rw [HM.out]; exact decide_eq_true (by omega), rfl, Chg.trans hu.out (by repeat (first | exact Chg.refl _ _ | apply Chg.drew | apply Chg.drewN | refine Chg.alloc ?_ _))⟩
      · have hq : (x == xs[j]) = false := by simpa using fun h => hx h.symm
        have HX := Lib.hid hx
        clear hx
        go_wp2
        go_roundw
        case rel => exact ⟨j + 1, by omega, by go_num, Lib.hid (by rw [List.take_succ_eq_append_getElem hlt, List.mem_append]; intro h; rcases h with h | h; exact hs.out h; exact HX.out (List.mem_singleton.1 h).symm), Lib.hid (Chg.trans hu.out (by repeat (first | exact Chg.refl _ _ | apply Chg.drew | apply Chg.drewN | refine Chg.alloc ?_ _)))⟩
        case measure => first | (simp [intOf]; done) | (simp [intOf]; omega)
    · obtain rfl : j = xs.length := by omega
      have HM := Lib.hid (show decide (x ∈ xs) = false from decide_eq_false (by have := hs.out; rwa [List.take_length] at this))
      go_wp2
      go_ret
      exact ⟨-1, by rw [HM.out]; exact decide_eq_false (by omega), rfl, Chg.trans hu.out (by repeat (first | exact Chg.refl _ _ | apply Chg.drew | apply Chg.drewN | refine Chg.alloc ?_ _))⟩
theorem hasInt_any (w : World) (S : Nat → Prop) (v : Value) (xs : List Int) (x : Int) (h : Ints w S v xs) : Calls Try.prog 89 #[v, .int .i64 x] w fun e w' => e = .returned (.bool (decide (x ∈ xs))) ∧ Up w w' := by
  obtain ⟨A, c, rfl, hlc, hcm, -⟩ := h.shape
  have H := Lib.hid h
  clear h
  go_enter Try.func89, Try.ntmps89
  go_wp2_with fail
  refine (idxInt_any _ S _ xs x H.out).mono ?_
  rintro e w1 ⟨n, hn, rfl, g1⟩
  have HN := Lib.hid hn
  have G1 := Lib.hid g1
  clear hn g1
  go_wp2
  go_ret
  exact ⟨by rw [← HN.out]; rfl, G1.out⟩
theorem l00HasU_any (w : World) (S : Nat → Prop) (v : Value) (xs : List Int) (x : Int) (h : Ints w S v xs) : Calls Try.prog 107 #[v, .int .i64 x] w fun e w' => e = .returned (.bool (decide (x ∈ xs))) ∧ Up w w' := by
  obtain ⟨A, c, rfl, hlc, hcm, -⟩ := h.shape
  have H := Lib.hid h
  clear h
  go_enter Try.func107, Try.ntmps107
  go_wp2
  go_loopw [5] (fun i wr => ∃ j : Nat, j ≤ xs.length ∧ i = .int .i64 j ∧ Hid (x ∉ xs.take j) ∧ Hid (Up w wr)) (fun i _ => xs.length - (intOf i).toNat)
  case atStart => exact ⟨0, by omega, rfl, Lib.hid (by simp), Chg.refl _ _⟩
  case round =>
    obtain ⟨j, hj, rfl, hs, hu⟩ := hrel
    by_cases hlt : j < xs.length
    · obtain ⟨b, o, rfl, -, hc⟩ := ints_ixf (H.out.up hu.out) hlt
      have q0 := (hc j hlt).1
      rw [ix_eq hlt] at q0
      clear hc
      by_cases hx : xs[j] = x
      · have hq : (xs[j] == x) = true := by rw [hx]; simp
        have HM := Lib.hid (show decide (x ∈ xs) = true from decide_eq_true (hx ▸ List.getElem_mem hlt))
        clear hx
        go_wp2
        go_ret
        exact ⟨by rw [HM.out]; rfl, Chg.trans hu.out (by repeat (first | exact Chg.refl _ _ | apply Chg.drew | apply Chg.drewN | refine Chg.alloc ?_ _))⟩
      · have hq : (xs[j] == x) = false := by simpa using hx
        have HX := Lib.hid hx
        clear hx
        go_wp2
        go_roundw
        case rel => exact ⟨j + 1, by omega, by go_num, Lib.hid (by rw [List.take_succ_eq_append_getElem hlt, List.mem_append]; intro h; rcases h with h | h; exact hs.out h; exact HX.out (List.mem_singleton.1 h).symm), Lib.hid (Chg.trans hu.out (by repeat (first | exact Chg.refl _ _ | apply Chg.drew | apply Chg.drewN | refine Chg.alloc ?_ _)))⟩
        case measure => first | (simp [intOf]; done) | (simp [intOf]; omega)
    · obtain rfl : j = xs.length := by omega
      have HM := Lib.hid (show decide (x ∈ xs) = false from decide_eq_false (by have := hs.out; rwa [List.take_length] at this))
      go_wp2
      go_ret
      exact ⟨by rw [HM.out]; rfl, Chg.trans hu.out (by repeat (first | exact Chg.refl _ _ | apply Chg.drew | apply Chg.drewN | refine Chg.alloc ?_ _))⟩
end Go.Proofs.Ytchfjglofmphfaa
end
section
namespace Go.Proofs.Ytchfjglofmphfaa
open Go.ChangeShapes Go.WideShapes Go.ChangeAt Go.RowKit
set_option linter.unusedSimpArgs false
set_option linter.unusedVariables false
set_option maxRecDepth 100000
set_option maxHeartbeats 400000
theorem okR_1 {st : List Int} {r : RowM} (h : rowB r.d r.c r.xs = false) : okR st r = false := by unfold okR; rw [h]; rfl
theorem okR_2 {st : List Int} {r : RowM} (h : ¬ saC st r.xs = 0) : okR st r = false := by unfold okR; rw [decide_eq_false h, Bool.false_and, Bool.and_false]
theorem okR_3 {st : List Int} {r : RowM} (h : rowB r.d r.c r.xs = true) (h2 : saC st r.xs = 0) : okR st r = thinB r.d st r.xs := by unfold okR; rw [h, decide_eq_true h2]; simp
def resL (n : Int) (rs : List RowM) : List (List Int) := if okC n rs rs.length then outC n rs rs.length else []
theorem resL_no {n : Int} {rs : List RowM} (h : okC n rs rs.length = false) : resL n rs = [] := by unfold resL; rw [h]; rfl
theorem resL_yes {n : Int} {rs : List RowM} (h : okC n rs rs.length = true) : resL n rs = outC n rs rs.length := by unfold resL; rw [h]; rfl
theorem allStacks_yes (w : World) (S : Nat → Prop) (A : Option Addr) (k m : Nat) (rs : List RowM) (hr : RowsV w S (.slice A rs.length k) rs) (hlk : rs.length ≤ k) (hkm : k ≤ 9223372036854775807) (hm : 1 ≤ m ∧ m ≤ 8) (hl : 1 ≤ rs.length ∧ rs.length ≤ 8) :
    Calls Try.prog 174 #[.agg #[.int .i64 (m : Int), .slice A rs.length k]] w fun e w' => ∃ v', e = .returned (.tuple #[v', .bool (okC m rs rs.length)]) ∧ IntSS w' (New w.heap.size w'.heap.size) v' (resL m rs) ∧ Up w w' := by
  have HR0 := Lib.hid (hr.mono (T := fun b => b < w.heap.size) fun _ h _ => h)
  have U0 := Lib.hid ((Chg.refl Nowhere w).alloc (.cells #[.int .i64 (m : Int), .slice A rs.length k] 47))
  have HW := Lib.hid (fun w => by have := within_any (m : Int) 1 8 w; rw [inB_yes (by omega)] at this; exact this)
  have t1 : decide ((rs.length : Int) < 1) = false := decide_eq_false (by omega)
  have t2 : decide ((8 : Int) < (rs.length : Int)) = false := decide_eq_false (by omega)
  have HM := Lib.hid hm
  have hlit := lit1 (w.alloc (.cells #[.int .i64 (m : Int), .slice A rs.length k] 47)) 1 (by unfold I64; omega) (w.heap.size + 1) (by simp)
  rw [World.size_alloc w] at hlit
  have HLIT := Lib.hid hlit
  clear hr hlit
  go_enter Try.func174, Try.ntmps174
  go_wp2_with fail
  refine (HW.out _).mono ?_
  rintro e w' ⟨rfl, rfl⟩
  go_wp2_with fail
  with_reducible refine (repeat_any _ _ _ HLIT.out m HM.out).mono ?_
  rintro e w2 ⟨v2, rfl, k2, g2⟩
  obtain ⟨A2, c2, rfl, hl2, hc2, -⟩ := k2.shape
  have K2 := Lib.hid k2
  have U2 := Lib.hid (Chg.trans (U0.out.alloc (.cells #[.int .i64 1] 2)) g2)
  have hz2 : w.heap.size + 1 ≤ w2.heap.size := by have h1 := g2.size; rw [World.size_alloc, World.size_alloc] at h1; omega
  have HZ2 := Lib.hid hz2
  have b1 : w2.cell? ⟨w.heap.size, 1, none⟩ = some (.slice A rs.length k) := Chg.cell (Chg.trans ((Chg.refl Nowhere _).alloc (.cells #[.int .i64 1] 2)) g2) (cell_new _ _ _ _) id
  have b2 := Chg.cell ((Chg.refl Nowhere w2).alloc (.cells #[] 25)) b1 id
  have hk2 := (k2.mono (T := fun _ => True) fun _ _ _ => trivial).up ((Chg.refl _ _).alloc (.cells #[] 25))
  rw [List.length_replicate] at hk2
  have e0 : List.replicate m (1 : Int) = atS m rs 0 := by unfold atS; rw [Int.toNat_natCast]
  rw [e0] at hk2
  have HK2 := Lib.hid hk2
  clear k2 g2 hz2 hk2 e0
  go_wp2
  clear b1 b2
  go_loopw [4, 5, 34] (fun q r i wr => ∃ (j : Nat), j ≤ rs.length ∧ i = .int .i64 j ∧ Hid (Ints wr (fun _ => True) q (atS m rs j)) ∧ Hid (OwnSS wr (w.heap.size + 1) r (outC m rs j)) ∧ Hid (okC m rs j = true) ∧ Hid (Up w wr) ∧ Hid (w.heap.size + 1 ≤ wr.heap.size)) (fun _ _ i _ => rs.length - (intOf i).toNat)
  case atStart =>
    refine ⟨0, by omega, rfl, ?_, OwnSS.made _ _ HZ2.out, rfl, U2.out.alloc _, Lib.hid (by have := HZ2.out; rw [World.size_alloc]; omega)⟩
    exact HK2.out
  case round =>
    obtain ⟨j, hj, rfl, hq, hr, hok, hu, hz⟩ := hrel
    by_cases hlt : j < rs.length
    · obtain ⟨b, o, rfl, hc⟩ := (HR0.out.up hu.out).at_ hlt
      have hrow := hc j hlt
      obtain ⟨⟨d, cr, ks⟩, HRJ⟩ : ∃ r, Hid (rs[j] = r) := ⟨_, Lib.hid rfl⟩
      obtain ⟨st, HST⟩ : ∃ st, Hid (atS m rs j = st) := ⟨_, Lib.hid rfl⟩
      have HOK : Hid (okC m rs (j + 1) = okR st ⟨d, cr, ks⟩) := Lib.hid (by rw [okC_succ, hok.out, HST.out, rowI_eq hlt, HRJ.out]; rfl)
      have HNX : Hid (atS m rs (j + 1) = saL st ks) := Lib.hid (by unfold atS; rw [HST.out, rowI_eq hlt, HRJ.out])
      have HOU : Hid (outC m rs (j + 1) = outC m rs j ++ [saL st ks]) := Lib.hid (by rw [outC_succ, HST.out, rowI_eq hlt, HRJ.out])
      have HBAD : Hid (okR st ⟨d, cr, ks⟩ = false → okC m rs rs.length = false) := Lib.hid (fun h => okC_false hlt (by rw [HST.out, rowI_eq hlt, HRJ.out]; exact h))
      have HLN := Lib.hid (show (outC m rs j).length ≤ 1099511627 by rw [outC_length]; omega)
      rw [HRJ.out] at hrow
      rw [HST.out] at hq
      obtain ⟨A3, c3, f1, f2, f3, hi3, hl3, hc3⟩ := hrow.open_
      obtain ⟨-, -, -, -, -, -, -, -, hd64, -⟩ := hrow
      have HI3 := Lib.hid hi3
      have HI64 := Lib.hid hd64
      obtain ⟨A4, c4, rfl, hl4, hc4, -⟩ := hq.out.shape
      obtain ⟨A5, c5, rfl, hl5, hc5, -⟩ := hr.out.ss.shape
      have HRV := Lib.hid (show RowV (wr.alloc (.cells #[.int .i64 d, .int .i64 cr, .slice A3 ks.length c3] 180)) _ (.agg #[.int .i64 d, .int .i64 cr, .slice A3 ks.length c3]) ⟨d, cr, ks⟩ from ⟨_, rfl, HI3.out.up ((Chg.refl Nowhere _).alloc _), HI64.out⟩)
      have B0 := Lib.hid (show Bx (wr.alloc (.cells #[.int .i64 d, .int .i64 cr, .slice A3 ks.length c3] 180)) wr.heap.size _ _ _ from box3 wr _ _ _ _)
      have UB := Lib.hid ((Chg.refl Nowhere wr).alloc (.cells #[.int .i64 d, .int .i64 cr, .slice A3 ks.length c3] 180))
      clear hc hd64 hi3
      go_wp2_with fail
      with_reducible refine (ValidRow_any _ _ _ _ HRV.out).mono ?_
      rintro e w3 ⟨rfl, g3⟩
      have G3 := Lib.hid (Chg.trans UB.out g3)
      have B3 := Lib.hid (B0.out.up g3)
      clear g3 f1 f2 f3
      cases hrb : rowB d cr ks with
      | false =>
        have HV := Lib.hid (HBAD.out (okR_1 hrb))
        go_wp2
        go_ret2
        rw [HV.out, resL_no HV.out]
        exact ⟨_, rfl, IntSS.nil _ _ 0 none (by omega), Chg.trans hu.out G3.out⟩
      | true =>
        have HRB := Lib.hid hrb
        obtain ⟨q1, q2, q3⟩ := B3.out
        clear hrb
        go_wp2_with fail
        with_reducible refine (StacksAfter_any _ _ _ _ _ st ks (hq.out.up G3.out) (HI3.out.up G3.out)).mono ?_
        rintro e w4 ⟨v4, rfl, k4, g4⟩
        obtain ⟨A6, c6, rfl, hl6, hc6, -⟩ := k4.shape
        have K4 := Lib.hid k4
        have G4 := Lib.hid (Chg.trans G3.out g4)
        have B4 := Lib.hid (B3.out.up g4)
        have z3 := Lib.hid G3.out.size
        clear k4 g4 q1 q2 q3
        by_cases hs0 : saC st ks = 0
        rotate_left
        · have HV := Lib.hid (HBAD.out (okR_2 (r := ⟨d, cr, ks⟩) hs0))
          have t3 : (saC st ks == 0) = false := by simpa using hs0
          have t4 : (saC st ks != 0) = true := by simpa using hs0
          clear hs0
          go_wp2
          go_ret2
          rw [HV.out, resL_no HV.out]
          exact ⟨_, rfl, IntSS.nil _ _ 0 none (by omega), Chg.trans hu.out G4.out⟩
        have HS0 := Lib.hid hs0
        have t4 : (saC st ks != 0) = false := by simpa using hs0
        have HO3 := Lib.hid (okR_3 (r := ⟨d, cr, ks⟩) HRB.out HS0.out)
        have HFT := Lib.hid (saC_fits hs0).1
        have HDR := Lib.hid (rowB_dir HRB.out).1
        obtain ⟨q1, q2, q3⟩ := B4.out
        clear hs0
        go_wp2_with fail
        with_reducible refine (keepsLimit_any _ _ _ _ d cr A3 c3 st ks (HI3.out.up G4.out) (hq.out.up G4.out) HFT.out HDR.out HI64.out.2).mono ?_
        rintro e w5 ⟨rfl, g5⟩
        have G5 := Lib.hid (Chg.trans G4.out g5)
        have K5 := Lib.hid (K4.out.up g5)
        clear g5 q1 q2 q3
        cases htb : thinB d st ks with
        | false =>
          have HV := Lib.hid (HBAD.out (HO3.out.trans htb))
          clear htb
          go_wp2
          go_ret2
          rw [HV.out, resL_no HV.out]
          exact ⟨_, rfl, IntSS.nil _ _ 0 none (by omega), Chg.trans hu.out G5.out⟩
        | true =>
          have HV := Lib.hid (HOK.out.trans (HO3.out.trans htb))
          clear htb
          have UA := Lib.hid (G5.out.alloc (.cells #[.slice A6 (saL st ks).length c6] 25))
          have KA := Lib.hid ((K5.out.up ((Chg.refl Nowhere _).alloc (.cells #[.slice A6 (saL st ks).length c6] 25))).mono (T := New wr.heap.size (w5.alloc (.cells #[.slice A6 (saL st ks).length c6] 25)).heap.size) (fun b h1 hb => ⟨by have := hb.1; have := z3.out; omega, h1⟩))
          go_wp2_with (first | (at_builtin; refine wp_append_ss2 rfl _ _ rfl (w.heap.size + 1) wr _ (outC m rs j) rfl hr.out UA.out _ _ (saL st ks) rfl (cell_new _ _ _ _) KA.out HLN.out hz.out ?_; intro v9 w9 ho9 hg9; have HO9 := Lib.hid ho9; have HG9 := Lib.hid hg9; clear ho9 hg9))
          go_roundw
          case rel =>
            have hj2 := (KA.out.keep HG9.out (fun b h1 h2 h9 => by have := h2.1; have := h9.2; omega)).mono (T := fun _ => True) (fun _ _ _ => trivial)
            rw [← HOU.out] at HO9
            exact ⟨j + 1, by omega, by go_num, Lib.hid (by rw [HNX.out]; exact hj2), HO9, HV, Lib.hid (Chg.new (Chg.trans hu.out UA.out) HG9.out (fun i hi h => by have h := h.1; omega)), Lib.hid (by have h1 := HG9.out.size; have h2 := UA.out.size; have h3 := hz.out; omega)⟩
          case measure => first | (simp [intOf]; done) | (simp [intOf]; omega)
    · obtain rfl : j = rs.length := by omega
      go_wp2
      go_ret2
      rw [hok.out, resL_yes hok.out]
      refine ⟨_, rfl, (hr.out.ss).mono (fun b hb => ⟨by have := hb.1; omega, hb.2⟩), hu.out⟩
theorem allStacks_any (w : World) (S : Nat → Prop) (v : Value) (c : ChartM) (h : ChartV w S v c) :
    Calls Try.prog 174 #[v] w fun e w' => ∃ v', e = .returned (.tuple #[v', .bool (chartB c)]) ∧ IntSS w' (New w.heap.size w'.heap.size) v' (chartL c) ∧ Up w w' := by
  obtain ⟨A, k, rfl, hr, hlk, hkm, hI⟩ := h.shape
  have HR0 := Lib.hid (hr.mono (T := fun b => b < w.heap.size) fun _ h _ => h)
  have HI := Lib.hid hI
  have U0 := Lib.hid ((Chg.refl Nowhere w).alloc (.cells #[.int .i64 c.n, .slice A c.rs.length k] 47))
  have HR := Lib.hid (HR0.out.up U0.out)
  clear h hr hI
  cases h1 : inB c.n 1 8 with
  | false =>
    have HV := Lib.hid (chart_no (c := c) (by unfold sizeB; rw [h1]; rfl))
    have HW := Lib.hid (fun w => by have := within_any c.n 1 8 w; rw [h1] at this; exact this)
    clear h1
    go_enter Try.func174, Try.ntmps174
    go_wp2_with fail
    refine (HW.out _).mono ?_
    rintro e w' ⟨rfl, rfl⟩
    go_wp2
    go_ret2
    rw [HV.out.1, HV.out.2]
    exact ⟨_, rfl, IntSS.nil _ _ 0 none (by omega), U0.out⟩
  | true =>
    have HW := Lib.hid (fun w => by have := within_any c.n 1 8 w; rw [h1] at this; exact this)
    by_cases h2 : c.rs.length < 1
    · have HV := Lib.hid (chart_no (c := c) (by unfold sizeB inB; rw [decide_eq_false (p := 1 ≤ (c.rs.length : Int) ∧ _) (by omega), Bool.and_false]))
      have t1 : decide ((c.rs.length : Int) < 1) = true := decide_eq_true (by omega)
      clear h1
      go_enter Try.func174, Try.ntmps174
      go_wp2_with fail
      refine (HW.out _).mono ?_
      rintro e w' ⟨rfl, rfl⟩
      go_wp2
      go_ret2
      rw [HV.out.1, HV.out.2]
      exact ⟨_, rfl, IntSS.nil _ _ 0 none (by omega), U0.out⟩
    by_cases h3 : 8 < c.rs.length
    · have HV := Lib.hid (chart_no (c := c) (by unfold sizeB inB; rw [decide_eq_false (p := 1 ≤ (c.rs.length : Int) ∧ _) (by omega), Bool.and_false]))
      have t1 : decide ((c.rs.length : Int) < 1) = false := decide_eq_false (by omega)
      have t2 : decide ((8 : Int) < (c.rs.length : Int)) = true := decide_eq_true (by omega)
      clear h1
      go_enter Try.func174, Try.ntmps174
      go_wp2_with fail
      refine (HW.out _).mono ?_
      rintro e w' ⟨rfl, rfl⟩
      go_wp2
      go_ret2
      rw [HV.out.1, HV.out.2]
      exact ⟨_, rfl, IntSS.nil _ _ 0 none (by omega), U0.out⟩
    have HSZ : sizeB c = true := by unfold sizeB; rw [h1]; unfold inB; rw [decide_eq_true (p := 1 ≤ (c.rs.length : Int) ∧ _) (by omega)]; rfl
    have hn : 1 ≤ c.n ∧ c.n ≤ 8 := by unfold inB at h1; exact of_decide_eq_true h1
    have e1 : chartB c = okC c.n c.rs c.rs.length := by unfold chartB; rw [HSZ, Bool.true_and]
    have e2 : chartL c = resL c.n c.rs := by unfold chartL resL; rw [e1]
    rw [e1, e2]
    obtain ⟨m, hm⟩ : ∃ m : Nat, c.n = m := ⟨c.n.toNat, by omega⟩
    rw [hm] at hn ⊢
    exact allStacks_yes w _ A k m c.rs HR0.out hlk hkm (by omega) (by omega)
end Go.Proofs.Ytchfjglofmphfaa
end
section
set_option linter.unusedSimpArgs false
set_option linter.unusedVariables false
set_option maxRecDepth 100000
set_option maxHeartbeats 400000
namespace Go.Proofs.Ytchfjglofmphfaa
open Go.ChangeShapes Go.WideShapes Go.ChangeAt Go.RowKit
theorem saC_le8 {st ks : List Int} (h : saC st ks = 0) : (aftTo st ks ks.length).length ≤ 8 := by
  unfold saC at h
  cases hb : (stkB st && stB ks) with
  | false => rw [hb] at h; simp at h
  | true =>
    by_cases hs : sumF takenK ks = st.length
    · rw [hb, if_pos rfl, if_pos hs] at h
      cases h8 : decide ((aftTo st ks ks.length).length ≤ 8) with
      | true => exact of_decide_eq_true h8
      | false => rw [h8, Bool.and_false] at h; simp at h
    · rw [hb, if_pos rfl, if_neg hs] at h; omega
theorem l15Stacks_yes (w : World) (S : Nat → Prop) (pb po : Nat) (A : Option Addr) (k m : Nat) (rs : List RowM) (h0 : w.cell? ⟨pb, po, none⟩ = some (.int .i64 (m : Int))) (h1 : w.cell? ⟨pb, po + 1, none⟩ = some (.slice A rs.length k)) (hr : RowsV w S (.slice A rs.length k) rs) (hlk : rs.length ≤ k) (hkm : k ≤ 9223372036854775807) (hm : 1 ≤ m ∧ m ≤ 8) (hl : 1 ≤ rs.length ∧ rs.length ≤ 8) :
    Calls Try.prog 171 #[.pointer (some ⟨pb, po, none⟩)] w fun e w' => ∃ v', e = .returned (.tuple #[v', .bool (okC m rs rs.length)]) ∧ IntSS w' (New w.heap.size w'.heap.size) v' (resL m rs) ∧ Up w w' := by
  have HR0 := Lib.hid (hr.mono (T := fun b => b < w.heap.size) fun _ h _ => h)
  have H0 := Lib.hid h0
  have H1 := Lib.hid h1
  have HW := Lib.hid (fun w => l00In_yes (m : Int) 1 8 w (by omega))
  have HW2 := Lib.hid (fun w => l00In_yes (rs.length : Int) 1 8 w (by omega))
  have HM := Lib.hid hm
  clear hr
  go_enter Try.func171, Try.ntmps171
  go_wp2_with fail
  refine (HW.out _).mono ?_
  rintro e w' ⟨rfl, rfl⟩
  go_wp2_with fail
  refine (HW2.out _).mono ?_
  rintro e w' ⟨rfl, rfl⟩
  go_wp2
  clear h0 h1
  go_loopw [4] (fun q wr => ∃ (j : Nat), j ≤ m ∧ Hid (OwnI wr w.heap.size q (List.replicate j 1)) ∧ Hid (Up w wr)) (fun q _ => m - (match q with | .slice _ n _ => n | _ => 0))
  case atStart =>
    exact ⟨0, by omega, OwnI.made _ _ (Nat.le_refl _), Lib.hid ((Chg.refl _ _).alloc _)⟩
  case round =>
    obtain ⟨j, hj, hq, hu⟩ := hrel
    have p0 := Chg.cell hu.out H0.out id
    obtain ⟨A1, c1, rfl, hl1, hc1, -⟩ := hq.out.ints.shape
    rw [List.length_replicate] at hl1 hq ⊢
    have HU1 := Lib.hid hu.out.size
    by_cases hlt : j < m
    · have HQA := Lib.hid (hq.out.alloc (.cells #[.int .i64 1] 2))
      have HI1 : Hid (I64 1) := Lib.hid (by unfold I64; omega)
      have HLE : Hid ((List.replicate j (1 : Int)).length ≤ 1099511627776) := Lib.hid (by rw [List.length_replicate]; omega)
      have HBS : Hid (w.heap.size ≤ (wr.alloc (.cells #[.int .i64 1] 2)).heap.size) := Lib.hid (by rw [World.size_alloc]; have := HU1.out; omega)
      go_wp2_with (first | (at_builtin; refine wp_append_int2 rfl _ _ rfl w.heap.size _ (List.replicate j 1) rfl HQA.out _ 1 rfl (cell_new _ _ _ _) HI1.out HLE.out HBS.out ?_; intro v9 w9 ho9 _ _ hg9; rw [← List.replicate_succ'] at ho9; have HO9 := Lib.hid ho9; have HG9 := Lib.hid hg9; clear ho9 hg9))
      obtain ⟨A7, c7, rfl, hl7, hc7, -⟩ := HO9.out.ints.shape
      rw [List.length_replicate] at hl7
      go_roundw
      case rel => exact ⟨j + 1, by omega, HO9, Lib.hid (Chg.new (hu.out.alloc _) HG9.out (fun i hi h => by have h : w.heap.size ≤ i := h; omega))⟩
      case measure => simp; omega
    · have ejm : m = j := by omega
      subst ejm
      have p1 := Chg.cell hu.out H1.out id
      have p2 := Chg.cell ((Chg.refl Nowhere wr).alloc (.cells #[] 25)) p1 id
      have HK2 : Hid (Ints (wr.alloc (.cells #[] 25)) (fun _ => True) (.slice A1 m c1) (atS m rs 0)) := Lib.hid (by
        have h := (hq.out.ints.mono (T := fun _ => True) fun _ _ _ => trivial).up ((Chg.refl _ _).alloc (.cells #[] 25))
        have e0 : List.replicate m (1 : Int) = atS m rs 0 := by unfold atS; rw [Int.toNat_natCast]
        rw [e0] at h
        exact h)
      go_wp2
      clear p0 p1 p2
      have HUQ := Lib.hid (hu.out.alloc (.cells #[] 25))
      have HZQ : Hid (w.heap.size ≤ wr.heap.size) := Lib.hid HU1.out
      go_loopw [4, 5, 6] (fun q r i wr => ∃ (j : Nat), j ≤ rs.length ∧ i = .int .i64 j ∧ Hid (Ints wr (fun _ => True) q (atS m rs j)) ∧ Hid (OwnSS wr w.heap.size r (outC m rs j)) ∧ Hid (okC m rs j = true) ∧ Hid (Up w wr) ∧ Hid (w.heap.size ≤ wr.heap.size)) (fun _ _ i _ => rs.length - (intOf i).toNat)
      case atStart =>
        exact ⟨0, by omega, rfl, HK2, OwnSS.made _ _ HZQ.out, rfl, HUQ, Lib.hid (by have := HZQ.out; rw [World.size_alloc]; omega)⟩
      case round =>
        clear hq hu HU1 HUQ HZQ HK2
        obtain ⟨j, hj, rfl, hq, hr, hok, hu, hz⟩ := hrel
        have p0 := Chg.cell hu.out H0.out id
        have p1 := Chg.cell hu.out H1.out id
        obtain ⟨A5, c5, rfl, hl5, hc5, -⟩ := hr.out.ss.shape
        obtain ⟨A4, c4, rfl, hl4, hc4, -⟩ := hq.out.shape
        by_cases hlt : j < rs.length
        · obtain ⟨b, o, rfl, hc⟩ := (HR0.out.up hu.out).at_ hlt
          have hrow := hc j hlt
          obtain ⟨⟨d, cr, ks⟩, HRJ⟩ : ∃ r, Hid (rs[j] = r) := ⟨_, Lib.hid rfl⟩
          obtain ⟨st, HST⟩ : ∃ st, Hid (atS m rs j = st) := ⟨_, Lib.hid rfl⟩
          have HOK : Hid (okC m rs (j + 1) = okR st ⟨d, cr, ks⟩) := Lib.hid (by rw [okC_succ, hok.out, HST.out, rowI_eq hlt, HRJ.out]; rfl)
          have HNX : Hid (atS m rs (j + 1) = saL st ks) := Lib.hid (by unfold atS; rw [HST.out, rowI_eq hlt, HRJ.out])
          have HOU : Hid (outC m rs (j + 1) = outC m rs j ++ [saL st ks]) := Lib.hid (by rw [outC_succ, HST.out, rowI_eq hlt, HRJ.out])
          have HBAD : Hid (okR st ⟨d, cr, ks⟩ = false → okC m rs rs.length = false) := Lib.hid (fun h => okC_false hlt (by rw [HST.out, rowI_eq hlt, HRJ.out]; exact h))
          have HLN := Lib.hid (show (outC m rs j).length ≤ 1099511627 by rw [outC_length]; omega)
          rw [HRJ.out] at hrow
          rw [HST.out] at hq hl4 ⊢
          have HROW := Lib.hid hrow
          obtain ⟨A3, c3, f1, f2, f3, hi3, hl3, hc3⟩ := hrow.open_
          have HI3 := Lib.hid hi3
          clear hc hi3 f1 f2 hrow
          go_wp2_with fail
          with_reducible refine (l15Row_any _ _ _ _ _ HROW.out).mono ?_
          rintro e w3 ⟨rfl, rfl⟩
          cases hrb : rowB d cr ks with
          | false =>
            have HV := Lib.hid (HBAD.out (okR_1 hrb))
            go_wp2
            go_ret2
            rw [HV.out, resL_no HV.out]
            exact ⟨_, rfl, IntSS.nil _ _ 0 none (by omega), hu.out⟩
          | true =>
            have HRB := Lib.hid hrb
            clear hrb
            go_wp2_with fail
            with_reducible refine (sStacksAfter_any _ _ _ _ _ st ks hq.out HI3.out).mono ?_
            rintro e w4 ⟨v4, rfl, k4, g4⟩
            obtain ⟨A6, c6, rfl, hl6, hc6, -⟩ := k4.shape
            have K4 := Lib.hid k4
            have G4 := Lib.hid g4
            have p4 := Chg.cell g4 p1 id
            clear k4 g4 p0 p1 f3
            by_cases hs0 : saC st ks = 0
            rotate_left
            · have HV := Lib.hid (HBAD.out (okR_2 (r := ⟨d, cr, ks⟩) hs0))
              have t3 : (saC st ks == 0) = false := by simpa using hs0
              have t4 : (saC st ks != 0) = true := by simpa using hs0
              clear hs0
              go_wp2
              go_ret2
              rw [HV.out, resL_no HV.out]
              exact ⟨_, rfl, IntSS.nil _ _ 0 none (by omega), Chg.trans hu.out G4.out⟩
            have HS0 := Lib.hid hs0
            have t4 : (saC st ks != 0) = false := by simpa using hs0
            have HO3 := Lib.hid (okR_3 (r := ⟨d, cr, ks⟩) HRB.out HS0.out)
            have HFT := Lib.hid (saC_fits hs0).1
            have HSL := Lib.hid (saC_fits hs0).2
            have HL8 := Lib.hid (saC_le8 hs0)
            have HDR := Lib.hid (rowB_dir HRB.out).1
            have HQ := hq
            clear hs0
            rcases HDR.out with rfl | rfl
            · go_wp2_with fail
              with_reducible refine (l15ThinR_any _ _ _ _ _ _ st _ _ cr ks (HQ.out.up G4.out) (by rw [← HSL.out]; exact K4.out) (HROW.out.up G4.out) HFT.out HL8.out).mono ?_
              rintro e w5 ⟨rfl, g5⟩
              have G5 := Lib.hid (Chg.trans G4.out g5)
              have K5 := Lib.hid (K4.out.up g5)
              clear g5 p4
              cases htb : thinB 1 st ks with
              | false =>
                have HV := Lib.hid (HBAD.out (HO3.out.trans htb))
                clear htb
                go_wp2
                go_ret2
                rw [HV.out, resL_no HV.out]
                exact ⟨_, rfl, IntSS.nil _ _ 0 none (by omega), Chg.trans hu.out G5.out⟩
              | true =>
                have HV := Lib.hid (HOK.out.trans (HO3.out.trans htb))
                clear htb
                have UA := Lib.hid (G5.out.alloc (.cells #[.slice A6 (saL st ks).length c6] 25))
                have KA := Lib.hid ((K5.out.up ((Chg.refl Nowhere _).alloc (.cells #[.slice A6 (saL st ks).length c6] 25))).mono (T := New wr.heap.size (w5.alloc (.cells #[.slice A6 (saL st ks).length c6] 25)).heap.size) (fun b h1 hb => ⟨hb.1, h1⟩))
                go_wp2_with (first | (at_builtin; refine wp_append_ss2 rfl _ _ rfl w.heap.size wr _ (outC m rs j) rfl hr.out UA.out _ _ (saL st ks) rfl (cell_new _ _ _ _) KA.out HLN.out hz.out ?_; intro v9 w9 ho9 hg9; have HO9 := Lib.hid ho9; have HG9 := Lib.hid hg9; clear ho9 hg9))
                go_roundw
                case rel =>
                  have hj2 := (KA.out.keep HG9.out (fun b h1 h2 h9 => by have := h2.1; have := h9.2; omega)).mono (T := fun _ => True) (fun _ _ _ => trivial)
                  rw [← HOU.out] at HO9
                  exact ⟨j + 1, by omega, by go_num, Lib.hid (by rw [HNX.out]; exact hj2), HO9, HV, Lib.hid (Chg.new (Chg.trans hu.out UA.out) HG9.out (fun i hi h => by have h := h.1; omega)), Lib.hid (by have h1 := HG9.out.size; have h2 := UA.out.size; have h3 := hz.out; omega)⟩
                case measure => first | (simp [intOf]; done) | (simp [intOf]; omega)
            · go_wp2_with fail
              with_reducible refine (l15ThinL_any _ _ _ _ _ _ st _ _ cr ks (HQ.out.up G4.out) (by rw [← HSL.out]; exact K4.out) (HROW.out.up G4.out) HFT.out HL8.out).mono ?_
              rintro e w5 ⟨rfl, g5⟩
              have G5 := Lib.hid (Chg.trans G4.out g5)
              have K5 := Lib.hid (K4.out.up g5)
              clear g5 p4
              cases htb : thinB (-1) st ks with
              | false =>
                have HV := Lib.hid (HBAD.out (HO3.out.trans htb))
                clear htb
                go_wp2
                go_ret2
                rw [HV.out, resL_no HV.out]
                exact ⟨_, rfl, IntSS.nil _ _ 0 none (by omega), Chg.trans hu.out G5.out⟩
              | true =>
                have HV := Lib.hid (HOK.out.trans (HO3.out.trans htb))
                clear htb
                have UA := Lib.hid (G5.out.alloc (.cells #[.slice A6 (saL st ks).length c6] 25))
                have KA := Lib.hid ((K5.out.up ((Chg.refl Nowhere _).alloc (.cells #[.slice A6 (saL st ks).length c6] 25))).mono (T := New wr.heap.size (w5.alloc (.cells #[.slice A6 (saL st ks).length c6] 25)).heap.size) (fun b h1 hb => ⟨hb.1, h1⟩))
                go_wp2_with (first | (at_builtin; refine wp_append_ss2 rfl _ _ rfl w.heap.size wr _ (outC m rs j) rfl hr.out UA.out _ _ (saL st ks) rfl (cell_new _ _ _ _) KA.out HLN.out hz.out ?_; intro v9 w9 ho9 hg9; have HO9 := Lib.hid ho9; have HG9 := Lib.hid hg9; clear ho9 hg9))
                go_roundw
                case rel =>
                  have hj2 := (KA.out.keep HG9.out (fun b h1 h2 h9 => by have := h2.1; have := h9.2; omega)).mono (T := fun _ => True) (fun _ _ _ => trivial)
                  rw [← HOU.out] at HO9
                  exact ⟨j + 1, by omega, by go_num, Lib.hid (by rw [HNX.out]; exact hj2), HO9, HV, Lib.hid (Chg.new (Chg.trans hu.out UA.out) HG9.out (fun i hi h => by have h := h.1; omega)), Lib.hid (by have h1 := HG9.out.size; have h2 := UA.out.size; have h3 := hz.out; omega)⟩
                case measure => first | (simp [intOf]; done) | (simp [intOf]; omega)
        · obtain rfl : j = rs.length := by omega
          go_wp2
          go_ret2
          rw [hok.out, resL_yes hok.out]
          exact ⟨_, rfl, hr.out.ss, hu.out⟩
theorem l15Stacks_any (w : World) (S : Nat → Prop) (b o : Nat) (c : ChartM) (h : ChartAt w S b o c) :
    Calls Try.prog 171 #[.pointer (some ⟨b, o, none⟩)] w fun e w' => ∃ v', e = .returned (.tuple #[v', .bool (chartB c)]) ∧ IntSS w' (New w.heap.size w'.heap.size) v' (chartL c) ∧ Up w w' := by
  obtain ⟨A, k, h0, h1, hr, hlk, hkm, hI, hbl⟩ := h
  cases e1 : inB c.n 1 8 with
  | false =>
    have HV := Lib.hid (chart_no (c := c) (by unfold sizeB; rw [e1]; rfl))
    have HW := Lib.hid (fun w => by have := l00In_any c.n 1 8 w; rw [e1] at this; exact this)
    clear e1
    go_enter Try.func171, Try.ntmps171
    go_wp2_with fail
    refine (HW.out _).mono ?_
    rintro e w' ⟨rfl, rfl⟩
    go_wp2
    go_ret2
    rw [HV.out.1, HV.out.2]
    exact ⟨_, rfl, IntSS.nil _ _ 0 none (by omega), Chg.refl _ _⟩
  | true =>
    cases e2 : inB c.rs.length 1 8 with
    | false =>
      have HV := Lib.hid (chart_no (c := c) (by unfold sizeB; rw [e2, Bool.and_false]))
      have HW := Lib.hid (fun w => by have := l00In_any c.n 1 8 w; rw [e1] at this; exact this)
      have HW2 := Lib.hid (fun w => by have := l00In_any c.rs.length 1 8 w; rw [e2] at this; exact this)
      clear e1 e2
      go_enter Try.func171, Try.ntmps171
      go_wp2_with fail
      refine (HW.out _).mono ?_
      rintro e w' ⟨rfl, rfl⟩
      go_wp2_with fail
      refine (HW2.out _).mono ?_
      rintro e w' ⟨rfl, rfl⟩
      go_wp2
      go_ret2
      rw [HV.out.1, HV.out.2]
      exact ⟨_, rfl, IntSS.nil _ _ 0 none (by omega), Chg.refl _ _⟩
    | true =>
      have HSZ : sizeB c = true := by unfold sizeB; rw [e1, e2]; rfl
      have hn : 1 ≤ c.n ∧ c.n ≤ 8 := by unfold inB at e1; exact of_decide_eq_true e1
      have hl : 1 ≤ (c.rs.length : Int) ∧ (c.rs.length : Int) ≤ 8 := by unfold inB at e2; exact of_decide_eq_true e2
      have q1 : chartB c = okC c.n c.rs c.rs.length := by unfold chartB; rw [HSZ, Bool.true_and]
      have q2 : chartL c = resL c.n c.rs := by unfold chartL resL; rw [q1]
      rw [q1, q2]
      obtain ⟨m, hm⟩ : ∃ m : Nat, c.n = m := ⟨c.n.toNat, by omega⟩
      rw [hm] at hn h0 ⊢
      exact l15Stacks_yes w _ b o A k m c.rs h0 h1 hr hlk hkm (by omega) (by omega)
end Go.Proofs.Ytchfjglofmphfaa
end
section
set_option linter.unusedSimpArgs false
set_option linter.unusedVariables false
set_option maxRecDepth 100000
set_option maxHeartbeats 400000
namespace Go.Proofs.Ytchfjglofmphfaa
open Go.ChangeShapes Go.WideShapes Go.ChangeAt Go.RowKit
theorem ChartV.box {w : World} {S : Nat → Prop} {A : Option Addr} {k : Nat} {c : ChartM} (h : ChartV w S (.agg #[.int .i64 c.n, .slice A c.rs.length k]) c) : ChartAt (w.alloc (.cells #[.int .i64 c.n, .slice A c.rs.length k] 47)) S w.heap.size 0 c := by
  obtain ⟨s, h1, h2, h3⟩ := h
  obtain rfl : .slice A c.rs.length k = s := by simpa using h1
  obtain ⟨A', k', he, h4, h5, _⟩ := h2.shape
  obtain ⟨rfl, rfl⟩ : A = A' ∧ k = k' := by simpa using he
  exact ⟨A, k, cell_new _ _ _ _, cell_new _ _ _ _, h2.up ((Chg.refl _ _).alloc _), h4, h5, h3, by simp⟩
theorem ChartV.up {w w' : World} {S : Nat → Prop} {v : Value} {c : ChartM} (h : ChartV w S v c) (g : Up w w') : ChartV w' S v c :=
  let ⟨s, h1, h2, h3⟩ := h; ⟨s, h1, h2.up g, h3⟩
theorem ValidChart_any (w : World) (S : Nat → Prop) (v : Value) (c : ChartM) (h : ChartV w S v c) :
    Calls Try.prog 126 #[v] w fun e w' => e = .returned (.bool (chartB c)) ∧ Up w w' := by
  obtain ⟨A, k, rfl, -⟩ := h.shape
  have U0 := Lib.hid ((Chg.refl Nowhere w).alloc (.cells #[.int .i64 c.n, .slice A c.rs.length k] 47))
  have H := Lib.hid (h.up U0.out)
  clear h
  go_enter Try.func126, Try.ntmps126
  go_wp2_with fail
  with_reducible refine (allStacks_any _ _ _ c H.out).mono ?_
  rintro e w1 ⟨v1, rfl, k1, g1⟩
  have G1 := Lib.hid (Chg.trans U0.out g1)
  clear k1 g1
  go_wp2
  go_ret
  exact ⟨by simp, G1.out⟩
theorem l15Ok_any (w : World) (S : Nat → Prop) (b o : Nat) (c : ChartM) (h : ChartAt w S b o c) :
    Calls Try.prog 121 #[.pointer (some ⟨b, o, none⟩)] w fun e w' => e = .returned (.bool (chartB c)) ∧ Up w w' := by
  have H := Lib.hid h
  clear h
  go_enter Try.func121, Try.ntmps121
  go_wp2_with fail
  with_reducible refine (l15Stacks_any _ _ _ _ c H.out).mono ?_
  rintro e w1 ⟨v1, rfl, k1, g1⟩
  have G1 := Lib.hid g1
  clear k1 g1
  go_wp2
  go_ret
  exact ⟨by simp, G1.out⟩
/-- the widest of the stacks -/
def mxTo (n : Int) (xss : List (List Int)) : Nat → Int
  | 0 => n
  | j + 1 => if mxTo n xss j > ((xss.getD j []).length : Int) then mxTo n xss j else (xss.getD j []).length
theorem saL_len (st ks : List Int) : (saL st ks).length ≤ 8 := by
  by_cases h : saC st ks = 0
  · rw [(saC_fits h).2]; exact saC_le8 h
  · unfold saL; rw [if_neg h]; simp
theorem chartL_len (c : ChartM) : (∀ xs ∈ chartL c, xs.length ≤ 8) ∧ (chartL c).length ≤ c.rs.length := by
  unfold chartL
  split
  · refine ⟨fun xs hx => ?_, by rw [outC_length]; omega⟩
    unfold outC at hx
    obtain ⟨i, _, rfl⟩ := List.mem_map.1 hx
    exact saL_len _ _
  · simp
theorem mxTo_bd {n : Int} {xss : List (List Int)} (hn : 1 ≤ n ∧ n ≤ 8) (hx : ∀ xs ∈ xss, xs.length ≤ 8) : ∀ j, j ≤ xss.length → 1 ≤ mxTo n xss j ∧ mxTo n xss j ≤ 8
  | 0, _ => hn
  | j + 1, h => by
    have ih := mxTo_bd hn hx j (by omega)
    have h8 := hx _ (List.getElem_mem (show j < xss.length by omega))
    have e : xss.getD j [] = xss[j] := by simp [show j < xss.length by omega]
    unfold mxTo
    rw [e]
    split <;> omega
def widM (c : ChartM) : Int := 2 * mxTo c.n (chartL c) (chartL c).length + 1
theorem chart_size {c : ChartM} (h : chartB c = true) : (1 ≤ c.n ∧ c.n ≤ 8) ∧ c.rs.length ≤ 8 := by
  unfold chartB sizeB inB at h
  rw [Bool.and_eq_true, Bool.and_eq_true] at h
  have h1 := of_decide_eq_true h.1.1
  have h2 := of_decide_eq_true h.1.2
  exact ⟨h1, by omega⟩
def widV (c : ChartM) : Int := if chartB c then widM c else 0
def widC (c : ChartM) : Int := if chartB c then 0 else 1
theorem wid_no {c : ChartM} (h : chartB c = false) : widV c = 0 ∧ widC c = 1 := by unfold widV widC; rw [h]; exact ⟨rfl, rfl⟩
theorem wid_yes {c : ChartM} (h : chartB c = true) : widV c = widM c ∧ widC c = 0 := by unfold widV widC; rw [h]; exact ⟨rfl, rfl⟩
end Go.Proofs.Ytchfjglofmphfaa
end
section
set_option linter.unusedSimpArgs false
set_option linter.unusedVariables false
set_option maxRecDepth 100000
set_option maxHeartbeats 400000
namespace Go.Proofs.Ytchfjglofmphfaa
open Go.ChangeShapes Go.WideShapes Go.ChangeAt Go.RowKit
theorem RowAt.val {w : World} {S : Nat → Prop} {b o : Nat} {r : RowM} (h : RowAt w S b o r) : ∃ A c, w.cell? ⟨b, o, none⟩ = some (.int .i64 r.d) ∧ w.cell? ⟨b, o + 1, none⟩ = some (.int .i64 r.c) ∧ w.cell? ⟨b, o + 2, none⟩ = some (.slice A r.xs.length c) ∧ RowV w S (.agg #[.int .i64 r.d, .int .i64 r.c, .slice A r.xs.length c]) r := by
  obtain ⟨A, c, h1, h2, h3, h4, h5, h6, h7, h8⟩ := h
  exact ⟨A, c, h1, h2, h3, _, rfl, h4, h7⟩
/-- the numbers in the first rows -/
def cntR (rs : List RowM) (j : Nat) : Nat := ((rs.take j).map fun r => r.xs.length).sum
theorem cntR_succ {rs : List RowM} {j : Nat} (h : j < rs.length) : cntR rs (j + 1) = cntR rs j + rs[j].xs.length := by
  unfold cntR
  rw [List.take_succ_eq_append_getElem h, List.map_append, List.sum_append]
  rfl
theorem cntR_le {rs : List RowM} {i j : Nat} (h : i ≤ j) : cntR rs i ≤ cntR rs j := by
  unfold cntR
  have e : (rs.take j) = (rs.take j).take i ++ (rs.take j).drop i := (List.take_append_drop i _).symm
  rw [List.take_take, Nat.min_eq_left h] at e
  rw [e]
  simp
def cntRs (rs : List RowM) : Nat := rs.length + cntR rs rs.length
end Go.Proofs.Ytchfjglofmphfaa
end
section
set_option linter.unusedSimpArgs false
set_option linter.unusedVariables false
set_option maxRecDepth 100000
set_option maxHeartbeats 1000000
namespace Go.Proofs.Ytchfjglofmphfaa
open Go.ChangeShapes Go.WideShapes Go.ChangeAt Go.RowKit
theorem Copying.grow {w : World} {b m n j : Nat} {cs : List Value} (h : Copying w b m n j cs) (hl : cs.length = j * m) (vs : List Value) : Copying w b m n j (cs ++ vs) := fun t ht => by
  obtain ⟨h1, h2, h3⟩ := h t ht
  refine ⟨h1, h2, fun hlt => ?_⟩
  rw [h3 hlt, List.getElem?_append_left (by omega)]
theorem Chg.setCellsAt {S : Nat → Prop} {a : World} {b : Nat} (hb : S b) : ∀ (vs : List Value) (o : Nat) {w : World}, Chg S a w → Chg S a (w.setCells b o vs)
  | [], _, _, h => h
  | v :: r, o, _, h => Chg.setCellsAt hb r (o + 1) (h.setCell (.inl hb) v)
/-- the rows that were copied so far -/
def RowsIn (w : World) (g : Nat) (cs : List Value) (rs : List RowM) (j : Nat) : Prop :=
  ∀ i (hi : i < rs.length), i < j → ∃ A c, cs[i * 3]? = some (.int .i64 rs[i].d) ∧ cs[i * 3 + 1]? = some (.int .i64 rs[i].c) ∧ cs[i * 3 + 2]? = some (.slice A rs[i].xs.length c) ∧ Ints w (fun b => g < b) (.slice A rs[i].xs.length c) rs[i].xs ∧ rs[i].xs.length ≤ c ∧ c ≤ 9223372036854775807
theorem RowsIn.keep {S : Nat → Prop} {w w' : World} {g : Nat} {cs : List Value} {rs : List RowM} {j : Nat} (h : RowsIn w g cs rs j) (k : Chg S w w') (hS : ∀ b, b < w.heap.size → g < b → ¬ S b) : RowsIn w' g cs rs j := fun i hi hij =>
  let ⟨A, c, h1, h2, h3, h4, h5⟩ := h i hi hij; ⟨A, c, h1, h2, h3, h4.keep k hS, h5⟩
theorem RowsIn.next {w : World} {g : Nat} {cs : List Value} {rs : List RowM} {j : Nat} (h : RowsIn w g cs rs j) (hl : cs.length = j * 3) (hj : j < rs.length) {A : Option Addr} {c : Nat} (hi : Ints w (fun b => g < b) (.slice A rs[j].xs.length c) rs[j].xs) (h1 : rs[j].xs.length ≤ c) (h2 : c ≤ 9223372036854775807) :
    RowsIn w g (cs ++ [.int .i64 rs[j].d, .int .i64 rs[j].c, .slice A rs[j].xs.length c]) rs (j + 1) := fun i hi' hij => by
  by_cases he : i < j
  · obtain ⟨A', c', k1, k2, k3, k4⟩ := h i hi' he
    exact ⟨A', c', by rw [List.getElem?_append_left (by omega)]; exact k1, by rw [List.getElem?_append_left (by omega)]; exact k2, by rw [List.getElem?_append_left (by omega)]; exact k3, k4⟩
  · obtain rfl : i = j := by omega
    exact ⟨A, c, by rw [List.getElem?_append_right (by omega), hl]; simp, by rw [List.getElem?_append_right (by omega), hl]; simp, by rw [List.getElem?_append_right (by omega), hl]; simp, hi, h1, h2⟩
theorem infoRows : (Try.prog.info? 180).map (fun i => (i.zero, i.size, i.bytes)) = some (some (.agg #[.int .i64 0, .int .i64 0, .slice none 0 0]), 3, 40) := by kernel_rfl
end Go.Proofs.Ytchfjglofmphfaa
end
section
set_option linter.unusedSimpArgs false
set_option linter.unusedVariables false
set_option maxRecDepth 100000
set_option maxHeartbeats 1000000
namespace Go.Proofs.Ytchfjglofmphfaa
open Go.ChangeShapes Go.WideShapes Go.ChangeAt Go.RowKit
theorem openChart {w : World} {S : Nat → Prop} {v : Value} {b : ChartM} (h : ChartV w S v b) : ∃ A c, v = .agg #[.int .i64 b.n, .slice A b.rs.length c] ∧ RowsV w S (.slice A b.rs.length c) b.rs ∧ b.rs.length ≤ c ∧ c ≤ 9223372036854775807 := by
  obtain ⟨s, h1, h2, h3⟩ := h
  obtain ⟨A, c, rfl, h5, h6, h7⟩ := h2.shape
  exact ⟨A, c, h1, h2, h5, h6⟩
end Go.Proofs.Ytchfjglofmphfaa
end
section
set_option linter.unusedSimpArgs false
set_option linter.unusedVariables false
set_option maxRecDepth 100000
set_option maxHeartbeats 400000
namespace Go.Proofs.Ytchfjglofmphfaa
open Go.ChangeShapes Go.WideShapes Go.ChangeAt Go.RowKit
theorem eqRowS_same (w : World) (S T : Nat → Prop) (v u : Value) (rs : List RowM) (h : RowsV w S v rs) (h2 : RowsV w T u rs) :
    Calls Try.prog 72 #[v, u] w fun e w' => e = .returned (.bool true) ∧ Up w w' := by
  obtain ⟨A, c, rfl, hlc, hcm, -⟩ := h.shape
  obtain ⟨A2, c2, rfl, hlc2, hcm2, -⟩ := h2.shape
  have H := Lib.hid h
  have H2 := Lib.hid h2
  clear h h2
  go_enter Try.func72, Try.ntmps72
  go_wp2
  go_loopw [5] (fun i wr => ∃ (j : Nat), j ≤ rs.length ∧ i = .int .i64 j ∧ Hid (Up w wr)) (fun i _ => rs.length - (intOf i).toNat)
  case atStart => exact ⟨0, by omega, rfl, Chg.refl _ _⟩
  case round =>
    obtain ⟨j, hj, rfl, hu⟩ := hrel
    by_cases hlt : j < rs.length
    · obtain ⟨b, o, rfl, hc⟩ := (H.out.up hu.out).at_ hlt
      obtain ⟨b2, o2, rfl, hc2⟩ := (H2.out.up hu.out).at_ hlt
      obtain ⟨A3, c3, f1, f2, f3, hv⟩ := (hc j hlt).val
      obtain ⟨A4, c4, e1, e2, e3, hv2⟩ := (hc2 j hlt).val
      have HV := Lib.hid hv
      have HV2 := Lib.hid hv2
      clear hc hv hc2 hv2
      go_wp2
      have qf1 := up_cell f1
      have qf2 := up_cell f2
      have qf3 := up_cell f3
      have qe1 := up_cell e1
      have qe2 := up_cell e2
      have qe3 := up_cell e3
      clear f1 f2 f3 e1 e2 e3
      refine wp_region_up (by kernel_rfl) (by kernel_rfl) ?_
      repeat (go_big_quiet_step (first | (go_at_call 128; with_reducible exact calls_up (eqRow_same _ _ _ _ _ _ (HV.out.up (UpOf.up _)) (HV2.out.up (UpOf.up _))))))
      refine wpQuiet_nil ?_
      rintro _ ⟨u, rfl⟩
      go_wp2
      go_roundw
      case rel => exact ⟨j + 1, by omega, by go_num, Lib.hid (Chg.trans hu.out u.up)⟩
      case measure => first | (simp [intOf]; done) | (simp [intOf]; omega)
    · obtain rfl : j = rs.length := by omega
      go_wp2
      go_ret
      exact ⟨rfl, hu.out⟩
theorem eqChart_same (w : World) (S T : Nat → Prop) (v u : Value) (b : ChartM) (h : ChartV w S v b) (h2 : ChartV w T u b) :
    Calls Try.prog 20 #[v, u] w fun e w' => e = .returned (.bool true) ∧ Up w w' := by
  obtain ⟨A, c, rfl, h4, h5, h6⟩ := openChart h
  obtain ⟨A2, c2, rfl, h24, h25, h26⟩ := openChart h2
  have I0 := Lib.hid h4
  have J0 := Lib.hid h24
  have U0 := Lib.hid (Chg.refl Nowhere w)
  clear h4 h24 h h2
  have e1 : (b.n != b.n) = false := by simp
  have U_1 := Lib.hid (Chg.trans U0.out ((Chg.refl Nowhere w).alloc (.cells #[.int .i64 b.n, .slice A b.rs.length c] 47)))
  clear U0
  have I_2 := Lib.hid (I0.out.up ((Chg.refl Nowhere w).alloc (.cells #[.int .i64 b.n, .slice A b.rs.length c] 47)))
  clear I0
  have J_3 := Lib.hid (J0.out.up ((Chg.refl Nowhere w).alloc (.cells #[.int .i64 b.n, .slice A b.rs.length c] 47)))
  clear J0
  have q0_4 := (show (w.alloc (.cells #[.int .i64 b.n, .slice A b.rs.length c] 47)).cell? ⟨w.heap.size, 0, none⟩ = some (.int .i64 b.n) from cell_new _ _ _ _)
  have q1_5 := (show (w.alloc (.cells #[.int .i64 b.n, .slice A b.rs.length c] 47)).cell? ⟨w.heap.size, 1, none⟩ = some (.slice A b.rs.length c) from cell_new _ _ _ _)
  have hbx6 : w.heap.size < (w.alloc (.cells #[.int .i64 b.n, .slice A b.rs.length c] 47)).heap.size := by simp
  have U_7 := Lib.hid (Chg.trans U_1.out ((Chg.refl Nowhere (w.alloc (.cells #[.int .i64 b.n, .slice A b.rs.length c] 47))).alloc (.cells #[.int .i64 b.n, .slice A2 b.rs.length c2] 47)))
  clear U_1
  have I_8 := Lib.hid (I_2.out.up ((Chg.refl Nowhere (w.alloc (.cells #[.int .i64 b.n, .slice A b.rs.length c] 47))).alloc (.cells #[.int .i64 b.n, .slice A2 b.rs.length c2] 47)))
  clear I_2
  have J_9 := Lib.hid (J_3.out.up ((Chg.refl Nowhere (w.alloc (.cells #[.int .i64 b.n, .slice A b.rs.length c] 47))).alloc (.cells #[.int .i64 b.n, .slice A2 b.rs.length c2] 47)))
  clear J_3
  have q0_10 := Chg.cell ((Chg.refl Nowhere (w.alloc (.cells #[.int .i64 b.n, .slice A b.rs.length c] 47))).alloc (.cells #[.int .i64 b.n, .slice A2 b.rs.length c2] 47)) q0_4 id
  clear q0_4
  have q1_11 := Chg.cell ((Chg.refl Nowhere (w.alloc (.cells #[.int .i64 b.n, .slice A b.rs.length c] 47))).alloc (.cells #[.int .i64 b.n, .slice A2 b.rs.length c2] 47)) q1_5 id
  clear q1_5
  have p0_12 := (show ((w.alloc (.cells #[.int .i64 b.n, .slice A b.rs.length c] 47)).alloc (.cells #[.int .i64 b.n, .slice A2 b.rs.length c2] 47)).cell? ⟨(w.alloc (.cells #[.int .i64 b.n, .slice A b.rs.length c] 47)).heap.size, 0, none⟩ = some (.int .i64 b.n) from cell_new _ _ _ _)
  have p1_13 := (show ((w.alloc (.cells #[.int .i64 b.n, .slice A b.rs.length c] 47)).alloc (.cells #[.int .i64 b.n, .slice A2 b.rs.length c2] 47)).cell? ⟨(w.alloc (.cells #[.int .i64 b.n, .slice A b.rs.length c] 47)).heap.size, 1, none⟩ = some (.slice A2 b.rs.length c2) from cell_new _ _ _ _)
  have hbx14 : (w.alloc (.cells #[.int .i64 b.n, .slice A b.rs.length c] 47)).heap.size < ((w.alloc (.cells #[.int .i64 b.n, .slice A b.rs.length c] 47)).alloc (.cells #[.int .i64 b.n, .slice A2 b.rs.length c2] 47)).heap.size := by simp
  go_enter Try.func20, Try.ntmps20
  go_wp2_with fail
  refine (eqRowS_same _ S T _ _ b.rs (I_8.out.up (by repeat (first | exact Chg.refl _ _ | apply Chg.drew | apply Chg.drewN | refine Chg.alloc ?_ _))) (J_9.out.up (by repeat (first | exact Chg.refl _ _ | apply Chg.drew | apply Chg.drewN | refine Chg.alloc ?_ _)))).mono ?_
  rintro e w15 ⟨rfl, g1⟩
  have G1 := Lib.hid g1
  have hz15 := G1.out.size
  clear g1
  have U_16 := Lib.hid (Chg.trans U_7.out (Chg.trans (by repeat (first | exact Chg.refl _ _ | apply Chg.drew | apply Chg.drewN | refine Chg.alloc ?_ _)) G1.out))
  clear U_7
  have I_17 := Lib.hid (I_8.out.up (Chg.trans (by repeat (first | exact Chg.refl _ _ | apply Chg.drew | apply Chg.drewN | refine Chg.alloc ?_ _)) G1.out))
  clear I_8
  have J_18 := Lib.hid (J_9.out.up (Chg.trans (by repeat (first | exact Chg.refl _ _ | apply Chg.drew | apply Chg.drewN | refine Chg.alloc ?_ _)) G1.out))
  clear J_9
  have q0_19 := Chg.cell (Chg.trans (by repeat (first | exact Chg.refl _ _ | apply Chg.drew | apply Chg.drewN | refine Chg.alloc ?_ _)) G1.out) q0_10 id
  clear q0_10
  have q1_20 := Chg.cell (Chg.trans (by repeat (first | exact Chg.refl _ _ | apply Chg.drew | apply Chg.drewN | refine Chg.alloc ?_ _)) G1.out) q1_11 id
  clear q1_11
  have p0_21 := Chg.cell (Chg.trans (by repeat (first | exact Chg.refl _ _ | apply Chg.drew | apply Chg.drewN | refine Chg.alloc ?_ _)) G1.out) p0_12 id
  clear p0_12
  have p1_22 := Chg.cell (Chg.trans (by repeat (first | exact Chg.refl _ _ | apply Chg.drew | apply Chg.drewN | refine Chg.alloc ?_ _)) G1.out) p1_13 id
  clear p1_13
  clear G1
  go_wp2
  go_ret
  exact ⟨rfl, (Chg.trans U_16.out (by repeat (first | exact Chg.refl _ _ | apply Chg.drew | apply Chg.drewN | refine Chg.alloc ?_ _)))⟩
end Go.Proofs.Ytchfjglofmphfaa
end
