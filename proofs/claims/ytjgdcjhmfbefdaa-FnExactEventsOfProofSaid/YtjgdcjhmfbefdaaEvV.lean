/- Events that are valid for some strands, on both sides. No condition. -/
import Derived.Test.YtjgdcjhmfbefdaaPrfM
import Derived.Test.YtjgdcjhmfbefdaaValid
import Derived.Test.YtjgdcjhmfbefdaaPermX
set_option linter.unusedSimpArgs false
set_option linter.unusedVariables false
set_option maxRecDepth 100000
set_option maxHeartbeats 4000000
namespace Go.Proofs.Ytjgdcjhmfbefdaa
open Go.ChangeShapes Go.WideShapes Go.ChangeAt Go.RowKit
def yarnB (bed car dir : Int) : Bool := bedB bed && (carB car && dirB dir)
def evP (k place count bed car dir n : Int) : Prop :=
  0 ≤ place ∧ ((k = 1 ∧ place ≤ n - 2 ∧ (count = 1 ∨ count = -1) ∧ bed = 0 ∧ car = 0 ∧ dir = 0) ∨ (k = 2 ∧ (0 ≤ count ∧ count ≤ 4) ∧ place ≤ n - count ∧ yarnB bed car dir = true) ∨ (k = 3 ∧ count = 0 ∧ place ≤ n ∧ yarnB bed car dir = true) ∨
    (k = 4 ∧ (1 ≤ count ∧ count ≤ 4) ∧ place ≤ n - count ∧ bed = 0 ∧ car = 0 ∧ dir = 0) ∨ (k = 5 ∧ (1 ≤ count ∧ count ≤ 4) ∧ yarnB bed car dir = true ∧ ((bed = 1 ∧ place ≤ n - count) ∨ (bed ≠ 1 ∧ count ≤ place ∧ place ≤ n))))
instance (k place count bed car dir n : Int) : Decidable (evP k place count bed car dir n) := by unfold evP; infer_instance
def evOk (x : EvM) (n : Int) : Bool := decide (evP x.kind x.place x.count x.bed x.car x.dir n)
def evAfter (k count n : Int) : Int := if k = 2 then n - count + 1 else if k = 3 ∨ k = 5 then n + 1 else if k = 4 then n - count else n
theorem isStitched_any (w : World) (x : EvM) : Calls Try.prog 217 #[x.val] w fun e w' => e = .returned (.bool (yarnB x.bed x.car x.dir)) ∧ Up w w' := by
  cases h1 : bedB x.bed <;> cases h2 : carB x.car <;> unfold yarnB <;> rw [h1, h2]
  all_goals
    have H1 := Lib.hid h1
    have H2 := Lib.hid h2
    clear h1 h2
    go_enter Try.func217, Try.ntmps217
    go_wp2_with (first | (go_at_call 201; refine (callS (isBed_any _ _) H1.out).mono ?_; rintro e w' ⟨rfl, rfl⟩) | (go_at_call 116; refine (callS (isCarrier_any _ _) H2.out).mono ?_; rintro e w' ⟨rfl, rfl⟩) | (go_at_call 202; refine (isDirection_any _ _).mono ?_; rintro e w' ⟨rfl, rfl⟩))
    go_ret
    exact ⟨rfl, (by repeat (first | exact Chg.refl _ _ | apply Chg.drew | apply Chg.drewN | refine Chg.alloc ?_ _))⟩
theorem plain4 (b c d : Int) : b ≠ 0 ∨ (b = 0 ∧ c ≠ 0) ∨ (b = 0 ∧ c = 0 ∧ d ≠ 0) ∨ (b = 0 ∧ c = 0 ∧ d = 0) := by omega
theorem evValid_1 (w : World) (place count bed car dir n : Int) (hn : 0 ≤ n ∧ n ≤ 12) :
    Calls Try.prog 161 #[.agg #[.int .i64 1, .int .i64 place, .int .i64 count, .int .i64 bed, .int .i64 car, .int .i64 dir], .int .i64 n] w fun e w' => e = .returned (.bool (decide (evP 1 place count bed car dir n))) ∧ Up w w' := by
  obtain ⟨hn0, hn1⟩ := hn
  rcases plain4 bed car dir with h | ⟨rfl, h⟩ | ⟨rfl, rfl, h⟩ | ⟨rfl, rfl, rfl⟩
  · have f0 : (bed == 0) = false := by simpa using h
    have p0 : ¬ bed = 0 := h
    clear h
    rcases (show count = 1 ∨ count = -1 ∨ (count ≠ 1 ∧ count ≠ -1) by omega) with rfl | rfl | ⟨c1, c2⟩
    · skip
      go_enter Try.func161, Try.ntmps161
      go_wp2
      all_goals (go_ret; exact ⟨ret_bool (by first | (simp [evP, *]; done) | (simp [evP, *]; omega)), (by repeat (first | exact Chg.refl _ _ | apply Chg.drew | apply Chg.drewN | refine Chg.alloc ?_ _))⟩)
    · have g1 : ((-1 : Int) == 1) = false := rfl
      go_enter Try.func161, Try.ntmps161
      go_wp2
      all_goals (go_ret; exact ⟨ret_bool (by first | (simp [evP, *]; done) | (simp [evP, *]; omega)), (by repeat (first | exact Chg.refl _ _ | apply Chg.drew | apply Chg.drewN | refine Chg.alloc ?_ _))⟩)
    · have g1 : (count == 1) = false := by simpa using c1
      have g2 : (count == -1) = false := by simpa using c2
      go_enter Try.func161, Try.ntmps161
      go_wp2
      all_goals (go_ret; exact ⟨ret_bool (by first | (simp [evP, *]; done) | (simp [evP, *]; omega)), (by repeat (first | exact Chg.refl _ _ | apply Chg.drew | apply Chg.drewN | refine Chg.alloc ?_ _))⟩)
  · have f1 : (car == 0) = false := by simpa using h
    have p1 : ¬ car = 0 := h
    clear h
    rcases (show count = 1 ∨ count = -1 ∨ (count ≠ 1 ∧ count ≠ -1) by omega) with rfl | rfl | ⟨c1, c2⟩
    · skip
      go_enter Try.func161, Try.ntmps161
      go_wp2
      all_goals (go_ret; exact ⟨ret_bool (by first | (simp [evP, *]; done) | (simp [evP, *]; omega)), (by repeat (first | exact Chg.refl _ _ | apply Chg.drew | apply Chg.drewN | refine Chg.alloc ?_ _))⟩)
    · have g1 : ((-1 : Int) == 1) = false := rfl
      go_enter Try.func161, Try.ntmps161
      go_wp2
      all_goals (go_ret; exact ⟨ret_bool (by first | (simp [evP, *]; done) | (simp [evP, *]; omega)), (by repeat (first | exact Chg.refl _ _ | apply Chg.drew | apply Chg.drewN | refine Chg.alloc ?_ _))⟩)
    · have g1 : (count == 1) = false := by simpa using c1
      have g2 : (count == -1) = false := by simpa using c2
      go_enter Try.func161, Try.ntmps161
      go_wp2
      all_goals (go_ret; exact ⟨ret_bool (by first | (simp [evP, *]; done) | (simp [evP, *]; omega)), (by repeat (first | exact Chg.refl _ _ | apply Chg.drew | apply Chg.drewN | refine Chg.alloc ?_ _))⟩)
  · have f2 : (dir == 0) = false := by simpa using h
    have p2 : ¬ dir = 0 := h
    clear h
    rcases (show count = 1 ∨ count = -1 ∨ (count ≠ 1 ∧ count ≠ -1) by omega) with rfl | rfl | ⟨c1, c2⟩
    · skip
      go_enter Try.func161, Try.ntmps161
      go_wp2
      all_goals (go_ret; exact ⟨ret_bool (by first | (simp [evP, *]; done) | (simp [evP, *]; omega)), (by repeat (first | exact Chg.refl _ _ | apply Chg.drew | apply Chg.drewN | refine Chg.alloc ?_ _))⟩)
    · have g1 : ((-1 : Int) == 1) = false := rfl
      go_enter Try.func161, Try.ntmps161
      go_wp2
      all_goals (go_ret; exact ⟨ret_bool (by first | (simp [evP, *]; done) | (simp [evP, *]; omega)), (by repeat (first | exact Chg.refl _ _ | apply Chg.drew | apply Chg.drewN | refine Chg.alloc ?_ _))⟩)
    · have g1 : (count == 1) = false := by simpa using c1
      have g2 : (count == -1) = false := by simpa using c2
      go_enter Try.func161, Try.ntmps161
      go_wp2
      all_goals (go_ret; exact ⟨ret_bool (by first | (simp [evP, *]; done) | (simp [evP, *]; omega)), (by repeat (first | exact Chg.refl _ _ | apply Chg.drew | apply Chg.drewN | refine Chg.alloc ?_ _))⟩)
  · skip
    rcases (show count = 1 ∨ count = -1 ∨ (count ≠ 1 ∧ count ≠ -1) by omega) with rfl | rfl | ⟨c1, c2⟩
    · skip
      go_enter Try.func161, Try.ntmps161
      go_wp2
      all_goals (go_ret; exact ⟨ret_bool (by first | (simp [evP, *]; done) | (simp [evP, *]; omega)), (by repeat (first | exact Chg.refl _ _ | apply Chg.drew | apply Chg.drewN | refine Chg.alloc ?_ _))⟩)
    · have g1 : ((-1 : Int) == 1) = false := rfl
      go_enter Try.func161, Try.ntmps161
      go_wp2
      all_goals (go_ret; exact ⟨ret_bool (by first | (simp [evP, *]; done) | (simp [evP, *]; omega)), (by repeat (first | exact Chg.refl _ _ | apply Chg.drew | apply Chg.drewN | refine Chg.alloc ?_ _))⟩)
    · have g1 : (count == 1) = false := by simpa using c1
      have g2 : (count == -1) = false := by simpa using c2
      go_enter Try.func161, Try.ntmps161
      go_wp2
      all_goals (go_ret; exact ⟨ret_bool (by first | (simp [evP, *]; done) | (simp [evP, *]; omega)), (by repeat (first | exact Chg.refl _ _ | apply Chg.drew | apply Chg.drewN | refine Chg.alloc ?_ _))⟩)
theorem evValid_2 (w : World) (place count bed car dir n : Int) (hn : 0 ≤ n ∧ n ≤ 12) :
    Calls Try.prog 161 #[.agg #[.int .i64 2, .int .i64 place, .int .i64 count, .int .i64 bed, .int .i64 car, .int .i64 dir], .int .i64 n] w fun e w' => e = .returned (.bool (decide (evP 2 place count bed car dir n))) ∧ Up w w' := by
  obtain ⟨hn0, hn1⟩ := hn
  rcases plain4 bed car dir with h | ⟨rfl, h⟩ | ⟨rfl, rfl, h⟩ | ⟨rfl, rfl, rfl⟩
  · have f0 : (bed == 0) = false := by simpa using h
    have p0 : ¬ bed = 0 := h
    clear h
    by_cases hc : 0 ≤ count ∧ count ≤ 4
    · have HC := Lib.hid (inB_yes hc)
      obtain ⟨hc0, hc1⟩ := hc
      cases hy : yarnB bed car dir
      · have HY := Lib.hid hy
        clear hy
        go_enter Try.func161, Try.ntmps161
        go_wp2_with (first | (go_at_call 76; refine (callS (within_any _ _ _ _) HC.out).mono ?_; rintro e w' ⟨rfl, rfl⟩) | (go_at_call 217; refine (callB (isStitched_any _ ⟨2, place, count, bed, car, dir⟩) HY.out).mono ?_; rintro e w1 ⟨rfl, g1⟩; have G1 := Lib.hid (show Up w _ from Chg.trans (by repeat (first | exact Chg.refl _ _ | apply Chg.drew | apply Chg.drewN | refine Chg.alloc ?_ _)) g1); clear g1))
        all_goals (go_ret; exact ⟨ret_bool (by first | (simp [evP, HY.out, *]; done) | (simp [evP, HY.out, *]; omega) | (have hb1 := HB1.out; simp [evP, HY.out]; (try intros); omega) | (have hb1 := HB1.out; rw [Bool.eq_iff_iff]; simp [evP, HY.out]; omega)), (by first | exact G1.out | (repeat (first | exact Chg.refl _ _ | apply Chg.drew | apply Chg.drewN | refine Chg.alloc ?_ _)))⟩)
      · have HY := Lib.hid hy
        clear hy
        go_enter Try.func161, Try.ntmps161
        go_wp2_with (first | (go_at_call 76; refine (callS (within_any _ _ _ _) HC.out).mono ?_; rintro e w' ⟨rfl, rfl⟩) | (go_at_call 217; refine (callB (isStitched_any _ ⟨2, place, count, bed, car, dir⟩) HY.out).mono ?_; rintro e w1 ⟨rfl, g1⟩; have G1 := Lib.hid (show Up w _ from Chg.trans (by repeat (first | exact Chg.refl _ _ | apply Chg.drew | apply Chg.drewN | refine Chg.alloc ?_ _)) g1); clear g1))
        all_goals (go_ret; exact ⟨ret_bool (by first | (simp [evP, HY.out, *]; done) | (simp [evP, HY.out, *]; omega) | (have hb1 := HB1.out; simp [evP, HY.out]; (try intros); omega) | (have hb1 := HB1.out; rw [Bool.eq_iff_iff]; simp [evP, HY.out]; omega)), (by first | exact G1.out | (repeat (first | exact Chg.refl _ _ | apply Chg.drew | apply Chg.drewN | refine Chg.alloc ?_ _)))⟩)
    · have HC := Lib.hid (show inB count 0 4 = false from decide_eq_false hc)
      cases hy : yarnB bed car dir
      · have HY := Lib.hid hy
        clear hy
        go_enter Try.func161, Try.ntmps161
        go_wp2_with (first | (go_at_call 76; refine (callS (within_any _ _ _ _) HC.out).mono ?_; rintro e w' ⟨rfl, rfl⟩) | (go_at_call 217; refine (callB (isStitched_any _ ⟨2, place, count, bed, car, dir⟩) HY.out).mono ?_; rintro e w1 ⟨rfl, g1⟩; have G1 := Lib.hid (show Up w _ from Chg.trans (by repeat (first | exact Chg.refl _ _ | apply Chg.drew | apply Chg.drewN | refine Chg.alloc ?_ _)) g1); clear g1))
        all_goals (go_ret; exact ⟨ret_bool (by first | (simp [evP, HY.out, *]; done) | (simp [evP, HY.out, *]; omega) | (have hb1 := HB1.out; simp [evP, HY.out]; (try intros); omega) | (have hb1 := HB1.out; rw [Bool.eq_iff_iff]; simp [evP, HY.out]; omega)), (by first | exact G1.out | (repeat (first | exact Chg.refl _ _ | apply Chg.drew | apply Chg.drewN | refine Chg.alloc ?_ _)))⟩)
      · have HY := Lib.hid hy
        clear hy
        go_enter Try.func161, Try.ntmps161
        go_wp2_with (first | (go_at_call 76; refine (callS (within_any _ _ _ _) HC.out).mono ?_; rintro e w' ⟨rfl, rfl⟩) | (go_at_call 217; refine (callB (isStitched_any _ ⟨2, place, count, bed, car, dir⟩) HY.out).mono ?_; rintro e w1 ⟨rfl, g1⟩; have G1 := Lib.hid (show Up w _ from Chg.trans (by repeat (first | exact Chg.refl _ _ | apply Chg.drew | apply Chg.drewN | refine Chg.alloc ?_ _)) g1); clear g1))
        all_goals (go_ret; exact ⟨ret_bool (by first | (simp [evP, HY.out, *]; done) | (simp [evP, HY.out, *]; omega) | (have hb1 := HB1.out; simp [evP, HY.out]; (try intros); omega) | (have hb1 := HB1.out; rw [Bool.eq_iff_iff]; simp [evP, HY.out]; omega)), (by first | exact G1.out | (repeat (first | exact Chg.refl _ _ | apply Chg.drew | apply Chg.drewN | refine Chg.alloc ?_ _)))⟩)
  · have f1 : (car == 0) = false := by simpa using h
    have p1 : ¬ car = 0 := h
    clear h
    by_cases hc : 0 ≤ count ∧ count ≤ 4
    · have HC := Lib.hid (inB_yes hc)
      obtain ⟨hc0, hc1⟩ := hc
      cases hy : yarnB 0 car dir
      · have HY := Lib.hid hy
        clear hy
        go_enter Try.func161, Try.ntmps161
        go_wp2_with (first | (go_at_call 76; refine (callS (within_any _ _ _ _) HC.out).mono ?_; rintro e w' ⟨rfl, rfl⟩) | (go_at_call 217; refine (callB (isStitched_any _ ⟨2, place, count, 0, car, dir⟩) HY.out).mono ?_; rintro e w1 ⟨rfl, g1⟩; have G1 := Lib.hid (show Up w _ from Chg.trans (by repeat (first | exact Chg.refl _ _ | apply Chg.drew | apply Chg.drewN | refine Chg.alloc ?_ _)) g1); clear g1))
        all_goals (go_ret; exact ⟨ret_bool (by first | (simp [evP, HY.out, *]; done) | (simp [evP, HY.out, *]; omega) | (have hb1 := HB1.out; simp [evP, HY.out]; (try intros); omega) | (have hb1 := HB1.out; rw [Bool.eq_iff_iff]; simp [evP, HY.out]; omega)), (by first | exact G1.out | (repeat (first | exact Chg.refl _ _ | apply Chg.drew | apply Chg.drewN | refine Chg.alloc ?_ _)))⟩)
      · have HY := Lib.hid hy
        clear hy
        go_enter Try.func161, Try.ntmps161
        go_wp2_with (first | (go_at_call 76; refine (callS (within_any _ _ _ _) HC.out).mono ?_; rintro e w' ⟨rfl, rfl⟩) | (go_at_call 217; refine (callB (isStitched_any _ ⟨2, place, count, 0, car, dir⟩) HY.out).mono ?_; rintro e w1 ⟨rfl, g1⟩; have G1 := Lib.hid (show Up w _ from Chg.trans (by repeat (first | exact Chg.refl _ _ | apply Chg.drew | apply Chg.drewN | refine Chg.alloc ?_ _)) g1); clear g1))
        all_goals (go_ret; exact ⟨ret_bool (by first | (simp [evP, HY.out, *]; done) | (simp [evP, HY.out, *]; omega) | (have hb1 := HB1.out; simp [evP, HY.out]; (try intros); omega) | (have hb1 := HB1.out; rw [Bool.eq_iff_iff]; simp [evP, HY.out]; omega)), (by first | exact G1.out | (repeat (first | exact Chg.refl _ _ | apply Chg.drew | apply Chg.drewN | refine Chg.alloc ?_ _)))⟩)
    · have HC := Lib.hid (show inB count 0 4 = false from decide_eq_false hc)
      cases hy : yarnB 0 car dir
      · have HY := Lib.hid hy
        clear hy
        go_enter Try.func161, Try.ntmps161
        go_wp2_with (first | (go_at_call 76; refine (callS (within_any _ _ _ _) HC.out).mono ?_; rintro e w' ⟨rfl, rfl⟩) | (go_at_call 217; refine (callB (isStitched_any _ ⟨2, place, count, 0, car, dir⟩) HY.out).mono ?_; rintro e w1 ⟨rfl, g1⟩; have G1 := Lib.hid (show Up w _ from Chg.trans (by repeat (first | exact Chg.refl _ _ | apply Chg.drew | apply Chg.drewN | refine Chg.alloc ?_ _)) g1); clear g1))
        all_goals (go_ret; exact ⟨ret_bool (by first | (simp [evP, HY.out, *]; done) | (simp [evP, HY.out, *]; omega) | (have hb1 := HB1.out; simp [evP, HY.out]; (try intros); omega) | (have hb1 := HB1.out; rw [Bool.eq_iff_iff]; simp [evP, HY.out]; omega)), (by first | exact G1.out | (repeat (first | exact Chg.refl _ _ | apply Chg.drew | apply Chg.drewN | refine Chg.alloc ?_ _)))⟩)
      · have HY := Lib.hid hy
        clear hy
        go_enter Try.func161, Try.ntmps161
        go_wp2_with (first | (go_at_call 76; refine (callS (within_any _ _ _ _) HC.out).mono ?_; rintro e w' ⟨rfl, rfl⟩) | (go_at_call 217; refine (callB (isStitched_any _ ⟨2, place, count, 0, car, dir⟩) HY.out).mono ?_; rintro e w1 ⟨rfl, g1⟩; have G1 := Lib.hid (show Up w _ from Chg.trans (by repeat (first | exact Chg.refl _ _ | apply Chg.drew | apply Chg.drewN | refine Chg.alloc ?_ _)) g1); clear g1))
        all_goals (go_ret; exact ⟨ret_bool (by first | (simp [evP, HY.out, *]; done) | (simp [evP, HY.out, *]; omega) | (have hb1 := HB1.out; simp [evP, HY.out]; (try intros); omega) | (have hb1 := HB1.out; rw [Bool.eq_iff_iff]; simp [evP, HY.out]; omega)), (by first | exact G1.out | (repeat (first | exact Chg.refl _ _ | apply Chg.drew | apply Chg.drewN | refine Chg.alloc ?_ _)))⟩)
  · have f2 : (dir == 0) = false := by simpa using h
    have p2 : ¬ dir = 0 := h
    clear h
    by_cases hc : 0 ≤ count ∧ count ≤ 4
    · have HC := Lib.hid (inB_yes hc)
      obtain ⟨hc0, hc1⟩ := hc
      cases hy : yarnB 0 0 dir
      · have HY := Lib.hid hy
        clear hy
        go_enter Try.func161, Try.ntmps161
        go_wp2_with (first | (go_at_call 76; refine (callS (within_any _ _ _ _) HC.out).mono ?_; rintro e w' ⟨rfl, rfl⟩) | (go_at_call 217; refine (callB (isStitched_any _ ⟨2, place, count, 0, 0, dir⟩) HY.out).mono ?_; rintro e w1 ⟨rfl, g1⟩; have G1 := Lib.hid (show Up w _ from Chg.trans (by repeat (first | exact Chg.refl _ _ | apply Chg.drew | apply Chg.drewN | refine Chg.alloc ?_ _)) g1); clear g1))
        all_goals (go_ret; exact ⟨ret_bool (by first | (simp [evP, HY.out, *]; done) | (simp [evP, HY.out, *]; omega) | (have hb1 := HB1.out; simp [evP, HY.out]; (try intros); omega) | (have hb1 := HB1.out; rw [Bool.eq_iff_iff]; simp [evP, HY.out]; omega)), (by first | exact G1.out | (repeat (first | exact Chg.refl _ _ | apply Chg.drew | apply Chg.drewN | refine Chg.alloc ?_ _)))⟩)
      · have HY := Lib.hid hy
        clear hy
        go_enter Try.func161, Try.ntmps161
        go_wp2_with (first | (go_at_call 76; refine (callS (within_any _ _ _ _) HC.out).mono ?_; rintro e w' ⟨rfl, rfl⟩) | (go_at_call 217; refine (callB (isStitched_any _ ⟨2, place, count, 0, 0, dir⟩) HY.out).mono ?_; rintro e w1 ⟨rfl, g1⟩; have G1 := Lib.hid (show Up w _ from Chg.trans (by repeat (first | exact Chg.refl _ _ | apply Chg.drew | apply Chg.drewN | refine Chg.alloc ?_ _)) g1); clear g1))
        all_goals (go_ret; exact ⟨ret_bool (by first | (simp [evP, HY.out, *]; done) | (simp [evP, HY.out, *]; omega) | (have hb1 := HB1.out; simp [evP, HY.out]; (try intros); omega) | (have hb1 := HB1.out; rw [Bool.eq_iff_iff]; simp [evP, HY.out]; omega)), (by first | exact G1.out | (repeat (first | exact Chg.refl _ _ | apply Chg.drew | apply Chg.drewN | refine Chg.alloc ?_ _)))⟩)
    · have HC := Lib.hid (show inB count 0 4 = false from decide_eq_false hc)
      cases hy : yarnB 0 0 dir
      · have HY := Lib.hid hy
        clear hy
        go_enter Try.func161, Try.ntmps161
        go_wp2_with (first | (go_at_call 76; refine (callS (within_any _ _ _ _) HC.out).mono ?_; rintro e w' ⟨rfl, rfl⟩) | (go_at_call 217; refine (callB (isStitched_any _ ⟨2, place, count, 0, 0, dir⟩) HY.out).mono ?_; rintro e w1 ⟨rfl, g1⟩; have G1 := Lib.hid (show Up w _ from Chg.trans (by repeat (first | exact Chg.refl _ _ | apply Chg.drew | apply Chg.drewN | refine Chg.alloc ?_ _)) g1); clear g1))
        all_goals (go_ret; exact ⟨ret_bool (by first | (simp [evP, HY.out, *]; done) | (simp [evP, HY.out, *]; omega) | (have hb1 := HB1.out; simp [evP, HY.out]; (try intros); omega) | (have hb1 := HB1.out; rw [Bool.eq_iff_iff]; simp [evP, HY.out]; omega)), (by first | exact G1.out | (repeat (first | exact Chg.refl _ _ | apply Chg.drew | apply Chg.drewN | refine Chg.alloc ?_ _)))⟩)
      · have HY := Lib.hid hy
        clear hy
        go_enter Try.func161, Try.ntmps161
        go_wp2_with (first | (go_at_call 76; refine (callS (within_any _ _ _ _) HC.out).mono ?_; rintro e w' ⟨rfl, rfl⟩) | (go_at_call 217; refine (callB (isStitched_any _ ⟨2, place, count, 0, 0, dir⟩) HY.out).mono ?_; rintro e w1 ⟨rfl, g1⟩; have G1 := Lib.hid (show Up w _ from Chg.trans (by repeat (first | exact Chg.refl _ _ | apply Chg.drew | apply Chg.drewN | refine Chg.alloc ?_ _)) g1); clear g1))
        all_goals (go_ret; exact ⟨ret_bool (by first | (simp [evP, HY.out, *]; done) | (simp [evP, HY.out, *]; omega) | (have hb1 := HB1.out; simp [evP, HY.out]; (try intros); omega) | (have hb1 := HB1.out; rw [Bool.eq_iff_iff]; simp [evP, HY.out]; omega)), (by first | exact G1.out | (repeat (first | exact Chg.refl _ _ | apply Chg.drew | apply Chg.drewN | refine Chg.alloc ?_ _)))⟩)
  · skip
    by_cases hc : 0 ≤ count ∧ count ≤ 4
    · have HC := Lib.hid (inB_yes hc)
      obtain ⟨hc0, hc1⟩ := hc
      cases hy : yarnB 0 0 0
      · have HY := Lib.hid hy
        clear hy
        go_enter Try.func161, Try.ntmps161
        go_wp2_with (first | (go_at_call 76; refine (callS (within_any _ _ _ _) HC.out).mono ?_; rintro e w' ⟨rfl, rfl⟩) | (go_at_call 217; refine (callB (isStitched_any _ ⟨2, place, count, 0, 0, 0⟩) HY.out).mono ?_; rintro e w1 ⟨rfl, g1⟩; have G1 := Lib.hid (show Up w _ from Chg.trans (by repeat (first | exact Chg.refl _ _ | apply Chg.drew | apply Chg.drewN | refine Chg.alloc ?_ _)) g1); clear g1))
        all_goals (go_ret; exact ⟨ret_bool (by first | (simp [evP, HY.out, *]; done) | (simp [evP, HY.out, *]; omega) | (have hb1 := HB1.out; simp [evP, HY.out]; (try intros); omega) | (have hb1 := HB1.out; rw [Bool.eq_iff_iff]; simp [evP, HY.out]; omega)), (by first | exact G1.out | (repeat (first | exact Chg.refl _ _ | apply Chg.drew | apply Chg.drewN | refine Chg.alloc ?_ _)))⟩)
      · have HY := Lib.hid hy
        clear hy
        go_enter Try.func161, Try.ntmps161
        go_wp2_with (first | (go_at_call 76; refine (callS (within_any _ _ _ _) HC.out).mono ?_; rintro e w' ⟨rfl, rfl⟩) | (go_at_call 217; refine (callB (isStitched_any _ ⟨2, place, count, 0, 0, 0⟩) HY.out).mono ?_; rintro e w1 ⟨rfl, g1⟩; have G1 := Lib.hid (show Up w _ from Chg.trans (by repeat (first | exact Chg.refl _ _ | apply Chg.drew | apply Chg.drewN | refine Chg.alloc ?_ _)) g1); clear g1))
        all_goals (go_ret; exact ⟨ret_bool (by first | (simp [evP, HY.out, *]; done) | (simp [evP, HY.out, *]; omega) | (have hb1 := HB1.out; simp [evP, HY.out]; (try intros); omega) | (have hb1 := HB1.out; rw [Bool.eq_iff_iff]; simp [evP, HY.out]; omega)), (by first | exact G1.out | (repeat (first | exact Chg.refl _ _ | apply Chg.drew | apply Chg.drewN | refine Chg.alloc ?_ _)))⟩)
    · have HC := Lib.hid (show inB count 0 4 = false from decide_eq_false hc)
      cases hy : yarnB 0 0 0
      · have HY := Lib.hid hy
        clear hy
        go_enter Try.func161, Try.ntmps161
        go_wp2_with (first | (go_at_call 76; refine (callS (within_any _ _ _ _) HC.out).mono ?_; rintro e w' ⟨rfl, rfl⟩) | (go_at_call 217; refine (callB (isStitched_any _ ⟨2, place, count, 0, 0, 0⟩) HY.out).mono ?_; rintro e w1 ⟨rfl, g1⟩; have G1 := Lib.hid (show Up w _ from Chg.trans (by repeat (first | exact Chg.refl _ _ | apply Chg.drew | apply Chg.drewN | refine Chg.alloc ?_ _)) g1); clear g1))
        all_goals (go_ret; exact ⟨ret_bool (by first | (simp [evP, HY.out, *]; done) | (simp [evP, HY.out, *]; omega) | (have hb1 := HB1.out; simp [evP, HY.out]; (try intros); omega) | (have hb1 := HB1.out; rw [Bool.eq_iff_iff]; simp [evP, HY.out]; omega)), (by first | exact G1.out | (repeat (first | exact Chg.refl _ _ | apply Chg.drew | apply Chg.drewN | refine Chg.alloc ?_ _)))⟩)
      · have HY := Lib.hid hy
        clear hy
        go_enter Try.func161, Try.ntmps161
        go_wp2_with (first | (go_at_call 76; refine (callS (within_any _ _ _ _) HC.out).mono ?_; rintro e w' ⟨rfl, rfl⟩) | (go_at_call 217; refine (callB (isStitched_any _ ⟨2, place, count, 0, 0, 0⟩) HY.out).mono ?_; rintro e w1 ⟨rfl, g1⟩; have G1 := Lib.hid (show Up w _ from Chg.trans (by repeat (first | exact Chg.refl _ _ | apply Chg.drew | apply Chg.drewN | refine Chg.alloc ?_ _)) g1); clear g1))
        all_goals (go_ret; exact ⟨ret_bool (by first | (simp [evP, HY.out, *]; done) | (simp [evP, HY.out, *]; omega) | (have hb1 := HB1.out; simp [evP, HY.out]; (try intros); omega) | (have hb1 := HB1.out; rw [Bool.eq_iff_iff]; simp [evP, HY.out]; omega)), (by first | exact G1.out | (repeat (first | exact Chg.refl _ _ | apply Chg.drew | apply Chg.drewN | refine Chg.alloc ?_ _)))⟩)
theorem evValid_3 (w : World) (place count bed car dir n : Int) (hn : 0 ≤ n ∧ n ≤ 12) :
    Calls Try.prog 161 #[.agg #[.int .i64 3, .int .i64 place, .int .i64 count, .int .i64 bed, .int .i64 car, .int .i64 dir], .int .i64 n] w fun e w' => e = .returned (.bool (decide (evP 3 place count bed car dir n))) ∧ Up w w' := by
  obtain ⟨hn0, hn1⟩ := hn
  rcases plain4 bed car dir with h | ⟨rfl, h⟩ | ⟨rfl, rfl, h⟩ | ⟨rfl, rfl, rfl⟩
  · have f0 : (bed == 0) = false := by simpa using h
    have p0 : ¬ bed = 0 := h
    clear h
    by_cases hc : count = 0
    · subst hc
      cases hy : yarnB bed car dir
      · have HY := Lib.hid hy
        clear hy
        go_enter Try.func161, Try.ntmps161
        go_wp2_with (first | (go_at_call 76; refine (callS (within_any _ _ _ _) HC.out).mono ?_; rintro e w' ⟨rfl, rfl⟩) | (go_at_call 217; refine (callB (isStitched_any _ ⟨3, place, 0, bed, car, dir⟩) HY.out).mono ?_; rintro e w1 ⟨rfl, g1⟩; have G1 := Lib.hid (show Up w _ from Chg.trans (by repeat (first | exact Chg.refl _ _ | apply Chg.drew | apply Chg.drewN | refine Chg.alloc ?_ _)) g1); clear g1))
        all_goals (go_ret; exact ⟨ret_bool (by first | (simp [evP, HY.out, *]; done) | (simp [evP, HY.out, *]; omega) | (have hb1 := HB1.out; simp [evP, HY.out]; (try intros); omega) | (have hb1 := HB1.out; rw [Bool.eq_iff_iff]; simp [evP, HY.out]; omega)), (by first | exact G1.out | (repeat (first | exact Chg.refl _ _ | apply Chg.drew | apply Chg.drewN | refine Chg.alloc ?_ _)))⟩)
      · have HY := Lib.hid hy
        clear hy
        go_enter Try.func161, Try.ntmps161
        go_wp2_with (first | (go_at_call 76; refine (callS (within_any _ _ _ _) HC.out).mono ?_; rintro e w' ⟨rfl, rfl⟩) | (go_at_call 217; refine (callB (isStitched_any _ ⟨3, place, 0, bed, car, dir⟩) HY.out).mono ?_; rintro e w1 ⟨rfl, g1⟩; have G1 := Lib.hid (show Up w _ from Chg.trans (by repeat (first | exact Chg.refl _ _ | apply Chg.drew | apply Chg.drewN | refine Chg.alloc ?_ _)) g1); clear g1))
        all_goals (go_ret; exact ⟨ret_bool (by first | (simp [evP, HY.out, *]; done) | (simp [evP, HY.out, *]; omega) | (have hb1 := HB1.out; simp [evP, HY.out]; (try intros); omega) | (have hb1 := HB1.out; rw [Bool.eq_iff_iff]; simp [evP, HY.out]; omega)), (by first | exact G1.out | (repeat (first | exact Chg.refl _ _ | apply Chg.drew | apply Chg.drewN | refine Chg.alloc ?_ _)))⟩)
    · have g0 : (count == 0) = false := by simpa using hc
      cases hy : yarnB bed car dir
      · have HY := Lib.hid hy
        clear hy
        go_enter Try.func161, Try.ntmps161
        go_wp2_with (first | (go_at_call 76; refine (callS (within_any _ _ _ _) HC.out).mono ?_; rintro e w' ⟨rfl, rfl⟩) | (go_at_call 217; refine (callB (isStitched_any _ ⟨3, place, count, bed, car, dir⟩) HY.out).mono ?_; rintro e w1 ⟨rfl, g1⟩; have G1 := Lib.hid (show Up w _ from Chg.trans (by repeat (first | exact Chg.refl _ _ | apply Chg.drew | apply Chg.drewN | refine Chg.alloc ?_ _)) g1); clear g1))
        all_goals (go_ret; exact ⟨ret_bool (by first | (simp [evP, HY.out, *]; done) | (simp [evP, HY.out, *]; omega) | (have hb1 := HB1.out; simp [evP, HY.out]; (try intros); omega) | (have hb1 := HB1.out; rw [Bool.eq_iff_iff]; simp [evP, HY.out]; omega)), (by first | exact G1.out | (repeat (first | exact Chg.refl _ _ | apply Chg.drew | apply Chg.drewN | refine Chg.alloc ?_ _)))⟩)
      · have HY := Lib.hid hy
        clear hy
        go_enter Try.func161, Try.ntmps161
        go_wp2_with (first | (go_at_call 76; refine (callS (within_any _ _ _ _) HC.out).mono ?_; rintro e w' ⟨rfl, rfl⟩) | (go_at_call 217; refine (callB (isStitched_any _ ⟨3, place, count, bed, car, dir⟩) HY.out).mono ?_; rintro e w1 ⟨rfl, g1⟩; have G1 := Lib.hid (show Up w _ from Chg.trans (by repeat (first | exact Chg.refl _ _ | apply Chg.drew | apply Chg.drewN | refine Chg.alloc ?_ _)) g1); clear g1))
        all_goals (go_ret; exact ⟨ret_bool (by first | (simp [evP, HY.out, *]; done) | (simp [evP, HY.out, *]; omega) | (have hb1 := HB1.out; simp [evP, HY.out]; (try intros); omega) | (have hb1 := HB1.out; rw [Bool.eq_iff_iff]; simp [evP, HY.out]; omega)), (by first | exact G1.out | (repeat (first | exact Chg.refl _ _ | apply Chg.drew | apply Chg.drewN | refine Chg.alloc ?_ _)))⟩)
  · have f1 : (car == 0) = false := by simpa using h
    have p1 : ¬ car = 0 := h
    clear h
    by_cases hc : count = 0
    · subst hc
      cases hy : yarnB 0 car dir
      · have HY := Lib.hid hy
        clear hy
        go_enter Try.func161, Try.ntmps161
        go_wp2_with (first | (go_at_call 76; refine (callS (within_any _ _ _ _) HC.out).mono ?_; rintro e w' ⟨rfl, rfl⟩) | (go_at_call 217; refine (callB (isStitched_any _ ⟨3, place, 0, 0, car, dir⟩) HY.out).mono ?_; rintro e w1 ⟨rfl, g1⟩; have G1 := Lib.hid (show Up w _ from Chg.trans (by repeat (first | exact Chg.refl _ _ | apply Chg.drew | apply Chg.drewN | refine Chg.alloc ?_ _)) g1); clear g1))
        all_goals (go_ret; exact ⟨ret_bool (by first | (simp [evP, HY.out, *]; done) | (simp [evP, HY.out, *]; omega) | (have hb1 := HB1.out; simp [evP, HY.out]; (try intros); omega) | (have hb1 := HB1.out; rw [Bool.eq_iff_iff]; simp [evP, HY.out]; omega)), (by first | exact G1.out | (repeat (first | exact Chg.refl _ _ | apply Chg.drew | apply Chg.drewN | refine Chg.alloc ?_ _)))⟩)
      · have HY := Lib.hid hy
        clear hy
        go_enter Try.func161, Try.ntmps161
        go_wp2_with (first | (go_at_call 76; refine (callS (within_any _ _ _ _) HC.out).mono ?_; rintro e w' ⟨rfl, rfl⟩) | (go_at_call 217; refine (callB (isStitched_any _ ⟨3, place, 0, 0, car, dir⟩) HY.out).mono ?_; rintro e w1 ⟨rfl, g1⟩; have G1 := Lib.hid (show Up w _ from Chg.trans (by repeat (first | exact Chg.refl _ _ | apply Chg.drew | apply Chg.drewN | refine Chg.alloc ?_ _)) g1); clear g1))
        all_goals (go_ret; exact ⟨ret_bool (by first | (simp [evP, HY.out, *]; done) | (simp [evP, HY.out, *]; omega) | (have hb1 := HB1.out; simp [evP, HY.out]; (try intros); omega) | (have hb1 := HB1.out; rw [Bool.eq_iff_iff]; simp [evP, HY.out]; omega)), (by first | exact G1.out | (repeat (first | exact Chg.refl _ _ | apply Chg.drew | apply Chg.drewN | refine Chg.alloc ?_ _)))⟩)
    · have g0 : (count == 0) = false := by simpa using hc
      cases hy : yarnB 0 car dir
      · have HY := Lib.hid hy
        clear hy
        go_enter Try.func161, Try.ntmps161
        go_wp2_with (first | (go_at_call 76; refine (callS (within_any _ _ _ _) HC.out).mono ?_; rintro e w' ⟨rfl, rfl⟩) | (go_at_call 217; refine (callB (isStitched_any _ ⟨3, place, count, 0, car, dir⟩) HY.out).mono ?_; rintro e w1 ⟨rfl, g1⟩; have G1 := Lib.hid (show Up w _ from Chg.trans (by repeat (first | exact Chg.refl _ _ | apply Chg.drew | apply Chg.drewN | refine Chg.alloc ?_ _)) g1); clear g1))
        all_goals (go_ret; exact ⟨ret_bool (by first | (simp [evP, HY.out, *]; done) | (simp [evP, HY.out, *]; omega) | (have hb1 := HB1.out; simp [evP, HY.out]; (try intros); omega) | (have hb1 := HB1.out; rw [Bool.eq_iff_iff]; simp [evP, HY.out]; omega)), (by first | exact G1.out | (repeat (first | exact Chg.refl _ _ | apply Chg.drew | apply Chg.drewN | refine Chg.alloc ?_ _)))⟩)
      · have HY := Lib.hid hy
        clear hy
        go_enter Try.func161, Try.ntmps161
        go_wp2_with (first | (go_at_call 76; refine (callS (within_any _ _ _ _) HC.out).mono ?_; rintro e w' ⟨rfl, rfl⟩) | (go_at_call 217; refine (callB (isStitched_any _ ⟨3, place, count, 0, car, dir⟩) HY.out).mono ?_; rintro e w1 ⟨rfl, g1⟩; have G1 := Lib.hid (show Up w _ from Chg.trans (by repeat (first | exact Chg.refl _ _ | apply Chg.drew | apply Chg.drewN | refine Chg.alloc ?_ _)) g1); clear g1))
        all_goals (go_ret; exact ⟨ret_bool (by first | (simp [evP, HY.out, *]; done) | (simp [evP, HY.out, *]; omega) | (have hb1 := HB1.out; simp [evP, HY.out]; (try intros); omega) | (have hb1 := HB1.out; rw [Bool.eq_iff_iff]; simp [evP, HY.out]; omega)), (by first | exact G1.out | (repeat (first | exact Chg.refl _ _ | apply Chg.drew | apply Chg.drewN | refine Chg.alloc ?_ _)))⟩)
  · have f2 : (dir == 0) = false := by simpa using h
    have p2 : ¬ dir = 0 := h
    clear h
    by_cases hc : count = 0
    · subst hc
      cases hy : yarnB 0 0 dir
      · have HY := Lib.hid hy
        clear hy
        go_enter Try.func161, Try.ntmps161
        go_wp2_with (first | (go_at_call 76; refine (callS (within_any _ _ _ _) HC.out).mono ?_; rintro e w' ⟨rfl, rfl⟩) | (go_at_call 217; refine (callB (isStitched_any _ ⟨3, place, 0, 0, 0, dir⟩) HY.out).mono ?_; rintro e w1 ⟨rfl, g1⟩; have G1 := Lib.hid (show Up w _ from Chg.trans (by repeat (first | exact Chg.refl _ _ | apply Chg.drew | apply Chg.drewN | refine Chg.alloc ?_ _)) g1); clear g1))
        all_goals (go_ret; exact ⟨ret_bool (by first | (simp [evP, HY.out, *]; done) | (simp [evP, HY.out, *]; omega) | (have hb1 := HB1.out; simp [evP, HY.out]; (try intros); omega) | (have hb1 := HB1.out; rw [Bool.eq_iff_iff]; simp [evP, HY.out]; omega)), (by first | exact G1.out | (repeat (first | exact Chg.refl _ _ | apply Chg.drew | apply Chg.drewN | refine Chg.alloc ?_ _)))⟩)
      · have HY := Lib.hid hy
        clear hy
        go_enter Try.func161, Try.ntmps161
        go_wp2_with (first | (go_at_call 76; refine (callS (within_any _ _ _ _) HC.out).mono ?_; rintro e w' ⟨rfl, rfl⟩) | (go_at_call 217; refine (callB (isStitched_any _ ⟨3, place, 0, 0, 0, dir⟩) HY.out).mono ?_; rintro e w1 ⟨rfl, g1⟩; have G1 := Lib.hid (show Up w _ from Chg.trans (by repeat (first | exact Chg.refl _ _ | apply Chg.drew | apply Chg.drewN | refine Chg.alloc ?_ _)) g1); clear g1))
        all_goals (go_ret; exact ⟨ret_bool (by first | (simp [evP, HY.out, *]; done) | (simp [evP, HY.out, *]; omega) | (have hb1 := HB1.out; simp [evP, HY.out]; (try intros); omega) | (have hb1 := HB1.out; rw [Bool.eq_iff_iff]; simp [evP, HY.out]; omega)), (by first | exact G1.out | (repeat (first | exact Chg.refl _ _ | apply Chg.drew | apply Chg.drewN | refine Chg.alloc ?_ _)))⟩)
    · have g0 : (count == 0) = false := by simpa using hc
      cases hy : yarnB 0 0 dir
      · have HY := Lib.hid hy
        clear hy
        go_enter Try.func161, Try.ntmps161
        go_wp2_with (first | (go_at_call 76; refine (callS (within_any _ _ _ _) HC.out).mono ?_; rintro e w' ⟨rfl, rfl⟩) | (go_at_call 217; refine (callB (isStitched_any _ ⟨3, place, count, 0, 0, dir⟩) HY.out).mono ?_; rintro e w1 ⟨rfl, g1⟩; have G1 := Lib.hid (show Up w _ from Chg.trans (by repeat (first | exact Chg.refl _ _ | apply Chg.drew | apply Chg.drewN | refine Chg.alloc ?_ _)) g1); clear g1))
        all_goals (go_ret; exact ⟨ret_bool (by first | (simp [evP, HY.out, *]; done) | (simp [evP, HY.out, *]; omega) | (have hb1 := HB1.out; simp [evP, HY.out]; (try intros); omega) | (have hb1 := HB1.out; rw [Bool.eq_iff_iff]; simp [evP, HY.out]; omega)), (by first | exact G1.out | (repeat (first | exact Chg.refl _ _ | apply Chg.drew | apply Chg.drewN | refine Chg.alloc ?_ _)))⟩)
      · have HY := Lib.hid hy
        clear hy
        go_enter Try.func161, Try.ntmps161
        go_wp2_with (first | (go_at_call 76; refine (callS (within_any _ _ _ _) HC.out).mono ?_; rintro e w' ⟨rfl, rfl⟩) | (go_at_call 217; refine (callB (isStitched_any _ ⟨3, place, count, 0, 0, dir⟩) HY.out).mono ?_; rintro e w1 ⟨rfl, g1⟩; have G1 := Lib.hid (show Up w _ from Chg.trans (by repeat (first | exact Chg.refl _ _ | apply Chg.drew | apply Chg.drewN | refine Chg.alloc ?_ _)) g1); clear g1))
        all_goals (go_ret; exact ⟨ret_bool (by first | (simp [evP, HY.out, *]; done) | (simp [evP, HY.out, *]; omega) | (have hb1 := HB1.out; simp [evP, HY.out]; (try intros); omega) | (have hb1 := HB1.out; rw [Bool.eq_iff_iff]; simp [evP, HY.out]; omega)), (by first | exact G1.out | (repeat (first | exact Chg.refl _ _ | apply Chg.drew | apply Chg.drewN | refine Chg.alloc ?_ _)))⟩)
  · skip
    by_cases hc : count = 0
    · subst hc
      cases hy : yarnB 0 0 0
      · have HY := Lib.hid hy
        clear hy
        go_enter Try.func161, Try.ntmps161
        go_wp2_with (first | (go_at_call 76; refine (callS (within_any _ _ _ _) HC.out).mono ?_; rintro e w' ⟨rfl, rfl⟩) | (go_at_call 217; refine (callB (isStitched_any _ ⟨3, place, 0, 0, 0, 0⟩) HY.out).mono ?_; rintro e w1 ⟨rfl, g1⟩; have G1 := Lib.hid (show Up w _ from Chg.trans (by repeat (first | exact Chg.refl _ _ | apply Chg.drew | apply Chg.drewN | refine Chg.alloc ?_ _)) g1); clear g1))
        all_goals (go_ret; exact ⟨ret_bool (by first | (simp [evP, HY.out, *]; done) | (simp [evP, HY.out, *]; omega) | (have hb1 := HB1.out; simp [evP, HY.out]; (try intros); omega) | (have hb1 := HB1.out; rw [Bool.eq_iff_iff]; simp [evP, HY.out]; omega)), (by first | exact G1.out | (repeat (first | exact Chg.refl _ _ | apply Chg.drew | apply Chg.drewN | refine Chg.alloc ?_ _)))⟩)
      · have HY := Lib.hid hy
        clear hy
        go_enter Try.func161, Try.ntmps161
        go_wp2_with (first | (go_at_call 76; refine (callS (within_any _ _ _ _) HC.out).mono ?_; rintro e w' ⟨rfl, rfl⟩) | (go_at_call 217; refine (callB (isStitched_any _ ⟨3, place, 0, 0, 0, 0⟩) HY.out).mono ?_; rintro e w1 ⟨rfl, g1⟩; have G1 := Lib.hid (show Up w _ from Chg.trans (by repeat (first | exact Chg.refl _ _ | apply Chg.drew | apply Chg.drewN | refine Chg.alloc ?_ _)) g1); clear g1))
        all_goals (go_ret; exact ⟨ret_bool (by first | (simp [evP, HY.out, *]; done) | (simp [evP, HY.out, *]; omega) | (have hb1 := HB1.out; simp [evP, HY.out]; (try intros); omega) | (have hb1 := HB1.out; rw [Bool.eq_iff_iff]; simp [evP, HY.out]; omega)), (by first | exact G1.out | (repeat (first | exact Chg.refl _ _ | apply Chg.drew | apply Chg.drewN | refine Chg.alloc ?_ _)))⟩)
    · have g0 : (count == 0) = false := by simpa using hc
      cases hy : yarnB 0 0 0
      · have HY := Lib.hid hy
        clear hy
        go_enter Try.func161, Try.ntmps161
        go_wp2_with (first | (go_at_call 76; refine (callS (within_any _ _ _ _) HC.out).mono ?_; rintro e w' ⟨rfl, rfl⟩) | (go_at_call 217; refine (callB (isStitched_any _ ⟨3, place, count, 0, 0, 0⟩) HY.out).mono ?_; rintro e w1 ⟨rfl, g1⟩; have G1 := Lib.hid (show Up w _ from Chg.trans (by repeat (first | exact Chg.refl _ _ | apply Chg.drew | apply Chg.drewN | refine Chg.alloc ?_ _)) g1); clear g1))
        all_goals (go_ret; exact ⟨ret_bool (by first | (simp [evP, HY.out, *]; done) | (simp [evP, HY.out, *]; omega) | (have hb1 := HB1.out; simp [evP, HY.out]; (try intros); omega) | (have hb1 := HB1.out; rw [Bool.eq_iff_iff]; simp [evP, HY.out]; omega)), (by first | exact G1.out | (repeat (first | exact Chg.refl _ _ | apply Chg.drew | apply Chg.drewN | refine Chg.alloc ?_ _)))⟩)
      · have HY := Lib.hid hy
        clear hy
        go_enter Try.func161, Try.ntmps161
        go_wp2_with (first | (go_at_call 76; refine (callS (within_any _ _ _ _) HC.out).mono ?_; rintro e w' ⟨rfl, rfl⟩) | (go_at_call 217; refine (callB (isStitched_any _ ⟨3, place, count, 0, 0, 0⟩) HY.out).mono ?_; rintro e w1 ⟨rfl, g1⟩; have G1 := Lib.hid (show Up w _ from Chg.trans (by repeat (first | exact Chg.refl _ _ | apply Chg.drew | apply Chg.drewN | refine Chg.alloc ?_ _)) g1); clear g1))
        all_goals (go_ret; exact ⟨ret_bool (by first | (simp [evP, HY.out, *]; done) | (simp [evP, HY.out, *]; omega) | (have hb1 := HB1.out; simp [evP, HY.out]; (try intros); omega) | (have hb1 := HB1.out; rw [Bool.eq_iff_iff]; simp [evP, HY.out]; omega)), (by first | exact G1.out | (repeat (first | exact Chg.refl _ _ | apply Chg.drew | apply Chg.drewN | refine Chg.alloc ?_ _)))⟩)
theorem evValid_4 (w : World) (place count bed car dir n : Int) (hn : 0 ≤ n ∧ n ≤ 12) :
    Calls Try.prog 161 #[.agg #[.int .i64 4, .int .i64 place, .int .i64 count, .int .i64 bed, .int .i64 car, .int .i64 dir], .int .i64 n] w fun e w' => e = .returned (.bool (decide (evP 4 place count bed car dir n))) ∧ Up w w' := by
  obtain ⟨hn0, hn1⟩ := hn
  rcases plain4 bed car dir with h | ⟨rfl, h⟩ | ⟨rfl, rfl, h⟩ | ⟨rfl, rfl, rfl⟩
  · have f0 : (bed == 0) = false := by simpa using h
    have p0 : ¬ bed = 0 := h
    clear h
    by_cases hc : 1 ≤ count ∧ count ≤ 4
    · have HC := Lib.hid (inB_yes hc)
      obtain ⟨hc0, hc1⟩ := hc
      go_enter Try.func161, Try.ntmps161
      go_wp2_with (first | (go_at_call 76; refine (callS (within_any _ _ _ _) HC.out).mono ?_; rintro e w' ⟨rfl, rfl⟩) | (go_at_call 217; refine (callB (isStitched_any _ ⟨4, place, count, bed, car, dir⟩) HY.out).mono ?_; rintro e w1 ⟨rfl, g1⟩; have G1 := Lib.hid (show Up w _ from Chg.trans (by repeat (first | exact Chg.refl _ _ | apply Chg.drew | apply Chg.drewN | refine Chg.alloc ?_ _)) g1); clear g1))
      all_goals (go_ret; exact ⟨ret_bool (by first | (simp [evP, *]; done) | (simp [evP, *]; omega) | (have hb1 := HB1.out; simp [evP]; (try intros); omega) | (have hb1 := HB1.out; rw [Bool.eq_iff_iff]; simp [evP]; omega)), (by first | exact G1.out | (repeat (first | exact Chg.refl _ _ | apply Chg.drew | apply Chg.drewN | refine Chg.alloc ?_ _)))⟩)
    · have HC := Lib.hid (show inB count 1 4 = false from decide_eq_false hc)
      go_enter Try.func161, Try.ntmps161
      go_wp2_with (first | (go_at_call 76; refine (callS (within_any _ _ _ _) HC.out).mono ?_; rintro e w' ⟨rfl, rfl⟩) | (go_at_call 217; refine (callB (isStitched_any _ ⟨4, place, count, bed, car, dir⟩) HY.out).mono ?_; rintro e w1 ⟨rfl, g1⟩; have G1 := Lib.hid (show Up w _ from Chg.trans (by repeat (first | exact Chg.refl _ _ | apply Chg.drew | apply Chg.drewN | refine Chg.alloc ?_ _)) g1); clear g1))
      all_goals (go_ret; exact ⟨ret_bool (by first | (simp [evP, *]; done) | (simp [evP, *]; omega) | (have hb1 := HB1.out; simp [evP]; (try intros); omega) | (have hb1 := HB1.out; rw [Bool.eq_iff_iff]; simp [evP]; omega)), (by first | exact G1.out | (repeat (first | exact Chg.refl _ _ | apply Chg.drew | apply Chg.drewN | refine Chg.alloc ?_ _)))⟩)
  · have f1 : (car == 0) = false := by simpa using h
    have p1 : ¬ car = 0 := h
    clear h
    by_cases hc : 1 ≤ count ∧ count ≤ 4
    · have HC := Lib.hid (inB_yes hc)
      obtain ⟨hc0, hc1⟩ := hc
      go_enter Try.func161, Try.ntmps161
      go_wp2_with (first | (go_at_call 76; refine (callS (within_any _ _ _ _) HC.out).mono ?_; rintro e w' ⟨rfl, rfl⟩) | (go_at_call 217; refine (callB (isStitched_any _ ⟨4, place, count, 0, car, dir⟩) HY.out).mono ?_; rintro e w1 ⟨rfl, g1⟩; have G1 := Lib.hid (show Up w _ from Chg.trans (by repeat (first | exact Chg.refl _ _ | apply Chg.drew | apply Chg.drewN | refine Chg.alloc ?_ _)) g1); clear g1))
      all_goals (go_ret; exact ⟨ret_bool (by first | (simp [evP, *]; done) | (simp [evP, *]; omega) | (have hb1 := HB1.out; simp [evP]; (try intros); omega) | (have hb1 := HB1.out; rw [Bool.eq_iff_iff]; simp [evP]; omega)), (by first | exact G1.out | (repeat (first | exact Chg.refl _ _ | apply Chg.drew | apply Chg.drewN | refine Chg.alloc ?_ _)))⟩)
    · have HC := Lib.hid (show inB count 1 4 = false from decide_eq_false hc)
      go_enter Try.func161, Try.ntmps161
      go_wp2_with (first | (go_at_call 76; refine (callS (within_any _ _ _ _) HC.out).mono ?_; rintro e w' ⟨rfl, rfl⟩) | (go_at_call 217; refine (callB (isStitched_any _ ⟨4, place, count, 0, car, dir⟩) HY.out).mono ?_; rintro e w1 ⟨rfl, g1⟩; have G1 := Lib.hid (show Up w _ from Chg.trans (by repeat (first | exact Chg.refl _ _ | apply Chg.drew | apply Chg.drewN | refine Chg.alloc ?_ _)) g1); clear g1))
      all_goals (go_ret; exact ⟨ret_bool (by first | (simp [evP, *]; done) | (simp [evP, *]; omega) | (have hb1 := HB1.out; simp [evP]; (try intros); omega) | (have hb1 := HB1.out; rw [Bool.eq_iff_iff]; simp [evP]; omega)), (by first | exact G1.out | (repeat (first | exact Chg.refl _ _ | apply Chg.drew | apply Chg.drewN | refine Chg.alloc ?_ _)))⟩)
  · have f2 : (dir == 0) = false := by simpa using h
    have p2 : ¬ dir = 0 := h
    clear h
    by_cases hc : 1 ≤ count ∧ count ≤ 4
    · have HC := Lib.hid (inB_yes hc)
      obtain ⟨hc0, hc1⟩ := hc
      go_enter Try.func161, Try.ntmps161
      go_wp2_with (first | (go_at_call 76; refine (callS (within_any _ _ _ _) HC.out).mono ?_; rintro e w' ⟨rfl, rfl⟩) | (go_at_call 217; refine (callB (isStitched_any _ ⟨4, place, count, 0, 0, dir⟩) HY.out).mono ?_; rintro e w1 ⟨rfl, g1⟩; have G1 := Lib.hid (show Up w _ from Chg.trans (by repeat (first | exact Chg.refl _ _ | apply Chg.drew | apply Chg.drewN | refine Chg.alloc ?_ _)) g1); clear g1))
      all_goals (go_ret; exact ⟨ret_bool (by first | (simp [evP, *]; done) | (simp [evP, *]; omega) | (have hb1 := HB1.out; simp [evP]; (try intros); omega) | (have hb1 := HB1.out; rw [Bool.eq_iff_iff]; simp [evP]; omega)), (by first | exact G1.out | (repeat (first | exact Chg.refl _ _ | apply Chg.drew | apply Chg.drewN | refine Chg.alloc ?_ _)))⟩)
    · have HC := Lib.hid (show inB count 1 4 = false from decide_eq_false hc)
      go_enter Try.func161, Try.ntmps161
      go_wp2_with (first | (go_at_call 76; refine (callS (within_any _ _ _ _) HC.out).mono ?_; rintro e w' ⟨rfl, rfl⟩) | (go_at_call 217; refine (callB (isStitched_any _ ⟨4, place, count, 0, 0, dir⟩) HY.out).mono ?_; rintro e w1 ⟨rfl, g1⟩; have G1 := Lib.hid (show Up w _ from Chg.trans (by repeat (first | exact Chg.refl _ _ | apply Chg.drew | apply Chg.drewN | refine Chg.alloc ?_ _)) g1); clear g1))
      all_goals (go_ret; exact ⟨ret_bool (by first | (simp [evP, *]; done) | (simp [evP, *]; omega) | (have hb1 := HB1.out; simp [evP]; (try intros); omega) | (have hb1 := HB1.out; rw [Bool.eq_iff_iff]; simp [evP]; omega)), (by first | exact G1.out | (repeat (first | exact Chg.refl _ _ | apply Chg.drew | apply Chg.drewN | refine Chg.alloc ?_ _)))⟩)
  · skip
    by_cases hc : 1 ≤ count ∧ count ≤ 4
    · have HC := Lib.hid (inB_yes hc)
      obtain ⟨hc0, hc1⟩ := hc
      go_enter Try.func161, Try.ntmps161
      go_wp2_with (first | (go_at_call 76; refine (callS (within_any _ _ _ _) HC.out).mono ?_; rintro e w' ⟨rfl, rfl⟩) | (go_at_call 217; refine (callB (isStitched_any _ ⟨4, place, count, 0, 0, 0⟩) HY.out).mono ?_; rintro e w1 ⟨rfl, g1⟩; have G1 := Lib.hid (show Up w _ from Chg.trans (by repeat (first | exact Chg.refl _ _ | apply Chg.drew | apply Chg.drewN | refine Chg.alloc ?_ _)) g1); clear g1))
      all_goals (go_ret; exact ⟨ret_bool (by first | (simp [evP, *]; done) | (simp [evP, *]; omega) | (have hb1 := HB1.out; simp [evP]; (try intros); omega) | (have hb1 := HB1.out; rw [Bool.eq_iff_iff]; simp [evP]; omega)), (by first | exact G1.out | (repeat (first | exact Chg.refl _ _ | apply Chg.drew | apply Chg.drewN | refine Chg.alloc ?_ _)))⟩)
    · have HC := Lib.hid (show inB count 1 4 = false from decide_eq_false hc)
      go_enter Try.func161, Try.ntmps161
      go_wp2_with (first | (go_at_call 76; refine (callS (within_any _ _ _ _) HC.out).mono ?_; rintro e w' ⟨rfl, rfl⟩) | (go_at_call 217; refine (callB (isStitched_any _ ⟨4, place, count, 0, 0, 0⟩) HY.out).mono ?_; rintro e w1 ⟨rfl, g1⟩; have G1 := Lib.hid (show Up w _ from Chg.trans (by repeat (first | exact Chg.refl _ _ | apply Chg.drew | apply Chg.drewN | refine Chg.alloc ?_ _)) g1); clear g1))
      all_goals (go_ret; exact ⟨ret_bool (by first | (simp [evP, *]; done) | (simp [evP, *]; omega) | (have hb1 := HB1.out; simp [evP]; (try intros); omega) | (have hb1 := HB1.out; rw [Bool.eq_iff_iff]; simp [evP]; omega)), (by first | exact G1.out | (repeat (first | exact Chg.refl _ _ | apply Chg.drew | apply Chg.drewN | refine Chg.alloc ?_ _)))⟩)
theorem evValid_5 (w : World) (place count bed car dir n : Int) (hn : 0 ≤ n ∧ n ≤ 12) :
    Calls Try.prog 161 #[.agg #[.int .i64 5, .int .i64 place, .int .i64 count, .int .i64 bed, .int .i64 car, .int .i64 dir], .int .i64 n] w fun e w' => e = .returned (.bool (decide (evP 5 place count bed car dir n))) ∧ Up w w' := by
  obtain ⟨hn0, hn1⟩ := hn
  rcases plain4 bed car dir with h | ⟨rfl, h⟩ | ⟨rfl, rfl, h⟩ | ⟨rfl, rfl, rfl⟩
  · have f0 : (bed == 0) = false := by simpa using h
    have p0 : ¬ bed = 0 := h
    clear h
    by_cases hc : 1 ≤ count ∧ count ≤ 4
    · have HC := Lib.hid (inB_yes hc)
      obtain ⟨hc0, hc1⟩ := hc
      cases hy : yarnB bed car dir
      · have HY := Lib.hid hy
        clear hy
        by_cases hb : bed = 1
        · have g1 : (bed == 1) = true := by simp [hb]
          have HB1 := Lib.hid hb
          clear hb
          go_enter Try.func161, Try.ntmps161
          go_wp2_with (first | (go_at_call 76; (first | (with_reducible refine (callS (within_any count 1 4 _) HC.out).mono ?_) | (with_reducible refine (within_any place count n _).mono ?_)); rintro e w' ⟨rfl, rfl⟩) | (go_at_call 217; refine (callB (isStitched_any _ ⟨5, place, count, bed, car, dir⟩) HY.out).mono ?_; rintro e w1 ⟨rfl, g1⟩; have G1 := Lib.hid (show Up w _ from Chg.trans (by repeat (first | exact Chg.refl _ _ | apply Chg.drew | apply Chg.drewN | refine Chg.alloc ?_ _)) g1); have q1 := Chg.cell g1 (show (w.alloc (.cells #[.int .i64 5, .int .i64 place, .int .i64 count, .int .i64 bed, .int .i64 car, .int .i64 dir] 106)).cell? ⟨w.heap.size, 1, none⟩ = some (.int .i64 place) from cell_new _ _ _ _) id; have q2 := Chg.cell g1 (show (w.alloc (.cells #[.int .i64 5, .int .i64 place, .int .i64 count, .int .i64 bed, .int .i64 car, .int .i64 dir] 106)).cell? ⟨w.heap.size, 2, none⟩ = some (.int .i64 count) from cell_new _ _ _ _) id; have q3 := Chg.cell g1 (show (w.alloc (.cells #[.int .i64 5, .int .i64 place, .int .i64 count, .int .i64 bed, .int .i64 car, .int .i64 dir] 106)).cell? ⟨w.heap.size, 3, none⟩ = some (.int .i64 bed) from cell_new _ _ _ _) id; clear g1))
          all_goals (go_ret; exact ⟨ret_bool (by first | (simp [evP, HY.out, inB, *]; done) | (simp [evP, HY.out, inB, *]; omega) | (have hb1 := HB1.out; simp [evP, HY.out, inB]; (try intros); omega) | (have hb1 := HB1.out; rw [Bool.eq_iff_iff]; simp [evP, HY.out, inB]; omega)), (by first | exact G1.out | (repeat (first | exact Chg.refl _ _ | apply Chg.drew | apply Chg.drewN | refine Chg.alloc ?_ _)))⟩)
        · have g1 : (bed == 1) = false := by simpa using hb
          have HB1 := Lib.hid hb
          go_enter Try.func161, Try.ntmps161
          go_wp2_with (first | (go_at_call 76; (first | (with_reducible refine (callS (within_any count 1 4 _) HC.out).mono ?_) | (with_reducible refine (within_any place count n _).mono ?_)); rintro e w' ⟨rfl, rfl⟩) | (go_at_call 217; refine (callB (isStitched_any _ ⟨5, place, count, bed, car, dir⟩) HY.out).mono ?_; rintro e w1 ⟨rfl, g1⟩; have G1 := Lib.hid (show Up w _ from Chg.trans (by repeat (first | exact Chg.refl _ _ | apply Chg.drew | apply Chg.drewN | refine Chg.alloc ?_ _)) g1); have q1 := Chg.cell g1 (show (w.alloc (.cells #[.int .i64 5, .int .i64 place, .int .i64 count, .int .i64 bed, .int .i64 car, .int .i64 dir] 106)).cell? ⟨w.heap.size, 1, none⟩ = some (.int .i64 place) from cell_new _ _ _ _) id; have q2 := Chg.cell g1 (show (w.alloc (.cells #[.int .i64 5, .int .i64 place, .int .i64 count, .int .i64 bed, .int .i64 car, .int .i64 dir] 106)).cell? ⟨w.heap.size, 2, none⟩ = some (.int .i64 count) from cell_new _ _ _ _) id; have q3 := Chg.cell g1 (show (w.alloc (.cells #[.int .i64 5, .int .i64 place, .int .i64 count, .int .i64 bed, .int .i64 car, .int .i64 dir] 106)).cell? ⟨w.heap.size, 3, none⟩ = some (.int .i64 bed) from cell_new _ _ _ _) id; clear g1))
          all_goals (go_ret; exact ⟨ret_bool (by first | (simp [evP, HY.out, inB, *]; done) | (simp [evP, HY.out, inB, *]; omega) | (have hb1 := HB1.out; simp [evP, HY.out, inB]; (try intros); omega) | (have hb1 := HB1.out; rw [Bool.eq_iff_iff]; simp [evP, HY.out, inB]; omega)), (by first | exact G1.out | (repeat (first | exact Chg.refl _ _ | apply Chg.drew | apply Chg.drewN | refine Chg.alloc ?_ _)))⟩)
      · have HY := Lib.hid hy
        clear hy
        by_cases hb : bed = 1
        · have g1 : (bed == 1) = true := by simp [hb]
          have HB1 := Lib.hid hb
          clear hb
          go_enter Try.func161, Try.ntmps161
          go_wp2_with (first | (go_at_call 76; (first | (with_reducible refine (callS (within_any count 1 4 _) HC.out).mono ?_) | (with_reducible refine (within_any place count n _).mono ?_)); rintro e w' ⟨rfl, rfl⟩) | (go_at_call 217; refine (callB (isStitched_any _ ⟨5, place, count, bed, car, dir⟩) HY.out).mono ?_; rintro e w1 ⟨rfl, g1⟩; have G1 := Lib.hid (show Up w _ from Chg.trans (by repeat (first | exact Chg.refl _ _ | apply Chg.drew | apply Chg.drewN | refine Chg.alloc ?_ _)) g1); have q1 := Chg.cell g1 (show (w.alloc (.cells #[.int .i64 5, .int .i64 place, .int .i64 count, .int .i64 bed, .int .i64 car, .int .i64 dir] 106)).cell? ⟨w.heap.size, 1, none⟩ = some (.int .i64 place) from cell_new _ _ _ _) id; have q2 := Chg.cell g1 (show (w.alloc (.cells #[.int .i64 5, .int .i64 place, .int .i64 count, .int .i64 bed, .int .i64 car, .int .i64 dir] 106)).cell? ⟨w.heap.size, 2, none⟩ = some (.int .i64 count) from cell_new _ _ _ _) id; have q3 := Chg.cell g1 (show (w.alloc (.cells #[.int .i64 5, .int .i64 place, .int .i64 count, .int .i64 bed, .int .i64 car, .int .i64 dir] 106)).cell? ⟨w.heap.size, 3, none⟩ = some (.int .i64 bed) from cell_new _ _ _ _) id; clear g1))
          all_goals (go_ret; exact ⟨ret_bool (by first | (simp [evP, HY.out, inB, *]; done) | (simp [evP, HY.out, inB, *]; omega) | (have hb1 := HB1.out; simp [evP, HY.out, inB]; (try intros); omega) | (have hb1 := HB1.out; rw [Bool.eq_iff_iff]; simp [evP, HY.out, inB]; omega)), (by first | exact G1.out | (repeat (first | exact Chg.refl _ _ | apply Chg.drew | apply Chg.drewN | refine Chg.alloc ?_ _)))⟩)
        · have g1 : (bed == 1) = false := by simpa using hb
          have HB1 := Lib.hid hb
          go_enter Try.func161, Try.ntmps161
          go_wp2_with (first | (go_at_call 76; (first | (with_reducible refine (callS (within_any count 1 4 _) HC.out).mono ?_) | (with_reducible refine (within_any place count n _).mono ?_)); rintro e w' ⟨rfl, rfl⟩) | (go_at_call 217; refine (callB (isStitched_any _ ⟨5, place, count, bed, car, dir⟩) HY.out).mono ?_; rintro e w1 ⟨rfl, g1⟩; have G1 := Lib.hid (show Up w _ from Chg.trans (by repeat (first | exact Chg.refl _ _ | apply Chg.drew | apply Chg.drewN | refine Chg.alloc ?_ _)) g1); have q1 := Chg.cell g1 (show (w.alloc (.cells #[.int .i64 5, .int .i64 place, .int .i64 count, .int .i64 bed, .int .i64 car, .int .i64 dir] 106)).cell? ⟨w.heap.size, 1, none⟩ = some (.int .i64 place) from cell_new _ _ _ _) id; have q2 := Chg.cell g1 (show (w.alloc (.cells #[.int .i64 5, .int .i64 place, .int .i64 count, .int .i64 bed, .int .i64 car, .int .i64 dir] 106)).cell? ⟨w.heap.size, 2, none⟩ = some (.int .i64 count) from cell_new _ _ _ _) id; have q3 := Chg.cell g1 (show (w.alloc (.cells #[.int .i64 5, .int .i64 place, .int .i64 count, .int .i64 bed, .int .i64 car, .int .i64 dir] 106)).cell? ⟨w.heap.size, 3, none⟩ = some (.int .i64 bed) from cell_new _ _ _ _) id; clear g1))
          all_goals (go_ret; exact ⟨ret_bool (by first | (simp [evP, HY.out, inB, *]; done) | (simp [evP, HY.out, inB, *]; omega) | (have hb1 := HB1.out; simp [evP, HY.out, inB]; (try intros); omega) | (have hb1 := HB1.out; rw [Bool.eq_iff_iff]; simp [evP, HY.out, inB]; omega)), (by first | exact G1.out | (repeat (first | exact Chg.refl _ _ | apply Chg.drew | apply Chg.drewN | refine Chg.alloc ?_ _)))⟩)
    · have HC := Lib.hid (show inB count 1 4 = false from decide_eq_false hc)
      cases hy : yarnB bed car dir
      · have HY := Lib.hid hy
        clear hy
        by_cases hb : bed = 1
        · have g1 : (bed == 1) = true := by simp [hb]
          have HB1 := Lib.hid hb
          clear hb
          go_enter Try.func161, Try.ntmps161
          go_wp2_with (first | (go_at_call 76; (first | (with_reducible refine (callS (within_any count 1 4 _) HC.out).mono ?_) | (with_reducible refine (within_any place count n _).mono ?_)); rintro e w' ⟨rfl, rfl⟩) | (go_at_call 217; refine (callB (isStitched_any _ ⟨5, place, count, bed, car, dir⟩) HY.out).mono ?_; rintro e w1 ⟨rfl, g1⟩; have G1 := Lib.hid (show Up w _ from Chg.trans (by repeat (first | exact Chg.refl _ _ | apply Chg.drew | apply Chg.drewN | refine Chg.alloc ?_ _)) g1); have q1 := Chg.cell g1 (show (w.alloc (.cells #[.int .i64 5, .int .i64 place, .int .i64 count, .int .i64 bed, .int .i64 car, .int .i64 dir] 106)).cell? ⟨w.heap.size, 1, none⟩ = some (.int .i64 place) from cell_new _ _ _ _) id; have q2 := Chg.cell g1 (show (w.alloc (.cells #[.int .i64 5, .int .i64 place, .int .i64 count, .int .i64 bed, .int .i64 car, .int .i64 dir] 106)).cell? ⟨w.heap.size, 2, none⟩ = some (.int .i64 count) from cell_new _ _ _ _) id; have q3 := Chg.cell g1 (show (w.alloc (.cells #[.int .i64 5, .int .i64 place, .int .i64 count, .int .i64 bed, .int .i64 car, .int .i64 dir] 106)).cell? ⟨w.heap.size, 3, none⟩ = some (.int .i64 bed) from cell_new _ _ _ _) id; clear g1))
          all_goals (go_ret; exact ⟨ret_bool (by first | (simp [evP, HY.out, inB, *]; done) | (simp [evP, HY.out, inB, *]; omega) | (have hb1 := HB1.out; simp [evP, HY.out, inB]; (try intros); omega) | (have hb1 := HB1.out; rw [Bool.eq_iff_iff]; simp [evP, HY.out, inB]; omega)), (by first | exact G1.out | (repeat (first | exact Chg.refl _ _ | apply Chg.drew | apply Chg.drewN | refine Chg.alloc ?_ _)))⟩)
        · have g1 : (bed == 1) = false := by simpa using hb
          have HB1 := Lib.hid hb
          go_enter Try.func161, Try.ntmps161
          go_wp2_with (first | (go_at_call 76; (first | (with_reducible refine (callS (within_any count 1 4 _) HC.out).mono ?_) | (with_reducible refine (within_any place count n _).mono ?_)); rintro e w' ⟨rfl, rfl⟩) | (go_at_call 217; refine (callB (isStitched_any _ ⟨5, place, count, bed, car, dir⟩) HY.out).mono ?_; rintro e w1 ⟨rfl, g1⟩; have G1 := Lib.hid (show Up w _ from Chg.trans (by repeat (first | exact Chg.refl _ _ | apply Chg.drew | apply Chg.drewN | refine Chg.alloc ?_ _)) g1); have q1 := Chg.cell g1 (show (w.alloc (.cells #[.int .i64 5, .int .i64 place, .int .i64 count, .int .i64 bed, .int .i64 car, .int .i64 dir] 106)).cell? ⟨w.heap.size, 1, none⟩ = some (.int .i64 place) from cell_new _ _ _ _) id; have q2 := Chg.cell g1 (show (w.alloc (.cells #[.int .i64 5, .int .i64 place, .int .i64 count, .int .i64 bed, .int .i64 car, .int .i64 dir] 106)).cell? ⟨w.heap.size, 2, none⟩ = some (.int .i64 count) from cell_new _ _ _ _) id; have q3 := Chg.cell g1 (show (w.alloc (.cells #[.int .i64 5, .int .i64 place, .int .i64 count, .int .i64 bed, .int .i64 car, .int .i64 dir] 106)).cell? ⟨w.heap.size, 3, none⟩ = some (.int .i64 bed) from cell_new _ _ _ _) id; clear g1))
          all_goals (go_ret; exact ⟨ret_bool (by first | (simp [evP, HY.out, inB, *]; done) | (simp [evP, HY.out, inB, *]; omega) | (have hb1 := HB1.out; simp [evP, HY.out, inB]; (try intros); omega) | (have hb1 := HB1.out; rw [Bool.eq_iff_iff]; simp [evP, HY.out, inB]; omega)), (by first | exact G1.out | (repeat (first | exact Chg.refl _ _ | apply Chg.drew | apply Chg.drewN | refine Chg.alloc ?_ _)))⟩)
      · have HY := Lib.hid hy
        clear hy
        by_cases hb : bed = 1
        · have g1 : (bed == 1) = true := by simp [hb]
          have HB1 := Lib.hid hb
          clear hb
          go_enter Try.func161, Try.ntmps161
          go_wp2_with (first | (go_at_call 76; (first | (with_reducible refine (callS (within_any count 1 4 _) HC.out).mono ?_) | (with_reducible refine (within_any place count n _).mono ?_)); rintro e w' ⟨rfl, rfl⟩) | (go_at_call 217; refine (callB (isStitched_any _ ⟨5, place, count, bed, car, dir⟩) HY.out).mono ?_; rintro e w1 ⟨rfl, g1⟩; have G1 := Lib.hid (show Up w _ from Chg.trans (by repeat (first | exact Chg.refl _ _ | apply Chg.drew | apply Chg.drewN | refine Chg.alloc ?_ _)) g1); have q1 := Chg.cell g1 (show (w.alloc (.cells #[.int .i64 5, .int .i64 place, .int .i64 count, .int .i64 bed, .int .i64 car, .int .i64 dir] 106)).cell? ⟨w.heap.size, 1, none⟩ = some (.int .i64 place) from cell_new _ _ _ _) id; have q2 := Chg.cell g1 (show (w.alloc (.cells #[.int .i64 5, .int .i64 place, .int .i64 count, .int .i64 bed, .int .i64 car, .int .i64 dir] 106)).cell? ⟨w.heap.size, 2, none⟩ = some (.int .i64 count) from cell_new _ _ _ _) id; have q3 := Chg.cell g1 (show (w.alloc (.cells #[.int .i64 5, .int .i64 place, .int .i64 count, .int .i64 bed, .int .i64 car, .int .i64 dir] 106)).cell? ⟨w.heap.size, 3, none⟩ = some (.int .i64 bed) from cell_new _ _ _ _) id; clear g1))
          all_goals (go_ret; exact ⟨ret_bool (by first | (simp [evP, HY.out, inB, *]; done) | (simp [evP, HY.out, inB, *]; omega) | (have hb1 := HB1.out; simp [evP, HY.out, inB]; (try intros); omega) | (have hb1 := HB1.out; rw [Bool.eq_iff_iff]; simp [evP, HY.out, inB]; omega)), (by first | exact G1.out | (repeat (first | exact Chg.refl _ _ | apply Chg.drew | apply Chg.drewN | refine Chg.alloc ?_ _)))⟩)
        · have g1 : (bed == 1) = false := by simpa using hb
          have HB1 := Lib.hid hb
          go_enter Try.func161, Try.ntmps161
          go_wp2_with (first | (go_at_call 76; (first | (with_reducible refine (callS (within_any count 1 4 _) HC.out).mono ?_) | (with_reducible refine (within_any place count n _).mono ?_)); rintro e w' ⟨rfl, rfl⟩) | (go_at_call 217; refine (callB (isStitched_any _ ⟨5, place, count, bed, car, dir⟩) HY.out).mono ?_; rintro e w1 ⟨rfl, g1⟩; have G1 := Lib.hid (show Up w _ from Chg.trans (by repeat (first | exact Chg.refl _ _ | apply Chg.drew | apply Chg.drewN | refine Chg.alloc ?_ _)) g1); have q1 := Chg.cell g1 (show (w.alloc (.cells #[.int .i64 5, .int .i64 place, .int .i64 count, .int .i64 bed, .int .i64 car, .int .i64 dir] 106)).cell? ⟨w.heap.size, 1, none⟩ = some (.int .i64 place) from cell_new _ _ _ _) id; have q2 := Chg.cell g1 (show (w.alloc (.cells #[.int .i64 5, .int .i64 place, .int .i64 count, .int .i64 bed, .int .i64 car, .int .i64 dir] 106)).cell? ⟨w.heap.size, 2, none⟩ = some (.int .i64 count) from cell_new _ _ _ _) id; have q3 := Chg.cell g1 (show (w.alloc (.cells #[.int .i64 5, .int .i64 place, .int .i64 count, .int .i64 bed, .int .i64 car, .int .i64 dir] 106)).cell? ⟨w.heap.size, 3, none⟩ = some (.int .i64 bed) from cell_new _ _ _ _) id; clear g1))
          all_goals (go_ret; exact ⟨ret_bool (by first | (simp [evP, HY.out, inB, *]; done) | (simp [evP, HY.out, inB, *]; omega) | (have hb1 := HB1.out; simp [evP, HY.out, inB]; (try intros); omega) | (have hb1 := HB1.out; rw [Bool.eq_iff_iff]; simp [evP, HY.out, inB]; omega)), (by first | exact G1.out | (repeat (first | exact Chg.refl _ _ | apply Chg.drew | apply Chg.drewN | refine Chg.alloc ?_ _)))⟩)
  · have f1 : (car == 0) = false := by simpa using h
    have p1 : ¬ car = 0 := h
    clear h
    by_cases hc : 1 ≤ count ∧ count ≤ 4
    · have HC := Lib.hid (inB_yes hc)
      obtain ⟨hc0, hc1⟩ := hc
      cases hy : yarnB 0 car dir
      · have HY := Lib.hid hy
        clear hy
        go_enter Try.func161, Try.ntmps161
        go_wp2_with (first | (go_at_call 76; (first | (with_reducible refine (callS (within_any count 1 4 _) HC.out).mono ?_) | (with_reducible refine (within_any place count n _).mono ?_)); rintro e w' ⟨rfl, rfl⟩) | (go_at_call 217; refine (callB (isStitched_any _ ⟨5, place, count, 0, car, dir⟩) HY.out).mono ?_; rintro e w1 ⟨rfl, g1⟩; have G1 := Lib.hid (show Up w _ from Chg.trans (by repeat (first | exact Chg.refl _ _ | apply Chg.drew | apply Chg.drewN | refine Chg.alloc ?_ _)) g1); have q1 := Chg.cell g1 (show (w.alloc (.cells #[.int .i64 5, .int .i64 place, .int .i64 count, .int .i64 0, .int .i64 car, .int .i64 dir] 106)).cell? ⟨w.heap.size, 1, none⟩ = some (.int .i64 place) from cell_new _ _ _ _) id; have q2 := Chg.cell g1 (show (w.alloc (.cells #[.int .i64 5, .int .i64 place, .int .i64 count, .int .i64 0, .int .i64 car, .int .i64 dir] 106)).cell? ⟨w.heap.size, 2, none⟩ = some (.int .i64 count) from cell_new _ _ _ _) id; have q3 := Chg.cell g1 (show (w.alloc (.cells #[.int .i64 5, .int .i64 place, .int .i64 count, .int .i64 0, .int .i64 car, .int .i64 dir] 106)).cell? ⟨w.heap.size, 3, none⟩ = some (.int .i64 0) from cell_new _ _ _ _) id; clear g1))
        all_goals (go_ret; exact ⟨ret_bool (by first | (simp [evP, HY.out, inB, *]; done) | (simp [evP, HY.out, inB, *]; omega) | (have hb1 := HB1.out; simp [evP, HY.out, inB]; (try intros); omega) | (have hb1 := HB1.out; rw [Bool.eq_iff_iff]; simp [evP, HY.out, inB]; omega)), (by first | exact G1.out | (repeat (first | exact Chg.refl _ _ | apply Chg.drew | apply Chg.drewN | refine Chg.alloc ?_ _)))⟩)
      · have HY := Lib.hid hy
        clear hy
        go_enter Try.func161, Try.ntmps161
        go_wp2_with (first | (go_at_call 76; (first | (with_reducible refine (callS (within_any count 1 4 _) HC.out).mono ?_) | (with_reducible refine (within_any place count n _).mono ?_)); rintro e w' ⟨rfl, rfl⟩) | (go_at_call 217; refine (callB (isStitched_any _ ⟨5, place, count, 0, car, dir⟩) HY.out).mono ?_; rintro e w1 ⟨rfl, g1⟩; have G1 := Lib.hid (show Up w _ from Chg.trans (by repeat (first | exact Chg.refl _ _ | apply Chg.drew | apply Chg.drewN | refine Chg.alloc ?_ _)) g1); have q1 := Chg.cell g1 (show (w.alloc (.cells #[.int .i64 5, .int .i64 place, .int .i64 count, .int .i64 0, .int .i64 car, .int .i64 dir] 106)).cell? ⟨w.heap.size, 1, none⟩ = some (.int .i64 place) from cell_new _ _ _ _) id; have q2 := Chg.cell g1 (show (w.alloc (.cells #[.int .i64 5, .int .i64 place, .int .i64 count, .int .i64 0, .int .i64 car, .int .i64 dir] 106)).cell? ⟨w.heap.size, 2, none⟩ = some (.int .i64 count) from cell_new _ _ _ _) id; have q3 := Chg.cell g1 (show (w.alloc (.cells #[.int .i64 5, .int .i64 place, .int .i64 count, .int .i64 0, .int .i64 car, .int .i64 dir] 106)).cell? ⟨w.heap.size, 3, none⟩ = some (.int .i64 0) from cell_new _ _ _ _) id; clear g1))
        all_goals (go_ret; exact ⟨ret_bool (by first | (simp [evP, HY.out, inB, *]; done) | (simp [evP, HY.out, inB, *]; omega) | (have hb1 := HB1.out; simp [evP, HY.out, inB]; (try intros); omega) | (have hb1 := HB1.out; rw [Bool.eq_iff_iff]; simp [evP, HY.out, inB]; omega)), (by first | exact G1.out | (repeat (first | exact Chg.refl _ _ | apply Chg.drew | apply Chg.drewN | refine Chg.alloc ?_ _)))⟩)
    · have HC := Lib.hid (show inB count 1 4 = false from decide_eq_false hc)
      cases hy : yarnB 0 car dir
      · have HY := Lib.hid hy
        clear hy
        go_enter Try.func161, Try.ntmps161
        go_wp2_with (first | (go_at_call 76; (first | (with_reducible refine (callS (within_any count 1 4 _) HC.out).mono ?_) | (with_reducible refine (within_any place count n _).mono ?_)); rintro e w' ⟨rfl, rfl⟩) | (go_at_call 217; refine (callB (isStitched_any _ ⟨5, place, count, 0, car, dir⟩) HY.out).mono ?_; rintro e w1 ⟨rfl, g1⟩; have G1 := Lib.hid (show Up w _ from Chg.trans (by repeat (first | exact Chg.refl _ _ | apply Chg.drew | apply Chg.drewN | refine Chg.alloc ?_ _)) g1); have q1 := Chg.cell g1 (show (w.alloc (.cells #[.int .i64 5, .int .i64 place, .int .i64 count, .int .i64 0, .int .i64 car, .int .i64 dir] 106)).cell? ⟨w.heap.size, 1, none⟩ = some (.int .i64 place) from cell_new _ _ _ _) id; have q2 := Chg.cell g1 (show (w.alloc (.cells #[.int .i64 5, .int .i64 place, .int .i64 count, .int .i64 0, .int .i64 car, .int .i64 dir] 106)).cell? ⟨w.heap.size, 2, none⟩ = some (.int .i64 count) from cell_new _ _ _ _) id; have q3 := Chg.cell g1 (show (w.alloc (.cells #[.int .i64 5, .int .i64 place, .int .i64 count, .int .i64 0, .int .i64 car, .int .i64 dir] 106)).cell? ⟨w.heap.size, 3, none⟩ = some (.int .i64 0) from cell_new _ _ _ _) id; clear g1))
        all_goals (go_ret; exact ⟨ret_bool (by first | (simp [evP, HY.out, inB, *]; done) | (simp [evP, HY.out, inB, *]; omega) | (have hb1 := HB1.out; simp [evP, HY.out, inB]; (try intros); omega) | (have hb1 := HB1.out; rw [Bool.eq_iff_iff]; simp [evP, HY.out, inB]; omega)), (by first | exact G1.out | (repeat (first | exact Chg.refl _ _ | apply Chg.drew | apply Chg.drewN | refine Chg.alloc ?_ _)))⟩)
      · have HY := Lib.hid hy
        clear hy
        go_enter Try.func161, Try.ntmps161
        go_wp2_with (first | (go_at_call 76; (first | (with_reducible refine (callS (within_any count 1 4 _) HC.out).mono ?_) | (with_reducible refine (within_any place count n _).mono ?_)); rintro e w' ⟨rfl, rfl⟩) | (go_at_call 217; refine (callB (isStitched_any _ ⟨5, place, count, 0, car, dir⟩) HY.out).mono ?_; rintro e w1 ⟨rfl, g1⟩; have G1 := Lib.hid (show Up w _ from Chg.trans (by repeat (first | exact Chg.refl _ _ | apply Chg.drew | apply Chg.drewN | refine Chg.alloc ?_ _)) g1); have q1 := Chg.cell g1 (show (w.alloc (.cells #[.int .i64 5, .int .i64 place, .int .i64 count, .int .i64 0, .int .i64 car, .int .i64 dir] 106)).cell? ⟨w.heap.size, 1, none⟩ = some (.int .i64 place) from cell_new _ _ _ _) id; have q2 := Chg.cell g1 (show (w.alloc (.cells #[.int .i64 5, .int .i64 place, .int .i64 count, .int .i64 0, .int .i64 car, .int .i64 dir] 106)).cell? ⟨w.heap.size, 2, none⟩ = some (.int .i64 count) from cell_new _ _ _ _) id; have q3 := Chg.cell g1 (show (w.alloc (.cells #[.int .i64 5, .int .i64 place, .int .i64 count, .int .i64 0, .int .i64 car, .int .i64 dir] 106)).cell? ⟨w.heap.size, 3, none⟩ = some (.int .i64 0) from cell_new _ _ _ _) id; clear g1))
        all_goals (go_ret; exact ⟨ret_bool (by first | (simp [evP, HY.out, inB, *]; done) | (simp [evP, HY.out, inB, *]; omega) | (have hb1 := HB1.out; simp [evP, HY.out, inB]; (try intros); omega) | (have hb1 := HB1.out; rw [Bool.eq_iff_iff]; simp [evP, HY.out, inB]; omega)), (by first | exact G1.out | (repeat (first | exact Chg.refl _ _ | apply Chg.drew | apply Chg.drewN | refine Chg.alloc ?_ _)))⟩)
  · have f2 : (dir == 0) = false := by simpa using h
    have p2 : ¬ dir = 0 := h
    clear h
    by_cases hc : 1 ≤ count ∧ count ≤ 4
    · have HC := Lib.hid (inB_yes hc)
      obtain ⟨hc0, hc1⟩ := hc
      cases hy : yarnB 0 0 dir
      · have HY := Lib.hid hy
        clear hy
        go_enter Try.func161, Try.ntmps161
        go_wp2_with (first | (go_at_call 76; (first | (with_reducible refine (callS (within_any count 1 4 _) HC.out).mono ?_) | (with_reducible refine (within_any place count n _).mono ?_)); rintro e w' ⟨rfl, rfl⟩) | (go_at_call 217; refine (callB (isStitched_any _ ⟨5, place, count, 0, 0, dir⟩) HY.out).mono ?_; rintro e w1 ⟨rfl, g1⟩; have G1 := Lib.hid (show Up w _ from Chg.trans (by repeat (first | exact Chg.refl _ _ | apply Chg.drew | apply Chg.drewN | refine Chg.alloc ?_ _)) g1); have q1 := Chg.cell g1 (show (w.alloc (.cells #[.int .i64 5, .int .i64 place, .int .i64 count, .int .i64 0, .int .i64 0, .int .i64 dir] 106)).cell? ⟨w.heap.size, 1, none⟩ = some (.int .i64 place) from cell_new _ _ _ _) id; have q2 := Chg.cell g1 (show (w.alloc (.cells #[.int .i64 5, .int .i64 place, .int .i64 count, .int .i64 0, .int .i64 0, .int .i64 dir] 106)).cell? ⟨w.heap.size, 2, none⟩ = some (.int .i64 count) from cell_new _ _ _ _) id; have q3 := Chg.cell g1 (show (w.alloc (.cells #[.int .i64 5, .int .i64 place, .int .i64 count, .int .i64 0, .int .i64 0, .int .i64 dir] 106)).cell? ⟨w.heap.size, 3, none⟩ = some (.int .i64 0) from cell_new _ _ _ _) id; clear g1))
        all_goals (go_ret; exact ⟨ret_bool (by first | (simp [evP, HY.out, inB, *]; done) | (simp [evP, HY.out, inB, *]; omega) | (have hb1 := HB1.out; simp [evP, HY.out, inB]; (try intros); omega) | (have hb1 := HB1.out; rw [Bool.eq_iff_iff]; simp [evP, HY.out, inB]; omega)), (by first | exact G1.out | (repeat (first | exact Chg.refl _ _ | apply Chg.drew | apply Chg.drewN | refine Chg.alloc ?_ _)))⟩)
      · have HY := Lib.hid hy
        clear hy
        go_enter Try.func161, Try.ntmps161
        go_wp2_with (first | (go_at_call 76; (first | (with_reducible refine (callS (within_any count 1 4 _) HC.out).mono ?_) | (with_reducible refine (within_any place count n _).mono ?_)); rintro e w' ⟨rfl, rfl⟩) | (go_at_call 217; refine (callB (isStitched_any _ ⟨5, place, count, 0, 0, dir⟩) HY.out).mono ?_; rintro e w1 ⟨rfl, g1⟩; have G1 := Lib.hid (show Up w _ from Chg.trans (by repeat (first | exact Chg.refl _ _ | apply Chg.drew | apply Chg.drewN | refine Chg.alloc ?_ _)) g1); have q1 := Chg.cell g1 (show (w.alloc (.cells #[.int .i64 5, .int .i64 place, .int .i64 count, .int .i64 0, .int .i64 0, .int .i64 dir] 106)).cell? ⟨w.heap.size, 1, none⟩ = some (.int .i64 place) from cell_new _ _ _ _) id; have q2 := Chg.cell g1 (show (w.alloc (.cells #[.int .i64 5, .int .i64 place, .int .i64 count, .int .i64 0, .int .i64 0, .int .i64 dir] 106)).cell? ⟨w.heap.size, 2, none⟩ = some (.int .i64 count) from cell_new _ _ _ _) id; have q3 := Chg.cell g1 (show (w.alloc (.cells #[.int .i64 5, .int .i64 place, .int .i64 count, .int .i64 0, .int .i64 0, .int .i64 dir] 106)).cell? ⟨w.heap.size, 3, none⟩ = some (.int .i64 0) from cell_new _ _ _ _) id; clear g1))
        all_goals (go_ret; exact ⟨ret_bool (by first | (simp [evP, HY.out, inB, *]; done) | (simp [evP, HY.out, inB, *]; omega) | (have hb1 := HB1.out; simp [evP, HY.out, inB]; (try intros); omega) | (have hb1 := HB1.out; rw [Bool.eq_iff_iff]; simp [evP, HY.out, inB]; omega)), (by first | exact G1.out | (repeat (first | exact Chg.refl _ _ | apply Chg.drew | apply Chg.drewN | refine Chg.alloc ?_ _)))⟩)
    · have HC := Lib.hid (show inB count 1 4 = false from decide_eq_false hc)
      cases hy : yarnB 0 0 dir
      · have HY := Lib.hid hy
        clear hy
        go_enter Try.func161, Try.ntmps161
        go_wp2_with (first | (go_at_call 76; (first | (with_reducible refine (callS (within_any count 1 4 _) HC.out).mono ?_) | (with_reducible refine (within_any place count n _).mono ?_)); rintro e w' ⟨rfl, rfl⟩) | (go_at_call 217; refine (callB (isStitched_any _ ⟨5, place, count, 0, 0, dir⟩) HY.out).mono ?_; rintro e w1 ⟨rfl, g1⟩; have G1 := Lib.hid (show Up w _ from Chg.trans (by repeat (first | exact Chg.refl _ _ | apply Chg.drew | apply Chg.drewN | refine Chg.alloc ?_ _)) g1); have q1 := Chg.cell g1 (show (w.alloc (.cells #[.int .i64 5, .int .i64 place, .int .i64 count, .int .i64 0, .int .i64 0, .int .i64 dir] 106)).cell? ⟨w.heap.size, 1, none⟩ = some (.int .i64 place) from cell_new _ _ _ _) id; have q2 := Chg.cell g1 (show (w.alloc (.cells #[.int .i64 5, .int .i64 place, .int .i64 count, .int .i64 0, .int .i64 0, .int .i64 dir] 106)).cell? ⟨w.heap.size, 2, none⟩ = some (.int .i64 count) from cell_new _ _ _ _) id; have q3 := Chg.cell g1 (show (w.alloc (.cells #[.int .i64 5, .int .i64 place, .int .i64 count, .int .i64 0, .int .i64 0, .int .i64 dir] 106)).cell? ⟨w.heap.size, 3, none⟩ = some (.int .i64 0) from cell_new _ _ _ _) id; clear g1))
        all_goals (go_ret; exact ⟨ret_bool (by first | (simp [evP, HY.out, inB, *]; done) | (simp [evP, HY.out, inB, *]; omega) | (have hb1 := HB1.out; simp [evP, HY.out, inB]; (try intros); omega) | (have hb1 := HB1.out; rw [Bool.eq_iff_iff]; simp [evP, HY.out, inB]; omega)), (by first | exact G1.out | (repeat (first | exact Chg.refl _ _ | apply Chg.drew | apply Chg.drewN | refine Chg.alloc ?_ _)))⟩)
      · have HY := Lib.hid hy
        clear hy
        go_enter Try.func161, Try.ntmps161
        go_wp2_with (first | (go_at_call 76; (first | (with_reducible refine (callS (within_any count 1 4 _) HC.out).mono ?_) | (with_reducible refine (within_any place count n _).mono ?_)); rintro e w' ⟨rfl, rfl⟩) | (go_at_call 217; refine (callB (isStitched_any _ ⟨5, place, count, 0, 0, dir⟩) HY.out).mono ?_; rintro e w1 ⟨rfl, g1⟩; have G1 := Lib.hid (show Up w _ from Chg.trans (by repeat (first | exact Chg.refl _ _ | apply Chg.drew | apply Chg.drewN | refine Chg.alloc ?_ _)) g1); have q1 := Chg.cell g1 (show (w.alloc (.cells #[.int .i64 5, .int .i64 place, .int .i64 count, .int .i64 0, .int .i64 0, .int .i64 dir] 106)).cell? ⟨w.heap.size, 1, none⟩ = some (.int .i64 place) from cell_new _ _ _ _) id; have q2 := Chg.cell g1 (show (w.alloc (.cells #[.int .i64 5, .int .i64 place, .int .i64 count, .int .i64 0, .int .i64 0, .int .i64 dir] 106)).cell? ⟨w.heap.size, 2, none⟩ = some (.int .i64 count) from cell_new _ _ _ _) id; have q3 := Chg.cell g1 (show (w.alloc (.cells #[.int .i64 5, .int .i64 place, .int .i64 count, .int .i64 0, .int .i64 0, .int .i64 dir] 106)).cell? ⟨w.heap.size, 3, none⟩ = some (.int .i64 0) from cell_new _ _ _ _) id; clear g1))
        all_goals (go_ret; exact ⟨ret_bool (by first | (simp [evP, HY.out, inB, *]; done) | (simp [evP, HY.out, inB, *]; omega) | (have hb1 := HB1.out; simp [evP, HY.out, inB]; (try intros); omega) | (have hb1 := HB1.out; rw [Bool.eq_iff_iff]; simp [evP, HY.out, inB]; omega)), (by first | exact G1.out | (repeat (first | exact Chg.refl _ _ | apply Chg.drew | apply Chg.drewN | refine Chg.alloc ?_ _)))⟩)
  · skip
    by_cases hc : 1 ≤ count ∧ count ≤ 4
    · have HC := Lib.hid (inB_yes hc)
      obtain ⟨hc0, hc1⟩ := hc
      cases hy : yarnB 0 0 0
      · have HY := Lib.hid hy
        clear hy
        go_enter Try.func161, Try.ntmps161
        go_wp2_with (first | (go_at_call 76; (first | (with_reducible refine (callS (within_any count 1 4 _) HC.out).mono ?_) | (with_reducible refine (within_any place count n _).mono ?_)); rintro e w' ⟨rfl, rfl⟩) | (go_at_call 217; refine (callB (isStitched_any _ ⟨5, place, count, 0, 0, 0⟩) HY.out).mono ?_; rintro e w1 ⟨rfl, g1⟩; have G1 := Lib.hid (show Up w _ from Chg.trans (by repeat (first | exact Chg.refl _ _ | apply Chg.drew | apply Chg.drewN | refine Chg.alloc ?_ _)) g1); have q1 := Chg.cell g1 (show (w.alloc (.cells #[.int .i64 5, .int .i64 place, .int .i64 count, .int .i64 0, .int .i64 0, .int .i64 0] 106)).cell? ⟨w.heap.size, 1, none⟩ = some (.int .i64 place) from cell_new _ _ _ _) id; have q2 := Chg.cell g1 (show (w.alloc (.cells #[.int .i64 5, .int .i64 place, .int .i64 count, .int .i64 0, .int .i64 0, .int .i64 0] 106)).cell? ⟨w.heap.size, 2, none⟩ = some (.int .i64 count) from cell_new _ _ _ _) id; have q3 := Chg.cell g1 (show (w.alloc (.cells #[.int .i64 5, .int .i64 place, .int .i64 count, .int .i64 0, .int .i64 0, .int .i64 0] 106)).cell? ⟨w.heap.size, 3, none⟩ = some (.int .i64 0) from cell_new _ _ _ _) id; clear g1))
        all_goals (go_ret; exact ⟨ret_bool (by first | (simp [evP, HY.out, inB, *]; done) | (simp [evP, HY.out, inB, *]; omega) | (have hb1 := HB1.out; simp [evP, HY.out, inB]; (try intros); omega) | (have hb1 := HB1.out; rw [Bool.eq_iff_iff]; simp [evP, HY.out, inB]; omega)), (by first | exact G1.out | (repeat (first | exact Chg.refl _ _ | apply Chg.drew | apply Chg.drewN | refine Chg.alloc ?_ _)))⟩)
      · have HY := Lib.hid hy
        clear hy
        go_enter Try.func161, Try.ntmps161
        go_wp2_with (first | (go_at_call 76; (first | (with_reducible refine (callS (within_any count 1 4 _) HC.out).mono ?_) | (with_reducible refine (within_any place count n _).mono ?_)); rintro e w' ⟨rfl, rfl⟩) | (go_at_call 217; refine (callB (isStitched_any _ ⟨5, place, count, 0, 0, 0⟩) HY.out).mono ?_; rintro e w1 ⟨rfl, g1⟩; have G1 := Lib.hid (show Up w _ from Chg.trans (by repeat (first | exact Chg.refl _ _ | apply Chg.drew | apply Chg.drewN | refine Chg.alloc ?_ _)) g1); have q1 := Chg.cell g1 (show (w.alloc (.cells #[.int .i64 5, .int .i64 place, .int .i64 count, .int .i64 0, .int .i64 0, .int .i64 0] 106)).cell? ⟨w.heap.size, 1, none⟩ = some (.int .i64 place) from cell_new _ _ _ _) id; have q2 := Chg.cell g1 (show (w.alloc (.cells #[.int .i64 5, .int .i64 place, .int .i64 count, .int .i64 0, .int .i64 0, .int .i64 0] 106)).cell? ⟨w.heap.size, 2, none⟩ = some (.int .i64 count) from cell_new _ _ _ _) id; have q3 := Chg.cell g1 (show (w.alloc (.cells #[.int .i64 5, .int .i64 place, .int .i64 count, .int .i64 0, .int .i64 0, .int .i64 0] 106)).cell? ⟨w.heap.size, 3, none⟩ = some (.int .i64 0) from cell_new _ _ _ _) id; clear g1))
        all_goals (go_ret; exact ⟨ret_bool (by first | (simp [evP, HY.out, inB, *]; done) | (simp [evP, HY.out, inB, *]; omega) | (have hb1 := HB1.out; simp [evP, HY.out, inB]; (try intros); omega) | (have hb1 := HB1.out; rw [Bool.eq_iff_iff]; simp [evP, HY.out, inB]; omega)), (by first | exact G1.out | (repeat (first | exact Chg.refl _ _ | apply Chg.drew | apply Chg.drewN | refine Chg.alloc ?_ _)))⟩)
    · have HC := Lib.hid (show inB count 1 4 = false from decide_eq_false hc)
      cases hy : yarnB 0 0 0
      · have HY := Lib.hid hy
        clear hy
        go_enter Try.func161, Try.ntmps161
        go_wp2_with (first | (go_at_call 76; (first | (with_reducible refine (callS (within_any count 1 4 _) HC.out).mono ?_) | (with_reducible refine (within_any place count n _).mono ?_)); rintro e w' ⟨rfl, rfl⟩) | (go_at_call 217; refine (callB (isStitched_any _ ⟨5, place, count, 0, 0, 0⟩) HY.out).mono ?_; rintro e w1 ⟨rfl, g1⟩; have G1 := Lib.hid (show Up w _ from Chg.trans (by repeat (first | exact Chg.refl _ _ | apply Chg.drew | apply Chg.drewN | refine Chg.alloc ?_ _)) g1); have q1 := Chg.cell g1 (show (w.alloc (.cells #[.int .i64 5, .int .i64 place, .int .i64 count, .int .i64 0, .int .i64 0, .int .i64 0] 106)).cell? ⟨w.heap.size, 1, none⟩ = some (.int .i64 place) from cell_new _ _ _ _) id; have q2 := Chg.cell g1 (show (w.alloc (.cells #[.int .i64 5, .int .i64 place, .int .i64 count, .int .i64 0, .int .i64 0, .int .i64 0] 106)).cell? ⟨w.heap.size, 2, none⟩ = some (.int .i64 count) from cell_new _ _ _ _) id; have q3 := Chg.cell g1 (show (w.alloc (.cells #[.int .i64 5, .int .i64 place, .int .i64 count, .int .i64 0, .int .i64 0, .int .i64 0] 106)).cell? ⟨w.heap.size, 3, none⟩ = some (.int .i64 0) from cell_new _ _ _ _) id; clear g1))
        all_goals (go_ret; exact ⟨ret_bool (by first | (simp [evP, HY.out, inB, *]; done) | (simp [evP, HY.out, inB, *]; omega) | (have hb1 := HB1.out; simp [evP, HY.out, inB]; (try intros); omega) | (have hb1 := HB1.out; rw [Bool.eq_iff_iff]; simp [evP, HY.out, inB]; omega)), (by first | exact G1.out | (repeat (first | exact Chg.refl _ _ | apply Chg.drew | apply Chg.drewN | refine Chg.alloc ?_ _)))⟩)
      · have HY := Lib.hid hy
        clear hy
        go_enter Try.func161, Try.ntmps161
        go_wp2_with (first | (go_at_call 76; (first | (with_reducible refine (callS (within_any count 1 4 _) HC.out).mono ?_) | (with_reducible refine (within_any place count n _).mono ?_)); rintro e w' ⟨rfl, rfl⟩) | (go_at_call 217; refine (callB (isStitched_any _ ⟨5, place, count, 0, 0, 0⟩) HY.out).mono ?_; rintro e w1 ⟨rfl, g1⟩; have G1 := Lib.hid (show Up w _ from Chg.trans (by repeat (first | exact Chg.refl _ _ | apply Chg.drew | apply Chg.drewN | refine Chg.alloc ?_ _)) g1); have q1 := Chg.cell g1 (show (w.alloc (.cells #[.int .i64 5, .int .i64 place, .int .i64 count, .int .i64 0, .int .i64 0, .int .i64 0] 106)).cell? ⟨w.heap.size, 1, none⟩ = some (.int .i64 place) from cell_new _ _ _ _) id; have q2 := Chg.cell g1 (show (w.alloc (.cells #[.int .i64 5, .int .i64 place, .int .i64 count, .int .i64 0, .int .i64 0, .int .i64 0] 106)).cell? ⟨w.heap.size, 2, none⟩ = some (.int .i64 count) from cell_new _ _ _ _) id; have q3 := Chg.cell g1 (show (w.alloc (.cells #[.int .i64 5, .int .i64 place, .int .i64 count, .int .i64 0, .int .i64 0, .int .i64 0] 106)).cell? ⟨w.heap.size, 3, none⟩ = some (.int .i64 0) from cell_new _ _ _ _) id; clear g1))
        all_goals (go_ret; exact ⟨ret_bool (by first | (simp [evP, HY.out, inB, *]; done) | (simp [evP, HY.out, inB, *]; omega) | (have hb1 := HB1.out; simp [evP, HY.out, inB]; (try intros); omega) | (have hb1 := HB1.out; rw [Bool.eq_iff_iff]; simp [evP, HY.out, inB]; omega)), (by first | exact G1.out | (repeat (first | exact Chg.refl _ _ | apply Chg.drew | apply Chg.drewN | refine Chg.alloc ?_ _)))⟩)
theorem evValid_else (w : World) (k place count bed car dir n : Int) (hk : k ≠ 1 ∧ k ≠ 2 ∧ k ≠ 3 ∧ k ≠ 4 ∧ k ≠ 5) :
    Calls Try.prog 161 #[.agg #[.int .i64 k, .int .i64 place, .int .i64 count, .int .i64 bed, .int .i64 car, .int .i64 dir], .int .i64 n] w fun e w' => e = .returned (.bool (decide (evP k place count bed car dir n))) ∧ Up w w' := by
  have HB := Lib.hid (show decide (evP k place count bed car dir n) = false from decide_eq_false (by unfold evP; omega))
  obtain ⟨k1, k2, k3, k4, k5⟩ := hk
  have e1 : (k == 1) = false := by simpa using k1
  have e2 : (k == 2) = false := by simpa using k2
  have e3 : (k == 3) = false := by simpa using k3
  have e4 : (k == 4) = false := by simpa using k4
  have e5 : (k == 5) = false := by simpa using k5
  clear k1 k2 k3 k4 k5
  rw [HB.out]
  go_enter Try.func161, Try.ntmps161
  go_wp2
  all_goals (go_ret; exact ⟨rfl, (by repeat (first | exact Chg.refl _ _ | apply Chg.drew | apply Chg.drewN | refine Chg.alloc ?_ _))⟩)
theorem evValid_any (w : World) (x : EvM) (n : Int) (hn : 0 ≤ n ∧ n ≤ 12) :
    Calls Try.prog 161 #[x.val, .int .i64 n] w fun e w' => e = .returned (.bool (evOk x n)) ∧ Up w w' := by
  obtain ⟨k, place, count, bed, car, dir⟩ := x
  by_cases k1 : k = 1
  · subst k1; exact evValid_1 w place count bed car dir n hn
  by_cases k2 : k = 2
  · subst k2; exact evValid_2 w place count bed car dir n hn
  by_cases k3 : k = 3
  · subst k3; exact evValid_3 w place count bed car dir n hn
  by_cases k4 : k = 4
  · subst k4; exact evValid_4 w place count bed car dir n hn
  by_cases k5 : k = 5
  · subst k5; exact evValid_5 w place count bed car dir n hn
  exact evValid_else w k place count bed car dir n ⟨k1, k2, k3, k4, k5⟩
theorem evAfter_any (w : World) (x : EvM) (n : Int) (hn : 0 ≤ n ∧ n ≤ 12) (h : evOk x n = true) :
    Calls Try.prog 162 #[x.val, .int .i64 n] w fun e w' => e = .returned (.int .i64 (evAfter x.kind x.count n)) ∧ Up w w' := by
  have h := of_decide_eq_true h
  obtain ⟨k, place, count, bed, car, dir⟩ := x
  obtain ⟨-, hc⟩ := h
  simp only [] at hc
  have HC := Lib.hid hc
  have hcb : k = 1 ∨ k = 2 ∧ (0 ≤ count ∧ count ≤ 4) ∨ k = 3 ∨ k = 4 ∧ (1 ≤ count ∧ count ≤ 4) ∨ k = 5 := by
    rcases hc with ⟨h, _⟩ | ⟨h, h2, _⟩ | ⟨h, _⟩ | ⟨h, h2, _⟩ | ⟨h, _⟩
    · exact .inl h
    · exact .inr (.inl ⟨h, h2⟩)
    · exact .inr (.inr (.inl h))
    · exact .inr (.inr (.inr (.inl ⟨h, h2⟩)))
    · exact .inr (.inr (.inr (.inr h)))
  clear hc HC
  obtain ⟨hn0, hn1⟩ := hn
  rcases hcb with rfl | ⟨rfl, h0, h1⟩ | rfl | ⟨rfl, h0, h1⟩ | rfl
  all_goals
    go_enter Try.func162, Try.ntmps162
    go_wp2
    go_ret
    exact ⟨ret_int (by simp [evAfter]), (by repeat (first | exact Chg.refl _ _ | apply Chg.drew | apply Chg.drewN | refine Chg.alloc ?_ _))⟩
end Go.Proofs.Ytjgdcjhmfbefdaa
