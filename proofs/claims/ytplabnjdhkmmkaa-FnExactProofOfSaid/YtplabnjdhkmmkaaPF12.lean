/- Events that are valid for some strands, on both sides. No condition. Plain words for valid proofs. No condition. Strands behind events; crossings among events. No condition. -/
import Derived.Test.YtplabnjdhkmmkaaPF5
import Derived.Test.YtplabnjdhkmmkaaPF11
import Derived.Test.YtplabnjdhkmmkaaPF8
import Derived.Test.YtplabnjdhkmmkaaPF10
section
set_option maxRecDepth 100000
set_option maxHeartbeats 4000000
set_option linter.unusedSimpArgs false
set_option linter.unusedVariables false
namespace Go.Proofs.Ytplabnjdhkmmkaa
open Go.ChangeShapes Go.WideShapes Go.ChangeAt Go.RowKit
def yarnB (bed car dir : Int) : Bool := bedB bed && (carB car && dirB dir)
def evP (k place count bed car dir n : Int) : Prop :=
  0 ≤ place ∧ ((k = 1 ∧ place ≤ n - 2 ∧ (count = 1 ∨ count = -1) ∧ bed = 0 ∧ car = 0 ∧ dir = 0) ∨ (k = 2 ∧ (0 ≤ count ∧ count ≤ 4) ∧ place ≤ n - count ∧ yarnB bed car dir = true) ∨ (k = 3 ∧ count = 0 ∧ place ≤ n ∧ yarnB bed car dir = true) ∨
    (k = 4 ∧ (1 ≤ count ∧ count ≤ 4) ∧ place ≤ n - count ∧ bed = 0 ∧ car = 0 ∧ dir = 0) ∨ (k = 5 ∧ (1 ≤ count ∧ count ≤ 4) ∧ yarnB bed car dir = true ∧ ((bed = 1 ∧ place ≤ n - count) ∨ (bed ≠ 1 ∧ count ≤ place ∧ place ≤ n))))
instance (k place count bed car dir n : Int) : Decidable (evP k place count bed car dir n) := by unfold evP; infer_instance
def evOk (x : EvM) (n : Int) : Bool := decide (evP x.kind x.place x.count x.bed x.car x.dir n)
def evAfter (k count n : Int) : Int := if k = 2 then n - count + 1 else if k = 3 ∨ k = 5 then n + 1 else if k = 4 then n - count else n
theorem isStitched_any (w : World) (x : EvM) : Calls Try.prog 135 #[x.val] w fun e w' => e = .returned (.bool (yarnB x.bed x.car x.dir)) ∧ Up w w' := by
  cases h1 : bedB x.bed <;> cases h2 : carB x.car <;> unfold yarnB <;> rw [h1, h2]
  all_goals
    have H1 := Lib.hid h1
    have H2 := Lib.hid h2
    clear h1 h2
    go_enter Try.func135, Try.ntmps135
    go_wp2_with (first | (go_at_call 141; refine (callS (isBed_any _ _) H1.out).mono ?_; rintro e w' ⟨rfl, rfl⟩) | (go_at_call 29; refine (callS (isCarrier_any _ _) H2.out).mono ?_; rintro e w' ⟨rfl, rfl⟩) | (go_at_call 142; refine (isDirection_any _ _).mono ?_; rintro e w' ⟨rfl, rfl⟩))
    go_ret
    exact ⟨rfl, (by repeat (first | exact Chg.refl _ _ | apply Chg.drew | apply Chg.drewN | refine Chg.alloc ?_ _))⟩
theorem plain4 (b c d : Int) : b ≠ 0 ∨ (b = 0 ∧ c ≠ 0) ∨ (b = 0 ∧ c = 0 ∧ d ≠ 0) ∨ (b = 0 ∧ c = 0 ∧ d = 0) := by omega
theorem evValid_1 (w : World) (place count bed car dir n : Int) (hn : 0 ≤ n ∧ n ≤ 12) :
    Calls Try.prog 126 #[.agg #[.int .i64 1, .int .i64 place, .int .i64 count, .int .i64 bed, .int .i64 car, .int .i64 dir], .int .i64 n] w fun e w' => e = .returned (.bool (decide (evP 1 place count bed car dir n))) ∧ Up w w' := by
  obtain ⟨hn0, hn1⟩ := hn
  rcases plain4 bed car dir with h | ⟨rfl, h⟩ | ⟨rfl, rfl, h⟩ | ⟨rfl, rfl, rfl⟩
  · have f0 : (bed == 0) = false := by simpa using h
    have p0 : ¬ bed = 0 := h
    clear h
    rcases (show count = 1 ∨ count = -1 ∨ (count ≠ 1 ∧ count ≠ -1) by omega) with rfl | rfl | ⟨c1, c2⟩
    · skip
      go_enter Try.func126, Try.ntmps126
      go_wp2
      all_goals (go_ret; exact ⟨ret_bool (by first | (simp [evP, *]; done) | (simp [evP, *]; omega)), (by repeat (first | exact Chg.refl _ _ | apply Chg.drew | apply Chg.drewN | refine Chg.alloc ?_ _))⟩)
    · have g1 : ((-1 : Int) == 1) = false := rfl
      go_enter Try.func126, Try.ntmps126
      go_wp2
      all_goals (go_ret; exact ⟨ret_bool (by first | (simp [evP, *]; done) | (simp [evP, *]; omega)), (by repeat (first | exact Chg.refl _ _ | apply Chg.drew | apply Chg.drewN | refine Chg.alloc ?_ _))⟩)
    · have g1 : (count == 1) = false := by simpa using c1
      have g2 : (count == -1) = false := by simpa using c2
      go_enter Try.func126, Try.ntmps126
      go_wp2
      all_goals (go_ret; exact ⟨ret_bool (by first | (simp [evP, *]; done) | (simp [evP, *]; omega)), (by repeat (first | exact Chg.refl _ _ | apply Chg.drew | apply Chg.drewN | refine Chg.alloc ?_ _))⟩)
  · have f1 : (car == 0) = false := by simpa using h
    have p1 : ¬ car = 0 := h
    clear h
    rcases (show count = 1 ∨ count = -1 ∨ (count ≠ 1 ∧ count ≠ -1) by omega) with rfl | rfl | ⟨c1, c2⟩
    · skip
      go_enter Try.func126, Try.ntmps126
      go_wp2
      all_goals (go_ret; exact ⟨ret_bool (by first | (simp [evP, *]; done) | (simp [evP, *]; omega)), (by repeat (first | exact Chg.refl _ _ | apply Chg.drew | apply Chg.drewN | refine Chg.alloc ?_ _))⟩)
    · have g1 : ((-1 : Int) == 1) = false := rfl
      go_enter Try.func126, Try.ntmps126
      go_wp2
      all_goals (go_ret; exact ⟨ret_bool (by first | (simp [evP, *]; done) | (simp [evP, *]; omega)), (by repeat (first | exact Chg.refl _ _ | apply Chg.drew | apply Chg.drewN | refine Chg.alloc ?_ _))⟩)
    · have g1 : (count == 1) = false := by simpa using c1
      have g2 : (count == -1) = false := by simpa using c2
      go_enter Try.func126, Try.ntmps126
      go_wp2
      all_goals (go_ret; exact ⟨ret_bool (by first | (simp [evP, *]; done) | (simp [evP, *]; omega)), (by repeat (first | exact Chg.refl _ _ | apply Chg.drew | apply Chg.drewN | refine Chg.alloc ?_ _))⟩)
  · have f2 : (dir == 0) = false := by simpa using h
    have p2 : ¬ dir = 0 := h
    clear h
    rcases (show count = 1 ∨ count = -1 ∨ (count ≠ 1 ∧ count ≠ -1) by omega) with rfl | rfl | ⟨c1, c2⟩
    · skip
      go_enter Try.func126, Try.ntmps126
      go_wp2
      all_goals (go_ret; exact ⟨ret_bool (by first | (simp [evP, *]; done) | (simp [evP, *]; omega)), (by repeat (first | exact Chg.refl _ _ | apply Chg.drew | apply Chg.drewN | refine Chg.alloc ?_ _))⟩)
    · have g1 : ((-1 : Int) == 1) = false := rfl
      go_enter Try.func126, Try.ntmps126
      go_wp2
      all_goals (go_ret; exact ⟨ret_bool (by first | (simp [evP, *]; done) | (simp [evP, *]; omega)), (by repeat (first | exact Chg.refl _ _ | apply Chg.drew | apply Chg.drewN | refine Chg.alloc ?_ _))⟩)
    · have g1 : (count == 1) = false := by simpa using c1
      have g2 : (count == -1) = false := by simpa using c2
      go_enter Try.func126, Try.ntmps126
      go_wp2
      all_goals (go_ret; exact ⟨ret_bool (by first | (simp [evP, *]; done) | (simp [evP, *]; omega)), (by repeat (first | exact Chg.refl _ _ | apply Chg.drew | apply Chg.drewN | refine Chg.alloc ?_ _))⟩)
  · skip
    rcases (show count = 1 ∨ count = -1 ∨ (count ≠ 1 ∧ count ≠ -1) by omega) with rfl | rfl | ⟨c1, c2⟩
    · skip
      go_enter Try.func126, Try.ntmps126
      go_wp2
      all_goals (go_ret; exact ⟨ret_bool (by first | (simp [evP, *]; done) | (simp [evP, *]; omega)), (by repeat (first | exact Chg.refl _ _ | apply Chg.drew | apply Chg.drewN | refine Chg.alloc ?_ _))⟩)
    · have g1 : ((-1 : Int) == 1) = false := rfl
      go_enter Try.func126, Try.ntmps126
      go_wp2
      all_goals (go_ret; exact ⟨ret_bool (by first | (simp [evP, *]; done) | (simp [evP, *]; omega)), (by repeat (first | exact Chg.refl _ _ | apply Chg.drew | apply Chg.drewN | refine Chg.alloc ?_ _))⟩)
    · have g1 : (count == 1) = false := by simpa using c1
      have g2 : (count == -1) = false := by simpa using c2
      go_enter Try.func126, Try.ntmps126
      go_wp2
      all_goals (go_ret; exact ⟨ret_bool (by first | (simp [evP, *]; done) | (simp [evP, *]; omega)), (by repeat (first | exact Chg.refl _ _ | apply Chg.drew | apply Chg.drewN | refine Chg.alloc ?_ _))⟩)
theorem evValid_2 (w : World) (place count bed car dir n : Int) (hn : 0 ≤ n ∧ n ≤ 12) :
    Calls Try.prog 126 #[.agg #[.int .i64 2, .int .i64 place, .int .i64 count, .int .i64 bed, .int .i64 car, .int .i64 dir], .int .i64 n] w fun e w' => e = .returned (.bool (decide (evP 2 place count bed car dir n))) ∧ Up w w' := by
  obtain ⟨hn0, hn1⟩ := hn
  rcases plain4 bed car dir with h | ⟨rfl, h⟩ | ⟨rfl, rfl, h⟩ | ⟨rfl, rfl, rfl⟩
  · have f0 : (bed == 0) = false := by simpa using h
    have p0 : ¬ bed = 0 := h
    clear h
    by_cases hc : 0 ≤ count ∧ count ≤ 4
    · have HC := Lib.hid (inB_yes hc)
      obtain ⟨hc0, hc1⟩ := hc
      cases hy : yarnB bed car dir
      · have HY := Lib.hid hy
        clear hy
        go_enter Try.func126, Try.ntmps126
        go_wp2_with (first | (go_at_call 60; refine (callS (within_any _ _ _ _) HC.out).mono ?_; rintro e w' ⟨rfl, rfl⟩) | (go_at_call 135; refine (callB (isStitched_any _ ⟨2, place, count, bed, car, dir⟩) HY.out).mono ?_; rintro e w1 ⟨rfl, g1⟩; have G1 := Lib.hid (show Up w _ from Chg.trans (by repeat (first | exact Chg.refl _ _ | apply Chg.drew | apply Chg.drewN | refine Chg.alloc ?_ _)) g1); clear g1))
        all_goals (go_ret; exact ⟨ret_bool (by first | (simp [evP, HY.out, *]; done) | (simp [evP, HY.out, *]; omega) | (have hb1 := HB1.out; simp [evP, HY.out]; (try intros); omega) | (have hb1 := HB1.out; rw [Bool.eq_iff_iff]; simp [evP, HY.out]; omega)), (by first | exact G1.out | (repeat (first | exact Chg.refl _ _ | apply Chg.drew | apply Chg.drewN | refine Chg.alloc ?_ _)))⟩)
      · have HY := Lib.hid hy
        clear hy
        go_enter Try.func126, Try.ntmps126
        go_wp2_with (first | (go_at_call 60; refine (callS (within_any _ _ _ _) HC.out).mono ?_; rintro e w' ⟨rfl, rfl⟩) | (go_at_call 135; refine (callB (isStitched_any _ ⟨2, place, count, bed, car, dir⟩) HY.out).mono ?_; rintro e w1 ⟨rfl, g1⟩; have G1 := Lib.hid (show Up w _ from Chg.trans (by repeat (first | exact Chg.refl _ _ | apply Chg.drew | apply Chg.drewN | refine Chg.alloc ?_ _)) g1); clear g1))
        all_goals (go_ret; exact ⟨ret_bool (by first | (simp [evP, HY.out, *]; done) | (simp [evP, HY.out, *]; omega) | (have hb1 := HB1.out; simp [evP, HY.out]; (try intros); omega) | (have hb1 := HB1.out; rw [Bool.eq_iff_iff]; simp [evP, HY.out]; omega)), (by first | exact G1.out | (repeat (first | exact Chg.refl _ _ | apply Chg.drew | apply Chg.drewN | refine Chg.alloc ?_ _)))⟩)
    · have HC := Lib.hid (show inB count 0 4 = false from decide_eq_false hc)
      cases hy : yarnB bed car dir
      · have HY := Lib.hid hy
        clear hy
        go_enter Try.func126, Try.ntmps126
        go_wp2_with (first | (go_at_call 60; refine (callS (within_any _ _ _ _) HC.out).mono ?_; rintro e w' ⟨rfl, rfl⟩) | (go_at_call 135; refine (callB (isStitched_any _ ⟨2, place, count, bed, car, dir⟩) HY.out).mono ?_; rintro e w1 ⟨rfl, g1⟩; have G1 := Lib.hid (show Up w _ from Chg.trans (by repeat (first | exact Chg.refl _ _ | apply Chg.drew | apply Chg.drewN | refine Chg.alloc ?_ _)) g1); clear g1))
        all_goals (go_ret; exact ⟨ret_bool (by first | (simp [evP, HY.out, *]; done) | (simp [evP, HY.out, *]; omega) | (have hb1 := HB1.out; simp [evP, HY.out]; (try intros); omega) | (have hb1 := HB1.out; rw [Bool.eq_iff_iff]; simp [evP, HY.out]; omega)), (by first | exact G1.out | (repeat (first | exact Chg.refl _ _ | apply Chg.drew | apply Chg.drewN | refine Chg.alloc ?_ _)))⟩)
      · have HY := Lib.hid hy
        clear hy
        go_enter Try.func126, Try.ntmps126
        go_wp2_with (first | (go_at_call 60; refine (callS (within_any _ _ _ _) HC.out).mono ?_; rintro e w' ⟨rfl, rfl⟩) | (go_at_call 135; refine (callB (isStitched_any _ ⟨2, place, count, bed, car, dir⟩) HY.out).mono ?_; rintro e w1 ⟨rfl, g1⟩; have G1 := Lib.hid (show Up w _ from Chg.trans (by repeat (first | exact Chg.refl _ _ | apply Chg.drew | apply Chg.drewN | refine Chg.alloc ?_ _)) g1); clear g1))
        all_goals (go_ret; exact ⟨ret_bool (by first | (simp [evP, HY.out, *]; done) | (simp [evP, HY.out, *]; omega) | (have hb1 := HB1.out; simp [evP, HY.out]; (try intros); omega) | (have hb1 := HB1.out; rw [Bool.eq_iff_iff]; simp [evP, HY.out]; omega)), (by first | exact G1.out | (repeat (first | exact Chg.refl _ _ | apply Chg.drew | apply Chg.drewN | refine Chg.alloc ?_ _)))⟩)
  · have f1 : (car == 0) = false := by simpa using h
    have p1 : ¬ car = 0 := h
    clear h
    by_cases hc : 0 ≤ count ∧ count ≤ 4
    · have HC := Lib.hid (inB_yes hc)
      obtain ⟨hc0, hc1⟩ := hc
      cases hy : yarnB 0 car dir
      · have HY := Lib.hid hy
        clear hy
        go_enter Try.func126, Try.ntmps126
        go_wp2_with (first | (go_at_call 60; refine (callS (within_any _ _ _ _) HC.out).mono ?_; rintro e w' ⟨rfl, rfl⟩) | (go_at_call 135; refine (callB (isStitched_any _ ⟨2, place, count, 0, car, dir⟩) HY.out).mono ?_; rintro e w1 ⟨rfl, g1⟩; have G1 := Lib.hid (show Up w _ from Chg.trans (by repeat (first | exact Chg.refl _ _ | apply Chg.drew | apply Chg.drewN | refine Chg.alloc ?_ _)) g1); clear g1))
        all_goals (go_ret; exact ⟨ret_bool (by first | (simp [evP, HY.out, *]; done) | (simp [evP, HY.out, *]; omega) | (have hb1 := HB1.out; simp [evP, HY.out]; (try intros); omega) | (have hb1 := HB1.out; rw [Bool.eq_iff_iff]; simp [evP, HY.out]; omega)), (by first | exact G1.out | (repeat (first | exact Chg.refl _ _ | apply Chg.drew | apply Chg.drewN | refine Chg.alloc ?_ _)))⟩)
      · have HY := Lib.hid hy
        clear hy
        go_enter Try.func126, Try.ntmps126
        go_wp2_with (first | (go_at_call 60; refine (callS (within_any _ _ _ _) HC.out).mono ?_; rintro e w' ⟨rfl, rfl⟩) | (go_at_call 135; refine (callB (isStitched_any _ ⟨2, place, count, 0, car, dir⟩) HY.out).mono ?_; rintro e w1 ⟨rfl, g1⟩; have G1 := Lib.hid (show Up w _ from Chg.trans (by repeat (first | exact Chg.refl _ _ | apply Chg.drew | apply Chg.drewN | refine Chg.alloc ?_ _)) g1); clear g1))
        all_goals (go_ret; exact ⟨ret_bool (by first | (simp [evP, HY.out, *]; done) | (simp [evP, HY.out, *]; omega) | (have hb1 := HB1.out; simp [evP, HY.out]; (try intros); omega) | (have hb1 := HB1.out; rw [Bool.eq_iff_iff]; simp [evP, HY.out]; omega)), (by first | exact G1.out | (repeat (first | exact Chg.refl _ _ | apply Chg.drew | apply Chg.drewN | refine Chg.alloc ?_ _)))⟩)
    · have HC := Lib.hid (show inB count 0 4 = false from decide_eq_false hc)
      cases hy : yarnB 0 car dir
      · have HY := Lib.hid hy
        clear hy
        go_enter Try.func126, Try.ntmps126
        go_wp2_with (first | (go_at_call 60; refine (callS (within_any _ _ _ _) HC.out).mono ?_; rintro e w' ⟨rfl, rfl⟩) | (go_at_call 135; refine (callB (isStitched_any _ ⟨2, place, count, 0, car, dir⟩) HY.out).mono ?_; rintro e w1 ⟨rfl, g1⟩; have G1 := Lib.hid (show Up w _ from Chg.trans (by repeat (first | exact Chg.refl _ _ | apply Chg.drew | apply Chg.drewN | refine Chg.alloc ?_ _)) g1); clear g1))
        all_goals (go_ret; exact ⟨ret_bool (by first | (simp [evP, HY.out, *]; done) | (simp [evP, HY.out, *]; omega) | (have hb1 := HB1.out; simp [evP, HY.out]; (try intros); omega) | (have hb1 := HB1.out; rw [Bool.eq_iff_iff]; simp [evP, HY.out]; omega)), (by first | exact G1.out | (repeat (first | exact Chg.refl _ _ | apply Chg.drew | apply Chg.drewN | refine Chg.alloc ?_ _)))⟩)
      · have HY := Lib.hid hy
        clear hy
        go_enter Try.func126, Try.ntmps126
        go_wp2_with (first | (go_at_call 60; refine (callS (within_any _ _ _ _) HC.out).mono ?_; rintro e w' ⟨rfl, rfl⟩) | (go_at_call 135; refine (callB (isStitched_any _ ⟨2, place, count, 0, car, dir⟩) HY.out).mono ?_; rintro e w1 ⟨rfl, g1⟩; have G1 := Lib.hid (show Up w _ from Chg.trans (by repeat (first | exact Chg.refl _ _ | apply Chg.drew | apply Chg.drewN | refine Chg.alloc ?_ _)) g1); clear g1))
        all_goals (go_ret; exact ⟨ret_bool (by first | (simp [evP, HY.out, *]; done) | (simp [evP, HY.out, *]; omega) | (have hb1 := HB1.out; simp [evP, HY.out]; (try intros); omega) | (have hb1 := HB1.out; rw [Bool.eq_iff_iff]; simp [evP, HY.out]; omega)), (by first | exact G1.out | (repeat (first | exact Chg.refl _ _ | apply Chg.drew | apply Chg.drewN | refine Chg.alloc ?_ _)))⟩)
  · have f2 : (dir == 0) = false := by simpa using h
    have p2 : ¬ dir = 0 := h
    clear h
    by_cases hc : 0 ≤ count ∧ count ≤ 4
    · have HC := Lib.hid (inB_yes hc)
      obtain ⟨hc0, hc1⟩ := hc
      cases hy : yarnB 0 0 dir
      · have HY := Lib.hid hy
        clear hy
        go_enter Try.func126, Try.ntmps126
        go_wp2_with (first | (go_at_call 60; refine (callS (within_any _ _ _ _) HC.out).mono ?_; rintro e w' ⟨rfl, rfl⟩) | (go_at_call 135; refine (callB (isStitched_any _ ⟨2, place, count, 0, 0, dir⟩) HY.out).mono ?_; rintro e w1 ⟨rfl, g1⟩; have G1 := Lib.hid (show Up w _ from Chg.trans (by repeat (first | exact Chg.refl _ _ | apply Chg.drew | apply Chg.drewN | refine Chg.alloc ?_ _)) g1); clear g1))
        all_goals (go_ret; exact ⟨ret_bool (by first | (simp [evP, HY.out, *]; done) | (simp [evP, HY.out, *]; omega) | (have hb1 := HB1.out; simp [evP, HY.out]; (try intros); omega) | (have hb1 := HB1.out; rw [Bool.eq_iff_iff]; simp [evP, HY.out]; omega)), (by first | exact G1.out | (repeat (first | exact Chg.refl _ _ | apply Chg.drew | apply Chg.drewN | refine Chg.alloc ?_ _)))⟩)
      · have HY := Lib.hid hy
        clear hy
        go_enter Try.func126, Try.ntmps126
        go_wp2_with (first | (go_at_call 60; refine (callS (within_any _ _ _ _) HC.out).mono ?_; rintro e w' ⟨rfl, rfl⟩) | (go_at_call 135; refine (callB (isStitched_any _ ⟨2, place, count, 0, 0, dir⟩) HY.out).mono ?_; rintro e w1 ⟨rfl, g1⟩; have G1 := Lib.hid (show Up w _ from Chg.trans (by repeat (first | exact Chg.refl _ _ | apply Chg.drew | apply Chg.drewN | refine Chg.alloc ?_ _)) g1); clear g1))
        all_goals (go_ret; exact ⟨ret_bool (by first | (simp [evP, HY.out, *]; done) | (simp [evP, HY.out, *]; omega) | (have hb1 := HB1.out; simp [evP, HY.out]; (try intros); omega) | (have hb1 := HB1.out; rw [Bool.eq_iff_iff]; simp [evP, HY.out]; omega)), (by first | exact G1.out | (repeat (first | exact Chg.refl _ _ | apply Chg.drew | apply Chg.drewN | refine Chg.alloc ?_ _)))⟩)
    · have HC := Lib.hid (show inB count 0 4 = false from decide_eq_false hc)
      cases hy : yarnB 0 0 dir
      · have HY := Lib.hid hy
        clear hy
        go_enter Try.func126, Try.ntmps126
        go_wp2_with (first | (go_at_call 60; refine (callS (within_any _ _ _ _) HC.out).mono ?_; rintro e w' ⟨rfl, rfl⟩) | (go_at_call 135; refine (callB (isStitched_any _ ⟨2, place, count, 0, 0, dir⟩) HY.out).mono ?_; rintro e w1 ⟨rfl, g1⟩; have G1 := Lib.hid (show Up w _ from Chg.trans (by repeat (first | exact Chg.refl _ _ | apply Chg.drew | apply Chg.drewN | refine Chg.alloc ?_ _)) g1); clear g1))
        all_goals (go_ret; exact ⟨ret_bool (by first | (simp [evP, HY.out, *]; done) | (simp [evP, HY.out, *]; omega) | (have hb1 := HB1.out; simp [evP, HY.out]; (try intros); omega) | (have hb1 := HB1.out; rw [Bool.eq_iff_iff]; simp [evP, HY.out]; omega)), (by first | exact G1.out | (repeat (first | exact Chg.refl _ _ | apply Chg.drew | apply Chg.drewN | refine Chg.alloc ?_ _)))⟩)
      · have HY := Lib.hid hy
        clear hy
        go_enter Try.func126, Try.ntmps126
        go_wp2_with (first | (go_at_call 60; refine (callS (within_any _ _ _ _) HC.out).mono ?_; rintro e w' ⟨rfl, rfl⟩) | (go_at_call 135; refine (callB (isStitched_any _ ⟨2, place, count, 0, 0, dir⟩) HY.out).mono ?_; rintro e w1 ⟨rfl, g1⟩; have G1 := Lib.hid (show Up w _ from Chg.trans (by repeat (first | exact Chg.refl _ _ | apply Chg.drew | apply Chg.drewN | refine Chg.alloc ?_ _)) g1); clear g1))
        all_goals (go_ret; exact ⟨ret_bool (by first | (simp [evP, HY.out, *]; done) | (simp [evP, HY.out, *]; omega) | (have hb1 := HB1.out; simp [evP, HY.out]; (try intros); omega) | (have hb1 := HB1.out; rw [Bool.eq_iff_iff]; simp [evP, HY.out]; omega)), (by first | exact G1.out | (repeat (first | exact Chg.refl _ _ | apply Chg.drew | apply Chg.drewN | refine Chg.alloc ?_ _)))⟩)
  · skip
    by_cases hc : 0 ≤ count ∧ count ≤ 4
    · have HC := Lib.hid (inB_yes hc)
      obtain ⟨hc0, hc1⟩ := hc
      cases hy : yarnB 0 0 0
      · have HY := Lib.hid hy
        clear hy
        go_enter Try.func126, Try.ntmps126
        go_wp2_with (first | (go_at_call 60; refine (callS (within_any _ _ _ _) HC.out).mono ?_; rintro e w' ⟨rfl, rfl⟩) | (go_at_call 135; refine (callB (isStitched_any _ ⟨2, place, count, 0, 0, 0⟩) HY.out).mono ?_; rintro e w1 ⟨rfl, g1⟩; have G1 := Lib.hid (show Up w _ from Chg.trans (by repeat (first | exact Chg.refl _ _ | apply Chg.drew | apply Chg.drewN | refine Chg.alloc ?_ _)) g1); clear g1))
        all_goals (go_ret; exact ⟨ret_bool (by first | (simp [evP, HY.out, *]; done) | (simp [evP, HY.out, *]; omega) | (have hb1 := HB1.out; simp [evP, HY.out]; (try intros); omega) | (have hb1 := HB1.out; rw [Bool.eq_iff_iff]; simp [evP, HY.out]; omega)), (by first | exact G1.out | (repeat (first | exact Chg.refl _ _ | apply Chg.drew | apply Chg.drewN | refine Chg.alloc ?_ _)))⟩)
      · have HY := Lib.hid hy
        clear hy
        go_enter Try.func126, Try.ntmps126
        go_wp2_with (first | (go_at_call 60; refine (callS (within_any _ _ _ _) HC.out).mono ?_; rintro e w' ⟨rfl, rfl⟩) | (go_at_call 135; refine (callB (isStitched_any _ ⟨2, place, count, 0, 0, 0⟩) HY.out).mono ?_; rintro e w1 ⟨rfl, g1⟩; have G1 := Lib.hid (show Up w _ from Chg.trans (by repeat (first | exact Chg.refl _ _ | apply Chg.drew | apply Chg.drewN | refine Chg.alloc ?_ _)) g1); clear g1))
        all_goals (go_ret; exact ⟨ret_bool (by first | (simp [evP, HY.out, *]; done) | (simp [evP, HY.out, *]; omega) | (have hb1 := HB1.out; simp [evP, HY.out]; (try intros); omega) | (have hb1 := HB1.out; rw [Bool.eq_iff_iff]; simp [evP, HY.out]; omega)), (by first | exact G1.out | (repeat (first | exact Chg.refl _ _ | apply Chg.drew | apply Chg.drewN | refine Chg.alloc ?_ _)))⟩)
    · have HC := Lib.hid (show inB count 0 4 = false from decide_eq_false hc)
      cases hy : yarnB 0 0 0
      · have HY := Lib.hid hy
        clear hy
        go_enter Try.func126, Try.ntmps126
        go_wp2_with (first | (go_at_call 60; refine (callS (within_any _ _ _ _) HC.out).mono ?_; rintro e w' ⟨rfl, rfl⟩) | (go_at_call 135; refine (callB (isStitched_any _ ⟨2, place, count, 0, 0, 0⟩) HY.out).mono ?_; rintro e w1 ⟨rfl, g1⟩; have G1 := Lib.hid (show Up w _ from Chg.trans (by repeat (first | exact Chg.refl _ _ | apply Chg.drew | apply Chg.drewN | refine Chg.alloc ?_ _)) g1); clear g1))
        all_goals (go_ret; exact ⟨ret_bool (by first | (simp [evP, HY.out, *]; done) | (simp [evP, HY.out, *]; omega) | (have hb1 := HB1.out; simp [evP, HY.out]; (try intros); omega) | (have hb1 := HB1.out; rw [Bool.eq_iff_iff]; simp [evP, HY.out]; omega)), (by first | exact G1.out | (repeat (first | exact Chg.refl _ _ | apply Chg.drew | apply Chg.drewN | refine Chg.alloc ?_ _)))⟩)
      · have HY := Lib.hid hy
        clear hy
        go_enter Try.func126, Try.ntmps126
        go_wp2_with (first | (go_at_call 60; refine (callS (within_any _ _ _ _) HC.out).mono ?_; rintro e w' ⟨rfl, rfl⟩) | (go_at_call 135; refine (callB (isStitched_any _ ⟨2, place, count, 0, 0, 0⟩) HY.out).mono ?_; rintro e w1 ⟨rfl, g1⟩; have G1 := Lib.hid (show Up w _ from Chg.trans (by repeat (first | exact Chg.refl _ _ | apply Chg.drew | apply Chg.drewN | refine Chg.alloc ?_ _)) g1); clear g1))
        all_goals (go_ret; exact ⟨ret_bool (by first | (simp [evP, HY.out, *]; done) | (simp [evP, HY.out, *]; omega) | (have hb1 := HB1.out; simp [evP, HY.out]; (try intros); omega) | (have hb1 := HB1.out; rw [Bool.eq_iff_iff]; simp [evP, HY.out]; omega)), (by first | exact G1.out | (repeat (first | exact Chg.refl _ _ | apply Chg.drew | apply Chg.drewN | refine Chg.alloc ?_ _)))⟩)
theorem evValid_3 (w : World) (place count bed car dir n : Int) (hn : 0 ≤ n ∧ n ≤ 12) :
    Calls Try.prog 126 #[.agg #[.int .i64 3, .int .i64 place, .int .i64 count, .int .i64 bed, .int .i64 car, .int .i64 dir], .int .i64 n] w fun e w' => e = .returned (.bool (decide (evP 3 place count bed car dir n))) ∧ Up w w' := by
  obtain ⟨hn0, hn1⟩ := hn
  rcases plain4 bed car dir with h | ⟨rfl, h⟩ | ⟨rfl, rfl, h⟩ | ⟨rfl, rfl, rfl⟩
  · have f0 : (bed == 0) = false := by simpa using h
    have p0 : ¬ bed = 0 := h
    clear h
    by_cases hc : count = 0
    · subst hc
      cases hy : yarnB bed car dir
      · have HY := Lib.hid hy
        clear hy
        go_enter Try.func126, Try.ntmps126
        go_wp2_with (first | (go_at_call 60; refine (callS (within_any _ _ _ _) HC.out).mono ?_; rintro e w' ⟨rfl, rfl⟩) | (go_at_call 135; refine (callB (isStitched_any _ ⟨3, place, 0, bed, car, dir⟩) HY.out).mono ?_; rintro e w1 ⟨rfl, g1⟩; have G1 := Lib.hid (show Up w _ from Chg.trans (by repeat (first | exact Chg.refl _ _ | apply Chg.drew | apply Chg.drewN | refine Chg.alloc ?_ _)) g1); clear g1))
        all_goals (go_ret; exact ⟨ret_bool (by first | (simp [evP, HY.out, *]; done) | (simp [evP, HY.out, *]; omega) | (have hb1 := HB1.out; simp [evP, HY.out]; (try intros); omega) | (have hb1 := HB1.out; rw [Bool.eq_iff_iff]; simp [evP, HY.out]; omega)), (by first | exact G1.out | (repeat (first | exact Chg.refl _ _ | apply Chg.drew | apply Chg.drewN | refine Chg.alloc ?_ _)))⟩)
      · have HY := Lib.hid hy
        clear hy
        go_enter Try.func126, Try.ntmps126
        go_wp2_with (first | (go_at_call 60; refine (callS (within_any _ _ _ _) HC.out).mono ?_; rintro e w' ⟨rfl, rfl⟩) | (go_at_call 135; refine (callB (isStitched_any _ ⟨3, place, 0, bed, car, dir⟩) HY.out).mono ?_; rintro e w1 ⟨rfl, g1⟩; have G1 := Lib.hid (show Up w _ from Chg.trans (by repeat (first | exact Chg.refl _ _ | apply Chg.drew | apply Chg.drewN | refine Chg.alloc ?_ _)) g1); clear g1))
        all_goals (go_ret; exact ⟨ret_bool (by first | (simp [evP, HY.out, *]; done) | (simp [evP, HY.out, *]; omega) | (have hb1 := HB1.out; simp [evP, HY.out]; (try intros); omega) | (have hb1 := HB1.out; rw [Bool.eq_iff_iff]; simp [evP, HY.out]; omega)), (by first | exact G1.out | (repeat (first | exact Chg.refl _ _ | apply Chg.drew | apply Chg.drewN | refine Chg.alloc ?_ _)))⟩)
    · have g0 : (count == 0) = false := by simpa using hc
      cases hy : yarnB bed car dir
      · have HY := Lib.hid hy
        clear hy
        go_enter Try.func126, Try.ntmps126
        go_wp2_with (first | (go_at_call 60; refine (callS (within_any _ _ _ _) HC.out).mono ?_; rintro e w' ⟨rfl, rfl⟩) | (go_at_call 135; refine (callB (isStitched_any _ ⟨3, place, count, bed, car, dir⟩) HY.out).mono ?_; rintro e w1 ⟨rfl, g1⟩; have G1 := Lib.hid (show Up w _ from Chg.trans (by repeat (first | exact Chg.refl _ _ | apply Chg.drew | apply Chg.drewN | refine Chg.alloc ?_ _)) g1); clear g1))
        all_goals (go_ret; exact ⟨ret_bool (by first | (simp [evP, HY.out, *]; done) | (simp [evP, HY.out, *]; omega) | (have hb1 := HB1.out; simp [evP, HY.out]; (try intros); omega) | (have hb1 := HB1.out; rw [Bool.eq_iff_iff]; simp [evP, HY.out]; omega)), (by first | exact G1.out | (repeat (first | exact Chg.refl _ _ | apply Chg.drew | apply Chg.drewN | refine Chg.alloc ?_ _)))⟩)
      · have HY := Lib.hid hy
        clear hy
        go_enter Try.func126, Try.ntmps126
        go_wp2_with (first | (go_at_call 60; refine (callS (within_any _ _ _ _) HC.out).mono ?_; rintro e w' ⟨rfl, rfl⟩) | (go_at_call 135; refine (callB (isStitched_any _ ⟨3, place, count, bed, car, dir⟩) HY.out).mono ?_; rintro e w1 ⟨rfl, g1⟩; have G1 := Lib.hid (show Up w _ from Chg.trans (by repeat (first | exact Chg.refl _ _ | apply Chg.drew | apply Chg.drewN | refine Chg.alloc ?_ _)) g1); clear g1))
        all_goals (go_ret; exact ⟨ret_bool (by first | (simp [evP, HY.out, *]; done) | (simp [evP, HY.out, *]; omega) | (have hb1 := HB1.out; simp [evP, HY.out]; (try intros); omega) | (have hb1 := HB1.out; rw [Bool.eq_iff_iff]; simp [evP, HY.out]; omega)), (by first | exact G1.out | (repeat (first | exact Chg.refl _ _ | apply Chg.drew | apply Chg.drewN | refine Chg.alloc ?_ _)))⟩)
  · have f1 : (car == 0) = false := by simpa using h
    have p1 : ¬ car = 0 := h
    clear h
    by_cases hc : count = 0
    · subst hc
      cases hy : yarnB 0 car dir
      · have HY := Lib.hid hy
        clear hy
        go_enter Try.func126, Try.ntmps126
        go_wp2_with (first | (go_at_call 60; refine (callS (within_any _ _ _ _) HC.out).mono ?_; rintro e w' ⟨rfl, rfl⟩) | (go_at_call 135; refine (callB (isStitched_any _ ⟨3, place, 0, 0, car, dir⟩) HY.out).mono ?_; rintro e w1 ⟨rfl, g1⟩; have G1 := Lib.hid (show Up w _ from Chg.trans (by repeat (first | exact Chg.refl _ _ | apply Chg.drew | apply Chg.drewN | refine Chg.alloc ?_ _)) g1); clear g1))
        all_goals (go_ret; exact ⟨ret_bool (by first | (simp [evP, HY.out, *]; done) | (simp [evP, HY.out, *]; omega) | (have hb1 := HB1.out; simp [evP, HY.out]; (try intros); omega) | (have hb1 := HB1.out; rw [Bool.eq_iff_iff]; simp [evP, HY.out]; omega)), (by first | exact G1.out | (repeat (first | exact Chg.refl _ _ | apply Chg.drew | apply Chg.drewN | refine Chg.alloc ?_ _)))⟩)
      · have HY := Lib.hid hy
        clear hy
        go_enter Try.func126, Try.ntmps126
        go_wp2_with (first | (go_at_call 60; refine (callS (within_any _ _ _ _) HC.out).mono ?_; rintro e w' ⟨rfl, rfl⟩) | (go_at_call 135; refine (callB (isStitched_any _ ⟨3, place, 0, 0, car, dir⟩) HY.out).mono ?_; rintro e w1 ⟨rfl, g1⟩; have G1 := Lib.hid (show Up w _ from Chg.trans (by repeat (first | exact Chg.refl _ _ | apply Chg.drew | apply Chg.drewN | refine Chg.alloc ?_ _)) g1); clear g1))
        all_goals (go_ret; exact ⟨ret_bool (by first | (simp [evP, HY.out, *]; done) | (simp [evP, HY.out, *]; omega) | (have hb1 := HB1.out; simp [evP, HY.out]; (try intros); omega) | (have hb1 := HB1.out; rw [Bool.eq_iff_iff]; simp [evP, HY.out]; omega)), (by first | exact G1.out | (repeat (first | exact Chg.refl _ _ | apply Chg.drew | apply Chg.drewN | refine Chg.alloc ?_ _)))⟩)
    · have g0 : (count == 0) = false := by simpa using hc
      cases hy : yarnB 0 car dir
      · have HY := Lib.hid hy
        clear hy
        go_enter Try.func126, Try.ntmps126
        go_wp2_with (first | (go_at_call 60; refine (callS (within_any _ _ _ _) HC.out).mono ?_; rintro e w' ⟨rfl, rfl⟩) | (go_at_call 135; refine (callB (isStitched_any _ ⟨3, place, count, 0, car, dir⟩) HY.out).mono ?_; rintro e w1 ⟨rfl, g1⟩; have G1 := Lib.hid (show Up w _ from Chg.trans (by repeat (first | exact Chg.refl _ _ | apply Chg.drew | apply Chg.drewN | refine Chg.alloc ?_ _)) g1); clear g1))
        all_goals (go_ret; exact ⟨ret_bool (by first | (simp [evP, HY.out, *]; done) | (simp [evP, HY.out, *]; omega) | (have hb1 := HB1.out; simp [evP, HY.out]; (try intros); omega) | (have hb1 := HB1.out; rw [Bool.eq_iff_iff]; simp [evP, HY.out]; omega)), (by first | exact G1.out | (repeat (first | exact Chg.refl _ _ | apply Chg.drew | apply Chg.drewN | refine Chg.alloc ?_ _)))⟩)
      · have HY := Lib.hid hy
        clear hy
        go_enter Try.func126, Try.ntmps126
        go_wp2_with (first | (go_at_call 60; refine (callS (within_any _ _ _ _) HC.out).mono ?_; rintro e w' ⟨rfl, rfl⟩) | (go_at_call 135; refine (callB (isStitched_any _ ⟨3, place, count, 0, car, dir⟩) HY.out).mono ?_; rintro e w1 ⟨rfl, g1⟩; have G1 := Lib.hid (show Up w _ from Chg.trans (by repeat (first | exact Chg.refl _ _ | apply Chg.drew | apply Chg.drewN | refine Chg.alloc ?_ _)) g1); clear g1))
        all_goals (go_ret; exact ⟨ret_bool (by first | (simp [evP, HY.out, *]; done) | (simp [evP, HY.out, *]; omega) | (have hb1 := HB1.out; simp [evP, HY.out]; (try intros); omega) | (have hb1 := HB1.out; rw [Bool.eq_iff_iff]; simp [evP, HY.out]; omega)), (by first | exact G1.out | (repeat (first | exact Chg.refl _ _ | apply Chg.drew | apply Chg.drewN | refine Chg.alloc ?_ _)))⟩)
  · have f2 : (dir == 0) = false := by simpa using h
    have p2 : ¬ dir = 0 := h
    clear h
    by_cases hc : count = 0
    · subst hc
      cases hy : yarnB 0 0 dir
      · have HY := Lib.hid hy
        clear hy
        go_enter Try.func126, Try.ntmps126
        go_wp2_with (first | (go_at_call 60; refine (callS (within_any _ _ _ _) HC.out).mono ?_; rintro e w' ⟨rfl, rfl⟩) | (go_at_call 135; refine (callB (isStitched_any _ ⟨3, place, 0, 0, 0, dir⟩) HY.out).mono ?_; rintro e w1 ⟨rfl, g1⟩; have G1 := Lib.hid (show Up w _ from Chg.trans (by repeat (first | exact Chg.refl _ _ | apply Chg.drew | apply Chg.drewN | refine Chg.alloc ?_ _)) g1); clear g1))
        all_goals (go_ret; exact ⟨ret_bool (by first | (simp [evP, HY.out, *]; done) | (simp [evP, HY.out, *]; omega) | (have hb1 := HB1.out; simp [evP, HY.out]; (try intros); omega) | (have hb1 := HB1.out; rw [Bool.eq_iff_iff]; simp [evP, HY.out]; omega)), (by first | exact G1.out | (repeat (first | exact Chg.refl _ _ | apply Chg.drew | apply Chg.drewN | refine Chg.alloc ?_ _)))⟩)
      · have HY := Lib.hid hy
        clear hy
        go_enter Try.func126, Try.ntmps126
        go_wp2_with (first | (go_at_call 60; refine (callS (within_any _ _ _ _) HC.out).mono ?_; rintro e w' ⟨rfl, rfl⟩) | (go_at_call 135; refine (callB (isStitched_any _ ⟨3, place, 0, 0, 0, dir⟩) HY.out).mono ?_; rintro e w1 ⟨rfl, g1⟩; have G1 := Lib.hid (show Up w _ from Chg.trans (by repeat (first | exact Chg.refl _ _ | apply Chg.drew | apply Chg.drewN | refine Chg.alloc ?_ _)) g1); clear g1))
        all_goals (go_ret; exact ⟨ret_bool (by first | (simp [evP, HY.out, *]; done) | (simp [evP, HY.out, *]; omega) | (have hb1 := HB1.out; simp [evP, HY.out]; (try intros); omega) | (have hb1 := HB1.out; rw [Bool.eq_iff_iff]; simp [evP, HY.out]; omega)), (by first | exact G1.out | (repeat (first | exact Chg.refl _ _ | apply Chg.drew | apply Chg.drewN | refine Chg.alloc ?_ _)))⟩)
    · have g0 : (count == 0) = false := by simpa using hc
      cases hy : yarnB 0 0 dir
      · have HY := Lib.hid hy
        clear hy
        go_enter Try.func126, Try.ntmps126
        go_wp2_with (first | (go_at_call 60; refine (callS (within_any _ _ _ _) HC.out).mono ?_; rintro e w' ⟨rfl, rfl⟩) | (go_at_call 135; refine (callB (isStitched_any _ ⟨3, place, count, 0, 0, dir⟩) HY.out).mono ?_; rintro e w1 ⟨rfl, g1⟩; have G1 := Lib.hid (show Up w _ from Chg.trans (by repeat (first | exact Chg.refl _ _ | apply Chg.drew | apply Chg.drewN | refine Chg.alloc ?_ _)) g1); clear g1))
        all_goals (go_ret; exact ⟨ret_bool (by first | (simp [evP, HY.out, *]; done) | (simp [evP, HY.out, *]; omega) | (have hb1 := HB1.out; simp [evP, HY.out]; (try intros); omega) | (have hb1 := HB1.out; rw [Bool.eq_iff_iff]; simp [evP, HY.out]; omega)), (by first | exact G1.out | (repeat (first | exact Chg.refl _ _ | apply Chg.drew | apply Chg.drewN | refine Chg.alloc ?_ _)))⟩)
      · have HY := Lib.hid hy
        clear hy
        go_enter Try.func126, Try.ntmps126
        go_wp2_with (first | (go_at_call 60; refine (callS (within_any _ _ _ _) HC.out).mono ?_; rintro e w' ⟨rfl, rfl⟩) | (go_at_call 135; refine (callB (isStitched_any _ ⟨3, place, count, 0, 0, dir⟩) HY.out).mono ?_; rintro e w1 ⟨rfl, g1⟩; have G1 := Lib.hid (show Up w _ from Chg.trans (by repeat (first | exact Chg.refl _ _ | apply Chg.drew | apply Chg.drewN | refine Chg.alloc ?_ _)) g1); clear g1))
        all_goals (go_ret; exact ⟨ret_bool (by first | (simp [evP, HY.out, *]; done) | (simp [evP, HY.out, *]; omega) | (have hb1 := HB1.out; simp [evP, HY.out]; (try intros); omega) | (have hb1 := HB1.out; rw [Bool.eq_iff_iff]; simp [evP, HY.out]; omega)), (by first | exact G1.out | (repeat (first | exact Chg.refl _ _ | apply Chg.drew | apply Chg.drewN | refine Chg.alloc ?_ _)))⟩)
  · skip
    by_cases hc : count = 0
    · subst hc
      cases hy : yarnB 0 0 0
      · have HY := Lib.hid hy
        clear hy
        go_enter Try.func126, Try.ntmps126
        go_wp2_with (first | (go_at_call 60; refine (callS (within_any _ _ _ _) HC.out).mono ?_; rintro e w' ⟨rfl, rfl⟩) | (go_at_call 135; refine (callB (isStitched_any _ ⟨3, place, 0, 0, 0, 0⟩) HY.out).mono ?_; rintro e w1 ⟨rfl, g1⟩; have G1 := Lib.hid (show Up w _ from Chg.trans (by repeat (first | exact Chg.refl _ _ | apply Chg.drew | apply Chg.drewN | refine Chg.alloc ?_ _)) g1); clear g1))
        all_goals (go_ret; exact ⟨ret_bool (by first | (simp [evP, HY.out, *]; done) | (simp [evP, HY.out, *]; omega) | (have hb1 := HB1.out; simp [evP, HY.out]; (try intros); omega) | (have hb1 := HB1.out; rw [Bool.eq_iff_iff]; simp [evP, HY.out]; omega)), (by first | exact G1.out | (repeat (first | exact Chg.refl _ _ | apply Chg.drew | apply Chg.drewN | refine Chg.alloc ?_ _)))⟩)
      · have HY := Lib.hid hy
        clear hy
        go_enter Try.func126, Try.ntmps126
        go_wp2_with (first | (go_at_call 60; refine (callS (within_any _ _ _ _) HC.out).mono ?_; rintro e w' ⟨rfl, rfl⟩) | (go_at_call 135; refine (callB (isStitched_any _ ⟨3, place, 0, 0, 0, 0⟩) HY.out).mono ?_; rintro e w1 ⟨rfl, g1⟩; have G1 := Lib.hid (show Up w _ from Chg.trans (by repeat (first | exact Chg.refl _ _ | apply Chg.drew | apply Chg.drewN | refine Chg.alloc ?_ _)) g1); clear g1))
        all_goals (go_ret; exact ⟨ret_bool (by first | (simp [evP, HY.out, *]; done) | (simp [evP, HY.out, *]; omega) | (have hb1 := HB1.out; simp [evP, HY.out]; (try intros); omega) | (have hb1 := HB1.out; rw [Bool.eq_iff_iff]; simp [evP, HY.out]; omega)), (by first | exact G1.out | (repeat (first | exact Chg.refl _ _ | apply Chg.drew | apply Chg.drewN | refine Chg.alloc ?_ _)))⟩)
    · have g0 : (count == 0) = false := by simpa using hc
      cases hy : yarnB 0 0 0
      · have HY := Lib.hid hy
        clear hy
        go_enter Try.func126, Try.ntmps126
        go_wp2_with (first | (go_at_call 60; refine (callS (within_any _ _ _ _) HC.out).mono ?_; rintro e w' ⟨rfl, rfl⟩) | (go_at_call 135; refine (callB (isStitched_any _ ⟨3, place, count, 0, 0, 0⟩) HY.out).mono ?_; rintro e w1 ⟨rfl, g1⟩; have G1 := Lib.hid (show Up w _ from Chg.trans (by repeat (first | exact Chg.refl _ _ | apply Chg.drew | apply Chg.drewN | refine Chg.alloc ?_ _)) g1); clear g1))
        all_goals (go_ret; exact ⟨ret_bool (by first | (simp [evP, HY.out, *]; done) | (simp [evP, HY.out, *]; omega) | (have hb1 := HB1.out; simp [evP, HY.out]; (try intros); omega) | (have hb1 := HB1.out; rw [Bool.eq_iff_iff]; simp [evP, HY.out]; omega)), (by first | exact G1.out | (repeat (first | exact Chg.refl _ _ | apply Chg.drew | apply Chg.drewN | refine Chg.alloc ?_ _)))⟩)
      · have HY := Lib.hid hy
        clear hy
        go_enter Try.func126, Try.ntmps126
        go_wp2_with (first | (go_at_call 60; refine (callS (within_any _ _ _ _) HC.out).mono ?_; rintro e w' ⟨rfl, rfl⟩) | (go_at_call 135; refine (callB (isStitched_any _ ⟨3, place, count, 0, 0, 0⟩) HY.out).mono ?_; rintro e w1 ⟨rfl, g1⟩; have G1 := Lib.hid (show Up w _ from Chg.trans (by repeat (first | exact Chg.refl _ _ | apply Chg.drew | apply Chg.drewN | refine Chg.alloc ?_ _)) g1); clear g1))
        all_goals (go_ret; exact ⟨ret_bool (by first | (simp [evP, HY.out, *]; done) | (simp [evP, HY.out, *]; omega) | (have hb1 := HB1.out; simp [evP, HY.out]; (try intros); omega) | (have hb1 := HB1.out; rw [Bool.eq_iff_iff]; simp [evP, HY.out]; omega)), (by first | exact G1.out | (repeat (first | exact Chg.refl _ _ | apply Chg.drew | apply Chg.drewN | refine Chg.alloc ?_ _)))⟩)
theorem evValid_4 (w : World) (place count bed car dir n : Int) (hn : 0 ≤ n ∧ n ≤ 12) :
    Calls Try.prog 126 #[.agg #[.int .i64 4, .int .i64 place, .int .i64 count, .int .i64 bed, .int .i64 car, .int .i64 dir], .int .i64 n] w fun e w' => e = .returned (.bool (decide (evP 4 place count bed car dir n))) ∧ Up w w' := by
  obtain ⟨hn0, hn1⟩ := hn
  rcases plain4 bed car dir with h | ⟨rfl, h⟩ | ⟨rfl, rfl, h⟩ | ⟨rfl, rfl, rfl⟩
  · have f0 : (bed == 0) = false := by simpa using h
    have p0 : ¬ bed = 0 := h
    clear h
    by_cases hc : 1 ≤ count ∧ count ≤ 4
    · have HC := Lib.hid (inB_yes hc)
      obtain ⟨hc0, hc1⟩ := hc
      go_enter Try.func126, Try.ntmps126
      go_wp2_with (first | (go_at_call 60; refine (callS (within_any _ _ _ _) HC.out).mono ?_; rintro e w' ⟨rfl, rfl⟩) | (go_at_call 135; refine (callB (isStitched_any _ ⟨4, place, count, bed, car, dir⟩) HY.out).mono ?_; rintro e w1 ⟨rfl, g1⟩; have G1 := Lib.hid (show Up w _ from Chg.trans (by repeat (first | exact Chg.refl _ _ | apply Chg.drew | apply Chg.drewN | refine Chg.alloc ?_ _)) g1); clear g1))
      all_goals (go_ret; exact ⟨ret_bool (by first | (simp [evP, *]; done) | (simp [evP, *]; omega) | (have hb1 := HB1.out; simp [evP]; (try intros); omega) | (have hb1 := HB1.out; rw [Bool.eq_iff_iff]; simp [evP]; omega)), (by first | exact G1.out | (repeat (first | exact Chg.refl _ _ | apply Chg.drew | apply Chg.drewN | refine Chg.alloc ?_ _)))⟩)
    · have HC := Lib.hid (show inB count 1 4 = false from decide_eq_false hc)
      go_enter Try.func126, Try.ntmps126
      go_wp2_with (first | (go_at_call 60; refine (callS (within_any _ _ _ _) HC.out).mono ?_; rintro e w' ⟨rfl, rfl⟩) | (go_at_call 135; refine (callB (isStitched_any _ ⟨4, place, count, bed, car, dir⟩) HY.out).mono ?_; rintro e w1 ⟨rfl, g1⟩; have G1 := Lib.hid (show Up w _ from Chg.trans (by repeat (first | exact Chg.refl _ _ | apply Chg.drew | apply Chg.drewN | refine Chg.alloc ?_ _)) g1); clear g1))
      all_goals (go_ret; exact ⟨ret_bool (by first | (simp [evP, *]; done) | (simp [evP, *]; omega) | (have hb1 := HB1.out; simp [evP]; (try intros); omega) | (have hb1 := HB1.out; rw [Bool.eq_iff_iff]; simp [evP]; omega)), (by first | exact G1.out | (repeat (first | exact Chg.refl _ _ | apply Chg.drew | apply Chg.drewN | refine Chg.alloc ?_ _)))⟩)
  · have f1 : (car == 0) = false := by simpa using h
    have p1 : ¬ car = 0 := h
    clear h
    by_cases hc : 1 ≤ count ∧ count ≤ 4
    · have HC := Lib.hid (inB_yes hc)
      obtain ⟨hc0, hc1⟩ := hc
      go_enter Try.func126, Try.ntmps126
      go_wp2_with (first | (go_at_call 60; refine (callS (within_any _ _ _ _) HC.out).mono ?_; rintro e w' ⟨rfl, rfl⟩) | (go_at_call 135; refine (callB (isStitched_any _ ⟨4, place, count, 0, car, dir⟩) HY.out).mono ?_; rintro e w1 ⟨rfl, g1⟩; have G1 := Lib.hid (show Up w _ from Chg.trans (by repeat (first | exact Chg.refl _ _ | apply Chg.drew | apply Chg.drewN | refine Chg.alloc ?_ _)) g1); clear g1))
      all_goals (go_ret; exact ⟨ret_bool (by first | (simp [evP, *]; done) | (simp [evP, *]; omega) | (have hb1 := HB1.out; simp [evP]; (try intros); omega) | (have hb1 := HB1.out; rw [Bool.eq_iff_iff]; simp [evP]; omega)), (by first | exact G1.out | (repeat (first | exact Chg.refl _ _ | apply Chg.drew | apply Chg.drewN | refine Chg.alloc ?_ _)))⟩)
    · have HC := Lib.hid (show inB count 1 4 = false from decide_eq_false hc)
      go_enter Try.func126, Try.ntmps126
      go_wp2_with (first | (go_at_call 60; refine (callS (within_any _ _ _ _) HC.out).mono ?_; rintro e w' ⟨rfl, rfl⟩) | (go_at_call 135; refine (callB (isStitched_any _ ⟨4, place, count, 0, car, dir⟩) HY.out).mono ?_; rintro e w1 ⟨rfl, g1⟩; have G1 := Lib.hid (show Up w _ from Chg.trans (by repeat (first | exact Chg.refl _ _ | apply Chg.drew | apply Chg.drewN | refine Chg.alloc ?_ _)) g1); clear g1))
      all_goals (go_ret; exact ⟨ret_bool (by first | (simp [evP, *]; done) | (simp [evP, *]; omega) | (have hb1 := HB1.out; simp [evP]; (try intros); omega) | (have hb1 := HB1.out; rw [Bool.eq_iff_iff]; simp [evP]; omega)), (by first | exact G1.out | (repeat (first | exact Chg.refl _ _ | apply Chg.drew | apply Chg.drewN | refine Chg.alloc ?_ _)))⟩)
  · have f2 : (dir == 0) = false := by simpa using h
    have p2 : ¬ dir = 0 := h
    clear h
    by_cases hc : 1 ≤ count ∧ count ≤ 4
    · have HC := Lib.hid (inB_yes hc)
      obtain ⟨hc0, hc1⟩ := hc
      go_enter Try.func126, Try.ntmps126
      go_wp2_with (first | (go_at_call 60; refine (callS (within_any _ _ _ _) HC.out).mono ?_; rintro e w' ⟨rfl, rfl⟩) | (go_at_call 135; refine (callB (isStitched_any _ ⟨4, place, count, 0, 0, dir⟩) HY.out).mono ?_; rintro e w1 ⟨rfl, g1⟩; have G1 := Lib.hid (show Up w _ from Chg.trans (by repeat (first | exact Chg.refl _ _ | apply Chg.drew | apply Chg.drewN | refine Chg.alloc ?_ _)) g1); clear g1))
      all_goals (go_ret; exact ⟨ret_bool (by first | (simp [evP, *]; done) | (simp [evP, *]; omega) | (have hb1 := HB1.out; simp [evP]; (try intros); omega) | (have hb1 := HB1.out; rw [Bool.eq_iff_iff]; simp [evP]; omega)), (by first | exact G1.out | (repeat (first | exact Chg.refl _ _ | apply Chg.drew | apply Chg.drewN | refine Chg.alloc ?_ _)))⟩)
    · have HC := Lib.hid (show inB count 1 4 = false from decide_eq_false hc)
      go_enter Try.func126, Try.ntmps126
      go_wp2_with (first | (go_at_call 60; refine (callS (within_any _ _ _ _) HC.out).mono ?_; rintro e w' ⟨rfl, rfl⟩) | (go_at_call 135; refine (callB (isStitched_any _ ⟨4, place, count, 0, 0, dir⟩) HY.out).mono ?_; rintro e w1 ⟨rfl, g1⟩; have G1 := Lib.hid (show Up w _ from Chg.trans (by repeat (first | exact Chg.refl _ _ | apply Chg.drew | apply Chg.drewN | refine Chg.alloc ?_ _)) g1); clear g1))
      all_goals (go_ret; exact ⟨ret_bool (by first | (simp [evP, *]; done) | (simp [evP, *]; omega) | (have hb1 := HB1.out; simp [evP]; (try intros); omega) | (have hb1 := HB1.out; rw [Bool.eq_iff_iff]; simp [evP]; omega)), (by first | exact G1.out | (repeat (first | exact Chg.refl _ _ | apply Chg.drew | apply Chg.drewN | refine Chg.alloc ?_ _)))⟩)
  · skip
    by_cases hc : 1 ≤ count ∧ count ≤ 4
    · have HC := Lib.hid (inB_yes hc)
      obtain ⟨hc0, hc1⟩ := hc
      go_enter Try.func126, Try.ntmps126
      go_wp2_with (first | (go_at_call 60; refine (callS (within_any _ _ _ _) HC.out).mono ?_; rintro e w' ⟨rfl, rfl⟩) | (go_at_call 135; refine (callB (isStitched_any _ ⟨4, place, count, 0, 0, 0⟩) HY.out).mono ?_; rintro e w1 ⟨rfl, g1⟩; have G1 := Lib.hid (show Up w _ from Chg.trans (by repeat (first | exact Chg.refl _ _ | apply Chg.drew | apply Chg.drewN | refine Chg.alloc ?_ _)) g1); clear g1))
      all_goals (go_ret; exact ⟨ret_bool (by first | (simp [evP, *]; done) | (simp [evP, *]; omega) | (have hb1 := HB1.out; simp [evP]; (try intros); omega) | (have hb1 := HB1.out; rw [Bool.eq_iff_iff]; simp [evP]; omega)), (by first | exact G1.out | (repeat (first | exact Chg.refl _ _ | apply Chg.drew | apply Chg.drewN | refine Chg.alloc ?_ _)))⟩)
    · have HC := Lib.hid (show inB count 1 4 = false from decide_eq_false hc)
      go_enter Try.func126, Try.ntmps126
      go_wp2_with (first | (go_at_call 60; refine (callS (within_any _ _ _ _) HC.out).mono ?_; rintro e w' ⟨rfl, rfl⟩) | (go_at_call 135; refine (callB (isStitched_any _ ⟨4, place, count, 0, 0, 0⟩) HY.out).mono ?_; rintro e w1 ⟨rfl, g1⟩; have G1 := Lib.hid (show Up w _ from Chg.trans (by repeat (first | exact Chg.refl _ _ | apply Chg.drew | apply Chg.drewN | refine Chg.alloc ?_ _)) g1); clear g1))
      all_goals (go_ret; exact ⟨ret_bool (by first | (simp [evP, *]; done) | (simp [evP, *]; omega) | (have hb1 := HB1.out; simp [evP]; (try intros); omega) | (have hb1 := HB1.out; rw [Bool.eq_iff_iff]; simp [evP]; omega)), (by first | exact G1.out | (repeat (first | exact Chg.refl _ _ | apply Chg.drew | apply Chg.drewN | refine Chg.alloc ?_ _)))⟩)
theorem evValid_5 (w : World) (place count bed car dir n : Int) (hn : 0 ≤ n ∧ n ≤ 12) :
    Calls Try.prog 126 #[.agg #[.int .i64 5, .int .i64 place, .int .i64 count, .int .i64 bed, .int .i64 car, .int .i64 dir], .int .i64 n] w fun e w' => e = .returned (.bool (decide (evP 5 place count bed car dir n))) ∧ Up w w' := by
  obtain ⟨hn0, hn1⟩ := hn
  rcases plain4 bed car dir with h | ⟨rfl, h⟩ | ⟨rfl, rfl, h⟩ | ⟨rfl, rfl, rfl⟩
  · have f0 : (bed == 0) = false := by simpa using h
    have p0 : ¬ bed = 0 := h
    clear h
    by_cases hc : 1 ≤ count ∧ count ≤ 4
    · have HC := Lib.hid (inB_yes hc)
      obtain ⟨hc0, hc1⟩ := hc
      cases hy : yarnB bed car dir
      · have HY := Lib.hid hy
        clear hy
        by_cases hb : bed = 1
        · have g1 : (bed == 1) = true := by simp [hb]
          have HB1 := Lib.hid hb
          clear hb
          go_enter Try.func126, Try.ntmps126
          go_wp2_with (first | (go_at_call 60; (first | (with_reducible refine (callS (within_any count 1 4 _) HC.out).mono ?_) | (with_reducible refine (within_any place count n _).mono ?_)); rintro e w' ⟨rfl, rfl⟩) | (go_at_call 135; refine (callB (isStitched_any _ ⟨5, place, count, bed, car, dir⟩) HY.out).mono ?_; rintro e w1 ⟨rfl, g1⟩; have G1 := Lib.hid (show Up w _ from Chg.trans (by repeat (first | exact Chg.refl _ _ | apply Chg.drew | apply Chg.drewN | refine Chg.alloc ?_ _)) g1); have q1 := Chg.cell g1 (show (w.alloc (.cells #[.int .i64 5, .int .i64 place, .int .i64 count, .int .i64 bed, .int .i64 car, .int .i64 dir] 92)).cell? ⟨w.heap.size, 1, none⟩ = some (.int .i64 place) from cell_new _ _ _ _) id; have q2 := Chg.cell g1 (show (w.alloc (.cells #[.int .i64 5, .int .i64 place, .int .i64 count, .int .i64 bed, .int .i64 car, .int .i64 dir] 92)).cell? ⟨w.heap.size, 2, none⟩ = some (.int .i64 count) from cell_new _ _ _ _) id; have q3 := Chg.cell g1 (show (w.alloc (.cells #[.int .i64 5, .int .i64 place, .int .i64 count, .int .i64 bed, .int .i64 car, .int .i64 dir] 92)).cell? ⟨w.heap.size, 3, none⟩ = some (.int .i64 bed) from cell_new _ _ _ _) id; clear g1))
          all_goals (go_ret; exact ⟨ret_bool (by first | (simp [evP, HY.out, inB, *]; done) | (simp [evP, HY.out, inB, *]; omega) | (have hb1 := HB1.out; simp [evP, HY.out, inB]; (try intros); omega) | (have hb1 := HB1.out; rw [Bool.eq_iff_iff]; simp [evP, HY.out, inB]; omega)), (by first | exact G1.out | (repeat (first | exact Chg.refl _ _ | apply Chg.drew | apply Chg.drewN | refine Chg.alloc ?_ _)))⟩)
        · have g1 : (bed == 1) = false := by simpa using hb
          have HB1 := Lib.hid hb
          go_enter Try.func126, Try.ntmps126
          go_wp2_with (first | (go_at_call 60; (first | (with_reducible refine (callS (within_any count 1 4 _) HC.out).mono ?_) | (with_reducible refine (within_any place count n _).mono ?_)); rintro e w' ⟨rfl, rfl⟩) | (go_at_call 135; refine (callB (isStitched_any _ ⟨5, place, count, bed, car, dir⟩) HY.out).mono ?_; rintro e w1 ⟨rfl, g1⟩; have G1 := Lib.hid (show Up w _ from Chg.trans (by repeat (first | exact Chg.refl _ _ | apply Chg.drew | apply Chg.drewN | refine Chg.alloc ?_ _)) g1); have q1 := Chg.cell g1 (show (w.alloc (.cells #[.int .i64 5, .int .i64 place, .int .i64 count, .int .i64 bed, .int .i64 car, .int .i64 dir] 92)).cell? ⟨w.heap.size, 1, none⟩ = some (.int .i64 place) from cell_new _ _ _ _) id; have q2 := Chg.cell g1 (show (w.alloc (.cells #[.int .i64 5, .int .i64 place, .int .i64 count, .int .i64 bed, .int .i64 car, .int .i64 dir] 92)).cell? ⟨w.heap.size, 2, none⟩ = some (.int .i64 count) from cell_new _ _ _ _) id; have q3 := Chg.cell g1 (show (w.alloc (.cells #[.int .i64 5, .int .i64 place, .int .i64 count, .int .i64 bed, .int .i64 car, .int .i64 dir] 92)).cell? ⟨w.heap.size, 3, none⟩ = some (.int .i64 bed) from cell_new _ _ _ _) id; clear g1))
          all_goals (go_ret; exact ⟨ret_bool (by first | (simp [evP, HY.out, inB, *]; done) | (simp [evP, HY.out, inB, *]; omega) | (have hb1 := HB1.out; simp [evP, HY.out, inB]; (try intros); omega) | (have hb1 := HB1.out; rw [Bool.eq_iff_iff]; simp [evP, HY.out, inB]; omega)), (by first | exact G1.out | (repeat (first | exact Chg.refl _ _ | apply Chg.drew | apply Chg.drewN | refine Chg.alloc ?_ _)))⟩)
      · have HY := Lib.hid hy
        clear hy
        by_cases hb : bed = 1
        · have g1 : (bed == 1) = true := by simp [hb]
          have HB1 := Lib.hid hb
          clear hb
          go_enter Try.func126, Try.ntmps126
          go_wp2_with (first | (go_at_call 60; (first | (with_reducible refine (callS (within_any count 1 4 _) HC.out).mono ?_) | (with_reducible refine (within_any place count n _).mono ?_)); rintro e w' ⟨rfl, rfl⟩) | (go_at_call 135; refine (callB (isStitched_any _ ⟨5, place, count, bed, car, dir⟩) HY.out).mono ?_; rintro e w1 ⟨rfl, g1⟩; have G1 := Lib.hid (show Up w _ from Chg.trans (by repeat (first | exact Chg.refl _ _ | apply Chg.drew | apply Chg.drewN | refine Chg.alloc ?_ _)) g1); have q1 := Chg.cell g1 (show (w.alloc (.cells #[.int .i64 5, .int .i64 place, .int .i64 count, .int .i64 bed, .int .i64 car, .int .i64 dir] 92)).cell? ⟨w.heap.size, 1, none⟩ = some (.int .i64 place) from cell_new _ _ _ _) id; have q2 := Chg.cell g1 (show (w.alloc (.cells #[.int .i64 5, .int .i64 place, .int .i64 count, .int .i64 bed, .int .i64 car, .int .i64 dir] 92)).cell? ⟨w.heap.size, 2, none⟩ = some (.int .i64 count) from cell_new _ _ _ _) id; have q3 := Chg.cell g1 (show (w.alloc (.cells #[.int .i64 5, .int .i64 place, .int .i64 count, .int .i64 bed, .int .i64 car, .int .i64 dir] 92)).cell? ⟨w.heap.size, 3, none⟩ = some (.int .i64 bed) from cell_new _ _ _ _) id; clear g1))
          all_goals (go_ret; exact ⟨ret_bool (by first | (simp [evP, HY.out, inB, *]; done) | (simp [evP, HY.out, inB, *]; omega) | (have hb1 := HB1.out; simp [evP, HY.out, inB]; (try intros); omega) | (have hb1 := HB1.out; rw [Bool.eq_iff_iff]; simp [evP, HY.out, inB]; omega)), (by first | exact G1.out | (repeat (first | exact Chg.refl _ _ | apply Chg.drew | apply Chg.drewN | refine Chg.alloc ?_ _)))⟩)
        · have g1 : (bed == 1) = false := by simpa using hb
          have HB1 := Lib.hid hb
          go_enter Try.func126, Try.ntmps126
          go_wp2_with (first | (go_at_call 60; (first | (with_reducible refine (callS (within_any count 1 4 _) HC.out).mono ?_) | (with_reducible refine (within_any place count n _).mono ?_)); rintro e w' ⟨rfl, rfl⟩) | (go_at_call 135; refine (callB (isStitched_any _ ⟨5, place, count, bed, car, dir⟩) HY.out).mono ?_; rintro e w1 ⟨rfl, g1⟩; have G1 := Lib.hid (show Up w _ from Chg.trans (by repeat (first | exact Chg.refl _ _ | apply Chg.drew | apply Chg.drewN | refine Chg.alloc ?_ _)) g1); have q1 := Chg.cell g1 (show (w.alloc (.cells #[.int .i64 5, .int .i64 place, .int .i64 count, .int .i64 bed, .int .i64 car, .int .i64 dir] 92)).cell? ⟨w.heap.size, 1, none⟩ = some (.int .i64 place) from cell_new _ _ _ _) id; have q2 := Chg.cell g1 (show (w.alloc (.cells #[.int .i64 5, .int .i64 place, .int .i64 count, .int .i64 bed, .int .i64 car, .int .i64 dir] 92)).cell? ⟨w.heap.size, 2, none⟩ = some (.int .i64 count) from cell_new _ _ _ _) id; have q3 := Chg.cell g1 (show (w.alloc (.cells #[.int .i64 5, .int .i64 place, .int .i64 count, .int .i64 bed, .int .i64 car, .int .i64 dir] 92)).cell? ⟨w.heap.size, 3, none⟩ = some (.int .i64 bed) from cell_new _ _ _ _) id; clear g1))
          all_goals (go_ret; exact ⟨ret_bool (by first | (simp [evP, HY.out, inB, *]; done) | (simp [evP, HY.out, inB, *]; omega) | (have hb1 := HB1.out; simp [evP, HY.out, inB]; (try intros); omega) | (have hb1 := HB1.out; rw [Bool.eq_iff_iff]; simp [evP, HY.out, inB]; omega)), (by first | exact G1.out | (repeat (first | exact Chg.refl _ _ | apply Chg.drew | apply Chg.drewN | refine Chg.alloc ?_ _)))⟩)
    · have HC := Lib.hid (show inB count 1 4 = false from decide_eq_false hc)
      cases hy : yarnB bed car dir
      · have HY := Lib.hid hy
        clear hy
        by_cases hb : bed = 1
        · have g1 : (bed == 1) = true := by simp [hb]
          have HB1 := Lib.hid hb
          clear hb
          go_enter Try.func126, Try.ntmps126
          go_wp2_with (first | (go_at_call 60; (first | (with_reducible refine (callS (within_any count 1 4 _) HC.out).mono ?_) | (with_reducible refine (within_any place count n _).mono ?_)); rintro e w' ⟨rfl, rfl⟩) | (go_at_call 135; refine (callB (isStitched_any _ ⟨5, place, count, bed, car, dir⟩) HY.out).mono ?_; rintro e w1 ⟨rfl, g1⟩; have G1 := Lib.hid (show Up w _ from Chg.trans (by repeat (first | exact Chg.refl _ _ | apply Chg.drew | apply Chg.drewN | refine Chg.alloc ?_ _)) g1); have q1 := Chg.cell g1 (show (w.alloc (.cells #[.int .i64 5, .int .i64 place, .int .i64 count, .int .i64 bed, .int .i64 car, .int .i64 dir] 92)).cell? ⟨w.heap.size, 1, none⟩ = some (.int .i64 place) from cell_new _ _ _ _) id; have q2 := Chg.cell g1 (show (w.alloc (.cells #[.int .i64 5, .int .i64 place, .int .i64 count, .int .i64 bed, .int .i64 car, .int .i64 dir] 92)).cell? ⟨w.heap.size, 2, none⟩ = some (.int .i64 count) from cell_new _ _ _ _) id; have q3 := Chg.cell g1 (show (w.alloc (.cells #[.int .i64 5, .int .i64 place, .int .i64 count, .int .i64 bed, .int .i64 car, .int .i64 dir] 92)).cell? ⟨w.heap.size, 3, none⟩ = some (.int .i64 bed) from cell_new _ _ _ _) id; clear g1))
          all_goals (go_ret; exact ⟨ret_bool (by first | (simp [evP, HY.out, inB, *]; done) | (simp [evP, HY.out, inB, *]; omega) | (have hb1 := HB1.out; simp [evP, HY.out, inB]; (try intros); omega) | (have hb1 := HB1.out; rw [Bool.eq_iff_iff]; simp [evP, HY.out, inB]; omega)), (by first | exact G1.out | (repeat (first | exact Chg.refl _ _ | apply Chg.drew | apply Chg.drewN | refine Chg.alloc ?_ _)))⟩)
        · have g1 : (bed == 1) = false := by simpa using hb
          have HB1 := Lib.hid hb
          go_enter Try.func126, Try.ntmps126
          go_wp2_with (first | (go_at_call 60; (first | (with_reducible refine (callS (within_any count 1 4 _) HC.out).mono ?_) | (with_reducible refine (within_any place count n _).mono ?_)); rintro e w' ⟨rfl, rfl⟩) | (go_at_call 135; refine (callB (isStitched_any _ ⟨5, place, count, bed, car, dir⟩) HY.out).mono ?_; rintro e w1 ⟨rfl, g1⟩; have G1 := Lib.hid (show Up w _ from Chg.trans (by repeat (first | exact Chg.refl _ _ | apply Chg.drew | apply Chg.drewN | refine Chg.alloc ?_ _)) g1); have q1 := Chg.cell g1 (show (w.alloc (.cells #[.int .i64 5, .int .i64 place, .int .i64 count, .int .i64 bed, .int .i64 car, .int .i64 dir] 92)).cell? ⟨w.heap.size, 1, none⟩ = some (.int .i64 place) from cell_new _ _ _ _) id; have q2 := Chg.cell g1 (show (w.alloc (.cells #[.int .i64 5, .int .i64 place, .int .i64 count, .int .i64 bed, .int .i64 car, .int .i64 dir] 92)).cell? ⟨w.heap.size, 2, none⟩ = some (.int .i64 count) from cell_new _ _ _ _) id; have q3 := Chg.cell g1 (show (w.alloc (.cells #[.int .i64 5, .int .i64 place, .int .i64 count, .int .i64 bed, .int .i64 car, .int .i64 dir] 92)).cell? ⟨w.heap.size, 3, none⟩ = some (.int .i64 bed) from cell_new _ _ _ _) id; clear g1))
          all_goals (go_ret; exact ⟨ret_bool (by first | (simp [evP, HY.out, inB, *]; done) | (simp [evP, HY.out, inB, *]; omega) | (have hb1 := HB1.out; simp [evP, HY.out, inB]; (try intros); omega) | (have hb1 := HB1.out; rw [Bool.eq_iff_iff]; simp [evP, HY.out, inB]; omega)), (by first | exact G1.out | (repeat (first | exact Chg.refl _ _ | apply Chg.drew | apply Chg.drewN | refine Chg.alloc ?_ _)))⟩)
      · have HY := Lib.hid hy
        clear hy
        by_cases hb : bed = 1
        · have g1 : (bed == 1) = true := by simp [hb]
          have HB1 := Lib.hid hb
          clear hb
          go_enter Try.func126, Try.ntmps126
          go_wp2_with (first | (go_at_call 60; (first | (with_reducible refine (callS (within_any count 1 4 _) HC.out).mono ?_) | (with_reducible refine (within_any place count n _).mono ?_)); rintro e w' ⟨rfl, rfl⟩) | (go_at_call 135; refine (callB (isStitched_any _ ⟨5, place, count, bed, car, dir⟩) HY.out).mono ?_; rintro e w1 ⟨rfl, g1⟩; have G1 := Lib.hid (show Up w _ from Chg.trans (by repeat (first | exact Chg.refl _ _ | apply Chg.drew | apply Chg.drewN | refine Chg.alloc ?_ _)) g1); have q1 := Chg.cell g1 (show (w.alloc (.cells #[.int .i64 5, .int .i64 place, .int .i64 count, .int .i64 bed, .int .i64 car, .int .i64 dir] 92)).cell? ⟨w.heap.size, 1, none⟩ = some (.int .i64 place) from cell_new _ _ _ _) id; have q2 := Chg.cell g1 (show (w.alloc (.cells #[.int .i64 5, .int .i64 place, .int .i64 count, .int .i64 bed, .int .i64 car, .int .i64 dir] 92)).cell? ⟨w.heap.size, 2, none⟩ = some (.int .i64 count) from cell_new _ _ _ _) id; have q3 := Chg.cell g1 (show (w.alloc (.cells #[.int .i64 5, .int .i64 place, .int .i64 count, .int .i64 bed, .int .i64 car, .int .i64 dir] 92)).cell? ⟨w.heap.size, 3, none⟩ = some (.int .i64 bed) from cell_new _ _ _ _) id; clear g1))
          all_goals (go_ret; exact ⟨ret_bool (by first | (simp [evP, HY.out, inB, *]; done) | (simp [evP, HY.out, inB, *]; omega) | (have hb1 := HB1.out; simp [evP, HY.out, inB]; (try intros); omega) | (have hb1 := HB1.out; rw [Bool.eq_iff_iff]; simp [evP, HY.out, inB]; omega)), (by first | exact G1.out | (repeat (first | exact Chg.refl _ _ | apply Chg.drew | apply Chg.drewN | refine Chg.alloc ?_ _)))⟩)
        · have g1 : (bed == 1) = false := by simpa using hb
          have HB1 := Lib.hid hb
          go_enter Try.func126, Try.ntmps126
          go_wp2_with (first | (go_at_call 60; (first | (with_reducible refine (callS (within_any count 1 4 _) HC.out).mono ?_) | (with_reducible refine (within_any place count n _).mono ?_)); rintro e w' ⟨rfl, rfl⟩) | (go_at_call 135; refine (callB (isStitched_any _ ⟨5, place, count, bed, car, dir⟩) HY.out).mono ?_; rintro e w1 ⟨rfl, g1⟩; have G1 := Lib.hid (show Up w _ from Chg.trans (by repeat (first | exact Chg.refl _ _ | apply Chg.drew | apply Chg.drewN | refine Chg.alloc ?_ _)) g1); have q1 := Chg.cell g1 (show (w.alloc (.cells #[.int .i64 5, .int .i64 place, .int .i64 count, .int .i64 bed, .int .i64 car, .int .i64 dir] 92)).cell? ⟨w.heap.size, 1, none⟩ = some (.int .i64 place) from cell_new _ _ _ _) id; have q2 := Chg.cell g1 (show (w.alloc (.cells #[.int .i64 5, .int .i64 place, .int .i64 count, .int .i64 bed, .int .i64 car, .int .i64 dir] 92)).cell? ⟨w.heap.size, 2, none⟩ = some (.int .i64 count) from cell_new _ _ _ _) id; have q3 := Chg.cell g1 (show (w.alloc (.cells #[.int .i64 5, .int .i64 place, .int .i64 count, .int .i64 bed, .int .i64 car, .int .i64 dir] 92)).cell? ⟨w.heap.size, 3, none⟩ = some (.int .i64 bed) from cell_new _ _ _ _) id; clear g1))
          all_goals (go_ret; exact ⟨ret_bool (by first | (simp [evP, HY.out, inB, *]; done) | (simp [evP, HY.out, inB, *]; omega) | (have hb1 := HB1.out; simp [evP, HY.out, inB]; (try intros); omega) | (have hb1 := HB1.out; rw [Bool.eq_iff_iff]; simp [evP, HY.out, inB]; omega)), (by first | exact G1.out | (repeat (first | exact Chg.refl _ _ | apply Chg.drew | apply Chg.drewN | refine Chg.alloc ?_ _)))⟩)
  · have f1 : (car == 0) = false := by simpa using h
    have p1 : ¬ car = 0 := h
    clear h
    by_cases hc : 1 ≤ count ∧ count ≤ 4
    · have HC := Lib.hid (inB_yes hc)
      obtain ⟨hc0, hc1⟩ := hc
      cases hy : yarnB 0 car dir
      · have HY := Lib.hid hy
        clear hy
        go_enter Try.func126, Try.ntmps126
        go_wp2_with (first | (go_at_call 60; (first | (with_reducible refine (callS (within_any count 1 4 _) HC.out).mono ?_) | (with_reducible refine (within_any place count n _).mono ?_)); rintro e w' ⟨rfl, rfl⟩) | (go_at_call 135; refine (callB (isStitched_any _ ⟨5, place, count, 0, car, dir⟩) HY.out).mono ?_; rintro e w1 ⟨rfl, g1⟩; have G1 := Lib.hid (show Up w _ from Chg.trans (by repeat (first | exact Chg.refl _ _ | apply Chg.drew | apply Chg.drewN | refine Chg.alloc ?_ _)) g1); have q1 := Chg.cell g1 (show (w.alloc (.cells #[.int .i64 5, .int .i64 place, .int .i64 count, .int .i64 0, .int .i64 car, .int .i64 dir] 92)).cell? ⟨w.heap.size, 1, none⟩ = some (.int .i64 place) from cell_new _ _ _ _) id; have q2 := Chg.cell g1 (show (w.alloc (.cells #[.int .i64 5, .int .i64 place, .int .i64 count, .int .i64 0, .int .i64 car, .int .i64 dir] 92)).cell? ⟨w.heap.size, 2, none⟩ = some (.int .i64 count) from cell_new _ _ _ _) id; have q3 := Chg.cell g1 (show (w.alloc (.cells #[.int .i64 5, .int .i64 place, .int .i64 count, .int .i64 0, .int .i64 car, .int .i64 dir] 92)).cell? ⟨w.heap.size, 3, none⟩ = some (.int .i64 0) from cell_new _ _ _ _) id; clear g1))
        all_goals (go_ret; exact ⟨ret_bool (by first | (simp [evP, HY.out, inB, *]; done) | (simp [evP, HY.out, inB, *]; omega) | (have hb1 := HB1.out; simp [evP, HY.out, inB]; (try intros); omega) | (have hb1 := HB1.out; rw [Bool.eq_iff_iff]; simp [evP, HY.out, inB]; omega)), (by first | exact G1.out | (repeat (first | exact Chg.refl _ _ | apply Chg.drew | apply Chg.drewN | refine Chg.alloc ?_ _)))⟩)
      · have HY := Lib.hid hy
        clear hy
        go_enter Try.func126, Try.ntmps126
        go_wp2_with (first | (go_at_call 60; (first | (with_reducible refine (callS (within_any count 1 4 _) HC.out).mono ?_) | (with_reducible refine (within_any place count n _).mono ?_)); rintro e w' ⟨rfl, rfl⟩) | (go_at_call 135; refine (callB (isStitched_any _ ⟨5, place, count, 0, car, dir⟩) HY.out).mono ?_; rintro e w1 ⟨rfl, g1⟩; have G1 := Lib.hid (show Up w _ from Chg.trans (by repeat (first | exact Chg.refl _ _ | apply Chg.drew | apply Chg.drewN | refine Chg.alloc ?_ _)) g1); have q1 := Chg.cell g1 (show (w.alloc (.cells #[.int .i64 5, .int .i64 place, .int .i64 count, .int .i64 0, .int .i64 car, .int .i64 dir] 92)).cell? ⟨w.heap.size, 1, none⟩ = some (.int .i64 place) from cell_new _ _ _ _) id; have q2 := Chg.cell g1 (show (w.alloc (.cells #[.int .i64 5, .int .i64 place, .int .i64 count, .int .i64 0, .int .i64 car, .int .i64 dir] 92)).cell? ⟨w.heap.size, 2, none⟩ = some (.int .i64 count) from cell_new _ _ _ _) id; have q3 := Chg.cell g1 (show (w.alloc (.cells #[.int .i64 5, .int .i64 place, .int .i64 count, .int .i64 0, .int .i64 car, .int .i64 dir] 92)).cell? ⟨w.heap.size, 3, none⟩ = some (.int .i64 0) from cell_new _ _ _ _) id; clear g1))
        all_goals (go_ret; exact ⟨ret_bool (by first | (simp [evP, HY.out, inB, *]; done) | (simp [evP, HY.out, inB, *]; omega) | (have hb1 := HB1.out; simp [evP, HY.out, inB]; (try intros); omega) | (have hb1 := HB1.out; rw [Bool.eq_iff_iff]; simp [evP, HY.out, inB]; omega)), (by first | exact G1.out | (repeat (first | exact Chg.refl _ _ | apply Chg.drew | apply Chg.drewN | refine Chg.alloc ?_ _)))⟩)
    · have HC := Lib.hid (show inB count 1 4 = false from decide_eq_false hc)
      cases hy : yarnB 0 car dir
      · have HY := Lib.hid hy
        clear hy
        go_enter Try.func126, Try.ntmps126
        go_wp2_with (first | (go_at_call 60; (first | (with_reducible refine (callS (within_any count 1 4 _) HC.out).mono ?_) | (with_reducible refine (within_any place count n _).mono ?_)); rintro e w' ⟨rfl, rfl⟩) | (go_at_call 135; refine (callB (isStitched_any _ ⟨5, place, count, 0, car, dir⟩) HY.out).mono ?_; rintro e w1 ⟨rfl, g1⟩; have G1 := Lib.hid (show Up w _ from Chg.trans (by repeat (first | exact Chg.refl _ _ | apply Chg.drew | apply Chg.drewN | refine Chg.alloc ?_ _)) g1); have q1 := Chg.cell g1 (show (w.alloc (.cells #[.int .i64 5, .int .i64 place, .int .i64 count, .int .i64 0, .int .i64 car, .int .i64 dir] 92)).cell? ⟨w.heap.size, 1, none⟩ = some (.int .i64 place) from cell_new _ _ _ _) id; have q2 := Chg.cell g1 (show (w.alloc (.cells #[.int .i64 5, .int .i64 place, .int .i64 count, .int .i64 0, .int .i64 car, .int .i64 dir] 92)).cell? ⟨w.heap.size, 2, none⟩ = some (.int .i64 count) from cell_new _ _ _ _) id; have q3 := Chg.cell g1 (show (w.alloc (.cells #[.int .i64 5, .int .i64 place, .int .i64 count, .int .i64 0, .int .i64 car, .int .i64 dir] 92)).cell? ⟨w.heap.size, 3, none⟩ = some (.int .i64 0) from cell_new _ _ _ _) id; clear g1))
        all_goals (go_ret; exact ⟨ret_bool (by first | (simp [evP, HY.out, inB, *]; done) | (simp [evP, HY.out, inB, *]; omega) | (have hb1 := HB1.out; simp [evP, HY.out, inB]; (try intros); omega) | (have hb1 := HB1.out; rw [Bool.eq_iff_iff]; simp [evP, HY.out, inB]; omega)), (by first | exact G1.out | (repeat (first | exact Chg.refl _ _ | apply Chg.drew | apply Chg.drewN | refine Chg.alloc ?_ _)))⟩)
      · have HY := Lib.hid hy
        clear hy
        go_enter Try.func126, Try.ntmps126
        go_wp2_with (first | (go_at_call 60; (first | (with_reducible refine (callS (within_any count 1 4 _) HC.out).mono ?_) | (with_reducible refine (within_any place count n _).mono ?_)); rintro e w' ⟨rfl, rfl⟩) | (go_at_call 135; refine (callB (isStitched_any _ ⟨5, place, count, 0, car, dir⟩) HY.out).mono ?_; rintro e w1 ⟨rfl, g1⟩; have G1 := Lib.hid (show Up w _ from Chg.trans (by repeat (first | exact Chg.refl _ _ | apply Chg.drew | apply Chg.drewN | refine Chg.alloc ?_ _)) g1); have q1 := Chg.cell g1 (show (w.alloc (.cells #[.int .i64 5, .int .i64 place, .int .i64 count, .int .i64 0, .int .i64 car, .int .i64 dir] 92)).cell? ⟨w.heap.size, 1, none⟩ = some (.int .i64 place) from cell_new _ _ _ _) id; have q2 := Chg.cell g1 (show (w.alloc (.cells #[.int .i64 5, .int .i64 place, .int .i64 count, .int .i64 0, .int .i64 car, .int .i64 dir] 92)).cell? ⟨w.heap.size, 2, none⟩ = some (.int .i64 count) from cell_new _ _ _ _) id; have q3 := Chg.cell g1 (show (w.alloc (.cells #[.int .i64 5, .int .i64 place, .int .i64 count, .int .i64 0, .int .i64 car, .int .i64 dir] 92)).cell? ⟨w.heap.size, 3, none⟩ = some (.int .i64 0) from cell_new _ _ _ _) id; clear g1))
        all_goals (go_ret; exact ⟨ret_bool (by first | (simp [evP, HY.out, inB, *]; done) | (simp [evP, HY.out, inB, *]; omega) | (have hb1 := HB1.out; simp [evP, HY.out, inB]; (try intros); omega) | (have hb1 := HB1.out; rw [Bool.eq_iff_iff]; simp [evP, HY.out, inB]; omega)), (by first | exact G1.out | (repeat (first | exact Chg.refl _ _ | apply Chg.drew | apply Chg.drewN | refine Chg.alloc ?_ _)))⟩)
  · have f2 : (dir == 0) = false := by simpa using h
    have p2 : ¬ dir = 0 := h
    clear h
    by_cases hc : 1 ≤ count ∧ count ≤ 4
    · have HC := Lib.hid (inB_yes hc)
      obtain ⟨hc0, hc1⟩ := hc
      cases hy : yarnB 0 0 dir
      · have HY := Lib.hid hy
        clear hy
        go_enter Try.func126, Try.ntmps126
        go_wp2_with (first | (go_at_call 60; (first | (with_reducible refine (callS (within_any count 1 4 _) HC.out).mono ?_) | (with_reducible refine (within_any place count n _).mono ?_)); rintro e w' ⟨rfl, rfl⟩) | (go_at_call 135; refine (callB (isStitched_any _ ⟨5, place, count, 0, 0, dir⟩) HY.out).mono ?_; rintro e w1 ⟨rfl, g1⟩; have G1 := Lib.hid (show Up w _ from Chg.trans (by repeat (first | exact Chg.refl _ _ | apply Chg.drew | apply Chg.drewN | refine Chg.alloc ?_ _)) g1); have q1 := Chg.cell g1 (show (w.alloc (.cells #[.int .i64 5, .int .i64 place, .int .i64 count, .int .i64 0, .int .i64 0, .int .i64 dir] 92)).cell? ⟨w.heap.size, 1, none⟩ = some (.int .i64 place) from cell_new _ _ _ _) id; have q2 := Chg.cell g1 (show (w.alloc (.cells #[.int .i64 5, .int .i64 place, .int .i64 count, .int .i64 0, .int .i64 0, .int .i64 dir] 92)).cell? ⟨w.heap.size, 2, none⟩ = some (.int .i64 count) from cell_new _ _ _ _) id; have q3 := Chg.cell g1 (show (w.alloc (.cells #[.int .i64 5, .int .i64 place, .int .i64 count, .int .i64 0, .int .i64 0, .int .i64 dir] 92)).cell? ⟨w.heap.size, 3, none⟩ = some (.int .i64 0) from cell_new _ _ _ _) id; clear g1))
        all_goals (go_ret; exact ⟨ret_bool (by first | (simp [evP, HY.out, inB, *]; done) | (simp [evP, HY.out, inB, *]; omega) | (have hb1 := HB1.out; simp [evP, HY.out, inB]; (try intros); omega) | (have hb1 := HB1.out; rw [Bool.eq_iff_iff]; simp [evP, HY.out, inB]; omega)), (by first | exact G1.out | (repeat (first | exact Chg.refl _ _ | apply Chg.drew | apply Chg.drewN | refine Chg.alloc ?_ _)))⟩)
      · have HY := Lib.hid hy
        clear hy
        go_enter Try.func126, Try.ntmps126
        go_wp2_with (first | (go_at_call 60; (first | (with_reducible refine (callS (within_any count 1 4 _) HC.out).mono ?_) | (with_reducible refine (within_any place count n _).mono ?_)); rintro e w' ⟨rfl, rfl⟩) | (go_at_call 135; refine (callB (isStitched_any _ ⟨5, place, count, 0, 0, dir⟩) HY.out).mono ?_; rintro e w1 ⟨rfl, g1⟩; have G1 := Lib.hid (show Up w _ from Chg.trans (by repeat (first | exact Chg.refl _ _ | apply Chg.drew | apply Chg.drewN | refine Chg.alloc ?_ _)) g1); have q1 := Chg.cell g1 (show (w.alloc (.cells #[.int .i64 5, .int .i64 place, .int .i64 count, .int .i64 0, .int .i64 0, .int .i64 dir] 92)).cell? ⟨w.heap.size, 1, none⟩ = some (.int .i64 place) from cell_new _ _ _ _) id; have q2 := Chg.cell g1 (show (w.alloc (.cells #[.int .i64 5, .int .i64 place, .int .i64 count, .int .i64 0, .int .i64 0, .int .i64 dir] 92)).cell? ⟨w.heap.size, 2, none⟩ = some (.int .i64 count) from cell_new _ _ _ _) id; have q3 := Chg.cell g1 (show (w.alloc (.cells #[.int .i64 5, .int .i64 place, .int .i64 count, .int .i64 0, .int .i64 0, .int .i64 dir] 92)).cell? ⟨w.heap.size, 3, none⟩ = some (.int .i64 0) from cell_new _ _ _ _) id; clear g1))
        all_goals (go_ret; exact ⟨ret_bool (by first | (simp [evP, HY.out, inB, *]; done) | (simp [evP, HY.out, inB, *]; omega) | (have hb1 := HB1.out; simp [evP, HY.out, inB]; (try intros); omega) | (have hb1 := HB1.out; rw [Bool.eq_iff_iff]; simp [evP, HY.out, inB]; omega)), (by first | exact G1.out | (repeat (first | exact Chg.refl _ _ | apply Chg.drew | apply Chg.drewN | refine Chg.alloc ?_ _)))⟩)
    · have HC := Lib.hid (show inB count 1 4 = false from decide_eq_false hc)
      cases hy : yarnB 0 0 dir
      · have HY := Lib.hid hy
        clear hy
        go_enter Try.func126, Try.ntmps126
        go_wp2_with (first | (go_at_call 60; (first | (with_reducible refine (callS (within_any count 1 4 _) HC.out).mono ?_) | (with_reducible refine (within_any place count n _).mono ?_)); rintro e w' ⟨rfl, rfl⟩) | (go_at_call 135; refine (callB (isStitched_any _ ⟨5, place, count, 0, 0, dir⟩) HY.out).mono ?_; rintro e w1 ⟨rfl, g1⟩; have G1 := Lib.hid (show Up w _ from Chg.trans (by repeat (first | exact Chg.refl _ _ | apply Chg.drew | apply Chg.drewN | refine Chg.alloc ?_ _)) g1); have q1 := Chg.cell g1 (show (w.alloc (.cells #[.int .i64 5, .int .i64 place, .int .i64 count, .int .i64 0, .int .i64 0, .int .i64 dir] 92)).cell? ⟨w.heap.size, 1, none⟩ = some (.int .i64 place) from cell_new _ _ _ _) id; have q2 := Chg.cell g1 (show (w.alloc (.cells #[.int .i64 5, .int .i64 place, .int .i64 count, .int .i64 0, .int .i64 0, .int .i64 dir] 92)).cell? ⟨w.heap.size, 2, none⟩ = some (.int .i64 count) from cell_new _ _ _ _) id; have q3 := Chg.cell g1 (show (w.alloc (.cells #[.int .i64 5, .int .i64 place, .int .i64 count, .int .i64 0, .int .i64 0, .int .i64 dir] 92)).cell? ⟨w.heap.size, 3, none⟩ = some (.int .i64 0) from cell_new _ _ _ _) id; clear g1))
        all_goals (go_ret; exact ⟨ret_bool (by first | (simp [evP, HY.out, inB, *]; done) | (simp [evP, HY.out, inB, *]; omega) | (have hb1 := HB1.out; simp [evP, HY.out, inB]; (try intros); omega) | (have hb1 := HB1.out; rw [Bool.eq_iff_iff]; simp [evP, HY.out, inB]; omega)), (by first | exact G1.out | (repeat (first | exact Chg.refl _ _ | apply Chg.drew | apply Chg.drewN | refine Chg.alloc ?_ _)))⟩)
      · have HY := Lib.hid hy
        clear hy
        go_enter Try.func126, Try.ntmps126
        go_wp2_with (first | (go_at_call 60; (first | (with_reducible refine (callS (within_any count 1 4 _) HC.out).mono ?_) | (with_reducible refine (within_any place count n _).mono ?_)); rintro e w' ⟨rfl, rfl⟩) | (go_at_call 135; refine (callB (isStitched_any _ ⟨5, place, count, 0, 0, dir⟩) HY.out).mono ?_; rintro e w1 ⟨rfl, g1⟩; have G1 := Lib.hid (show Up w _ from Chg.trans (by repeat (first | exact Chg.refl _ _ | apply Chg.drew | apply Chg.drewN | refine Chg.alloc ?_ _)) g1); have q1 := Chg.cell g1 (show (w.alloc (.cells #[.int .i64 5, .int .i64 place, .int .i64 count, .int .i64 0, .int .i64 0, .int .i64 dir] 92)).cell? ⟨w.heap.size, 1, none⟩ = some (.int .i64 place) from cell_new _ _ _ _) id; have q2 := Chg.cell g1 (show (w.alloc (.cells #[.int .i64 5, .int .i64 place, .int .i64 count, .int .i64 0, .int .i64 0, .int .i64 dir] 92)).cell? ⟨w.heap.size, 2, none⟩ = some (.int .i64 count) from cell_new _ _ _ _) id; have q3 := Chg.cell g1 (show (w.alloc (.cells #[.int .i64 5, .int .i64 place, .int .i64 count, .int .i64 0, .int .i64 0, .int .i64 dir] 92)).cell? ⟨w.heap.size, 3, none⟩ = some (.int .i64 0) from cell_new _ _ _ _) id; clear g1))
        all_goals (go_ret; exact ⟨ret_bool (by first | (simp [evP, HY.out, inB, *]; done) | (simp [evP, HY.out, inB, *]; omega) | (have hb1 := HB1.out; simp [evP, HY.out, inB]; (try intros); omega) | (have hb1 := HB1.out; rw [Bool.eq_iff_iff]; simp [evP, HY.out, inB]; omega)), (by first | exact G1.out | (repeat (first | exact Chg.refl _ _ | apply Chg.drew | apply Chg.drewN | refine Chg.alloc ?_ _)))⟩)
  · skip
    by_cases hc : 1 ≤ count ∧ count ≤ 4
    · have HC := Lib.hid (inB_yes hc)
      obtain ⟨hc0, hc1⟩ := hc
      cases hy : yarnB 0 0 0
      · have HY := Lib.hid hy
        clear hy
        go_enter Try.func126, Try.ntmps126
        go_wp2_with (first | (go_at_call 60; (first | (with_reducible refine (callS (within_any count 1 4 _) HC.out).mono ?_) | (with_reducible refine (within_any place count n _).mono ?_)); rintro e w' ⟨rfl, rfl⟩) | (go_at_call 135; refine (callB (isStitched_any _ ⟨5, place, count, 0, 0, 0⟩) HY.out).mono ?_; rintro e w1 ⟨rfl, g1⟩; have G1 := Lib.hid (show Up w _ from Chg.trans (by repeat (first | exact Chg.refl _ _ | apply Chg.drew | apply Chg.drewN | refine Chg.alloc ?_ _)) g1); have q1 := Chg.cell g1 (show (w.alloc (.cells #[.int .i64 5, .int .i64 place, .int .i64 count, .int .i64 0, .int .i64 0, .int .i64 0] 92)).cell? ⟨w.heap.size, 1, none⟩ = some (.int .i64 place) from cell_new _ _ _ _) id; have q2 := Chg.cell g1 (show (w.alloc (.cells #[.int .i64 5, .int .i64 place, .int .i64 count, .int .i64 0, .int .i64 0, .int .i64 0] 92)).cell? ⟨w.heap.size, 2, none⟩ = some (.int .i64 count) from cell_new _ _ _ _) id; have q3 := Chg.cell g1 (show (w.alloc (.cells #[.int .i64 5, .int .i64 place, .int .i64 count, .int .i64 0, .int .i64 0, .int .i64 0] 92)).cell? ⟨w.heap.size, 3, none⟩ = some (.int .i64 0) from cell_new _ _ _ _) id; clear g1))
        all_goals (go_ret; exact ⟨ret_bool (by first | (simp [evP, HY.out, inB, *]; done) | (simp [evP, HY.out, inB, *]; omega) | (have hb1 := HB1.out; simp [evP, HY.out, inB]; (try intros); omega) | (have hb1 := HB1.out; rw [Bool.eq_iff_iff]; simp [evP, HY.out, inB]; omega)), (by first | exact G1.out | (repeat (first | exact Chg.refl _ _ | apply Chg.drew | apply Chg.drewN | refine Chg.alloc ?_ _)))⟩)
      · have HY := Lib.hid hy
        clear hy
        go_enter Try.func126, Try.ntmps126
        go_wp2_with (first | (go_at_call 60; (first | (with_reducible refine (callS (within_any count 1 4 _) HC.out).mono ?_) | (with_reducible refine (within_any place count n _).mono ?_)); rintro e w' ⟨rfl, rfl⟩) | (go_at_call 135; refine (callB (isStitched_any _ ⟨5, place, count, 0, 0, 0⟩) HY.out).mono ?_; rintro e w1 ⟨rfl, g1⟩; have G1 := Lib.hid (show Up w _ from Chg.trans (by repeat (first | exact Chg.refl _ _ | apply Chg.drew | apply Chg.drewN | refine Chg.alloc ?_ _)) g1); have q1 := Chg.cell g1 (show (w.alloc (.cells #[.int .i64 5, .int .i64 place, .int .i64 count, .int .i64 0, .int .i64 0, .int .i64 0] 92)).cell? ⟨w.heap.size, 1, none⟩ = some (.int .i64 place) from cell_new _ _ _ _) id; have q2 := Chg.cell g1 (show (w.alloc (.cells #[.int .i64 5, .int .i64 place, .int .i64 count, .int .i64 0, .int .i64 0, .int .i64 0] 92)).cell? ⟨w.heap.size, 2, none⟩ = some (.int .i64 count) from cell_new _ _ _ _) id; have q3 := Chg.cell g1 (show (w.alloc (.cells #[.int .i64 5, .int .i64 place, .int .i64 count, .int .i64 0, .int .i64 0, .int .i64 0] 92)).cell? ⟨w.heap.size, 3, none⟩ = some (.int .i64 0) from cell_new _ _ _ _) id; clear g1))
        all_goals (go_ret; exact ⟨ret_bool (by first | (simp [evP, HY.out, inB, *]; done) | (simp [evP, HY.out, inB, *]; omega) | (have hb1 := HB1.out; simp [evP, HY.out, inB]; (try intros); omega) | (have hb1 := HB1.out; rw [Bool.eq_iff_iff]; simp [evP, HY.out, inB]; omega)), (by first | exact G1.out | (repeat (first | exact Chg.refl _ _ | apply Chg.drew | apply Chg.drewN | refine Chg.alloc ?_ _)))⟩)
    · have HC := Lib.hid (show inB count 1 4 = false from decide_eq_false hc)
      cases hy : yarnB 0 0 0
      · have HY := Lib.hid hy
        clear hy
        go_enter Try.func126, Try.ntmps126
        go_wp2_with (first | (go_at_call 60; (first | (with_reducible refine (callS (within_any count 1 4 _) HC.out).mono ?_) | (with_reducible refine (within_any place count n _).mono ?_)); rintro e w' ⟨rfl, rfl⟩) | (go_at_call 135; refine (callB (isStitched_any _ ⟨5, place, count, 0, 0, 0⟩) HY.out).mono ?_; rintro e w1 ⟨rfl, g1⟩; have G1 := Lib.hid (show Up w _ from Chg.trans (by repeat (first | exact Chg.refl _ _ | apply Chg.drew | apply Chg.drewN | refine Chg.alloc ?_ _)) g1); have q1 := Chg.cell g1 (show (w.alloc (.cells #[.int .i64 5, .int .i64 place, .int .i64 count, .int .i64 0, .int .i64 0, .int .i64 0] 92)).cell? ⟨w.heap.size, 1, none⟩ = some (.int .i64 place) from cell_new _ _ _ _) id; have q2 := Chg.cell g1 (show (w.alloc (.cells #[.int .i64 5, .int .i64 place, .int .i64 count, .int .i64 0, .int .i64 0, .int .i64 0] 92)).cell? ⟨w.heap.size, 2, none⟩ = some (.int .i64 count) from cell_new _ _ _ _) id; have q3 := Chg.cell g1 (show (w.alloc (.cells #[.int .i64 5, .int .i64 place, .int .i64 count, .int .i64 0, .int .i64 0, .int .i64 0] 92)).cell? ⟨w.heap.size, 3, none⟩ = some (.int .i64 0) from cell_new _ _ _ _) id; clear g1))
        all_goals (go_ret; exact ⟨ret_bool (by first | (simp [evP, HY.out, inB, *]; done) | (simp [evP, HY.out, inB, *]; omega) | (have hb1 := HB1.out; simp [evP, HY.out, inB]; (try intros); omega) | (have hb1 := HB1.out; rw [Bool.eq_iff_iff]; simp [evP, HY.out, inB]; omega)), (by first | exact G1.out | (repeat (first | exact Chg.refl _ _ | apply Chg.drew | apply Chg.drewN | refine Chg.alloc ?_ _)))⟩)
      · have HY := Lib.hid hy
        clear hy
        go_enter Try.func126, Try.ntmps126
        go_wp2_with (first | (go_at_call 60; (first | (with_reducible refine (callS (within_any count 1 4 _) HC.out).mono ?_) | (with_reducible refine (within_any place count n _).mono ?_)); rintro e w' ⟨rfl, rfl⟩) | (go_at_call 135; refine (callB (isStitched_any _ ⟨5, place, count, 0, 0, 0⟩) HY.out).mono ?_; rintro e w1 ⟨rfl, g1⟩; have G1 := Lib.hid (show Up w _ from Chg.trans (by repeat (first | exact Chg.refl _ _ | apply Chg.drew | apply Chg.drewN | refine Chg.alloc ?_ _)) g1); have q1 := Chg.cell g1 (show (w.alloc (.cells #[.int .i64 5, .int .i64 place, .int .i64 count, .int .i64 0, .int .i64 0, .int .i64 0] 92)).cell? ⟨w.heap.size, 1, none⟩ = some (.int .i64 place) from cell_new _ _ _ _) id; have q2 := Chg.cell g1 (show (w.alloc (.cells #[.int .i64 5, .int .i64 place, .int .i64 count, .int .i64 0, .int .i64 0, .int .i64 0] 92)).cell? ⟨w.heap.size, 2, none⟩ = some (.int .i64 count) from cell_new _ _ _ _) id; have q3 := Chg.cell g1 (show (w.alloc (.cells #[.int .i64 5, .int .i64 place, .int .i64 count, .int .i64 0, .int .i64 0, .int .i64 0] 92)).cell? ⟨w.heap.size, 3, none⟩ = some (.int .i64 0) from cell_new _ _ _ _) id; clear g1))
        all_goals (go_ret; exact ⟨ret_bool (by first | (simp [evP, HY.out, inB, *]; done) | (simp [evP, HY.out, inB, *]; omega) | (have hb1 := HB1.out; simp [evP, HY.out, inB]; (try intros); omega) | (have hb1 := HB1.out; rw [Bool.eq_iff_iff]; simp [evP, HY.out, inB]; omega)), (by first | exact G1.out | (repeat (first | exact Chg.refl _ _ | apply Chg.drew | apply Chg.drewN | refine Chg.alloc ?_ _)))⟩)
theorem evValid_else (w : World) (k place count bed car dir n : Int) (hk : k ≠ 1 ∧ k ≠ 2 ∧ k ≠ 3 ∧ k ≠ 4 ∧ k ≠ 5) :
    Calls Try.prog 126 #[.agg #[.int .i64 k, .int .i64 place, .int .i64 count, .int .i64 bed, .int .i64 car, .int .i64 dir], .int .i64 n] w fun e w' => e = .returned (.bool (decide (evP k place count bed car dir n))) ∧ Up w w' := by
  have HB := Lib.hid (show decide (evP k place count bed car dir n) = false from decide_eq_false (by unfold evP; omega))
  obtain ⟨k1, k2, k3, k4, k5⟩ := hk
  have e1 : (k == 1) = false := by simpa using k1
  have e2 : (k == 2) = false := by simpa using k2
  have e3 : (k == 3) = false := by simpa using k3
  have e4 : (k == 4) = false := by simpa using k4
  have e5 : (k == 5) = false := by simpa using k5
  clear k1 k2 k3 k4 k5
  rw [HB.out]
  go_enter Try.func126, Try.ntmps126
  go_wp2
  all_goals (go_ret; exact ⟨rfl, (by repeat (first | exact Chg.refl _ _ | apply Chg.drew | apply Chg.drewN | refine Chg.alloc ?_ _))⟩)
theorem evValid_any (w : World) (x : EvM) (n : Int) (hn : 0 ≤ n ∧ n ≤ 12) :
    Calls Try.prog 126 #[x.val, .int .i64 n] w fun e w' => e = .returned (.bool (evOk x n)) ∧ Up w w' := by
  obtain ⟨k, place, count, bed, car, dir⟩ := x
  by_cases k1 : k = 1
  · subst k1; exact evValid_1 w place count bed car dir n hn
  by_cases k2 : k = 2
  · subst k2; exact evValid_2 w place count bed car dir n hn
  by_cases k3 : k = 3
  · subst k3; exact evValid_3 w place count bed car dir n hn
  by_cases k4 : k = 4
  · subst k4; exact evValid_4 w place count bed car dir n hn
  by_cases k5 : k = 5
  · subst k5; exact evValid_5 w place count bed car dir n hn
  exact evValid_else w k place count bed car dir n ⟨k1, k2, k3, k4, k5⟩
theorem evAfter_any (w : World) (x : EvM) (n : Int) (hn : 0 ≤ n ∧ n ≤ 12) (h : evOk x n = true) :
    Calls Try.prog 109 #[x.val, .int .i64 n] w fun e w' => e = .returned (.int .i64 (evAfter x.kind x.count n)) ∧ Up w w' := by
  have h := of_decide_eq_true h
  obtain ⟨k, place, count, bed, car, dir⟩ := x
  obtain ⟨-, hc⟩ := h
  simp only [] at hc
  have HC := Lib.hid hc
  have hcb : k = 1 ∨ k = 2 ∧ (0 ≤ count ∧ count ≤ 4) ∨ k = 3 ∨ k = 4 ∧ (1 ≤ count ∧ count ≤ 4) ∨ k = 5 := by
    rcases hc with ⟨h, _⟩ | ⟨h, h2, _⟩ | ⟨h, _⟩ | ⟨h, h2, _⟩ | ⟨h, _⟩
    · exact .inl h
    · exact .inr (.inl ⟨h, h2⟩)
    · exact .inr (.inr (.inl h))
    · exact .inr (.inr (.inr (.inl ⟨h, h2⟩)))
    · exact .inr (.inr (.inr (.inr h)))
  clear hc HC
  obtain ⟨hn0, hn1⟩ := hn
  rcases hcb with rfl | ⟨rfl, h0, h1⟩ | rfl | ⟨rfl, h0, h1⟩ | rfl
  all_goals
    go_enter Try.func109, Try.ntmps109
    go_wp2
    go_ret
    exact ⟨ret_int (by simp [evAfter]), (by repeat (first | exact Chg.refl _ _ | apply Chg.drew | apply Chg.drewN | refine Chg.alloc ?_ _))⟩
end Go.Proofs.Ytplabnjdhkmmkaa
end
section
set_option maxRecDepth 100000
set_option maxHeartbeats 1000000
set_option linter.unusedSimpArgs false
set_option linter.unusedVariables false
namespace Go.Proofs.Ytplabnjdhkmmkaa
open Go.ChangeShapes Go.WideShapes Go.ChangeAt Go.RowKit
theorem evAfter_bd {x : EvM} {n : Int} (h : evOk x n = true) (hn : 0 ≤ n ∧ n ≤ 12) : 0 ≤ evAfter x.kind x.count n := by
  have h := of_decide_eq_true h
  obtain ⟨h0, h⟩ := h
  unfold evAfter
  split
  · rename_i e
    rcases h with ⟨h, _⟩ | ⟨_, h2, h3, _⟩ | ⟨h, _⟩ | ⟨h, _⟩ | ⟨h, _⟩ <;> omega
  · split
    · omega
    · split
      · rcases h with ⟨h, _⟩ | ⟨h, _⟩ | ⟨h, _⟩ | ⟨_, h2, h3, _⟩ | ⟨h, _⟩ <;> omega
      · omega
/-- the strands behind one event more, if it is fine -/
def stStep (a : Option Int) (e : EvM) : Option Int := a.bind fun n => if evOk e n = true ∧ evAfter e.kind e.count n ≤ 12 then some (evAfter e.kind e.count n) else none
def stM (xs : List EvM) (n : Int) : Option Int := xs.foldl stStep (some n)
theorem stM_none (xs : List EvM) : xs.foldl stStep none = none := by
  induction xs with
  | nil => rfl
  | cons e r ih => exact ih
theorem stM_succ {xs : List EvM} {n : Int} {j : Nat} (h : j < xs.length) : stM (xs.take (j + 1)) n = stStep (stM (xs.take j) n) xs[j] := by
  unfold stM
  rw [List.take_succ_eq_append_getElem h, List.foldl_append]
  rfl
theorem stM_stop {xs : List EvM} {n m : Int} {j : Nat} (h : j < xs.length) (h1 : stM (xs.take j) n = some m) (h2 : stStep (some m) xs[j] = none) : stM xs n = none := by
  unfold stM at *
  conv => lhs; rw [← List.take_append_drop (j + 1) xs]
  rw [List.foldl_append, List.take_succ_eq_append_getElem h, List.foldl_append, h1]
  show List.foldl stStep (stStep (some m) xs[j]) _ = none
  rw [h2]
  exact stM_none _
theorem stStep_no {e : EvM} {m : Int} (h : evOk e m = false) : stStep (some m) e = none := by simp [stStep, h]
theorem stStep_big {e : EvM} {m : Int} (h : ¬ evAfter e.kind e.count m ≤ 12) : stStep (some m) e = none := by simp [stStep, h]
theorem stStep_yes {e : EvM} {m : Int} (h : evOk e m = true) (h2 : evAfter e.kind e.count m ≤ 12) : stStep (some m) e = some (evAfter e.kind e.count m) := by simp [stStep, h, h2]
theorem stM_all {xs : List EvM} {n m : Int} (h : stM (xs.take xs.length) n = some m) : stM xs n = some m := by rwa [List.take_length] at h
def stV : Option Int → Value
  | some m => .tuple #[.int .i64 m, .bool true]
  | none => .tuple #[.int .i64 0, .bool false]
/-- whether there are crossings -/
def crossB (xs : List EvM) : Bool := xs.any fun e => e.kind == 1
def noCross (xs : List EvM) (j : Nat) : Prop := ∀ i (hi : i < xs.length), i < j → (xs[i].kind == 1) = false
theorem noCross.start (xs : List EvM) : noCross xs 0 := fun _ _ h => absurd h (Nat.not_lt_zero _)
theorem noCross.next {xs : List EvM} {j : Nat} (h : noCross xs j) (hj : j < xs.length) (hk : (xs[j].kind == 1) = false) : noCross xs (j + 1) := fun i hi hij => by
  by_cases e : i = j
  · subst e; exact hk
  · exact h i hi (by omega)
theorem noCross.all {xs : List EvM} (h : noCross xs xs.length) : crossB xs = false := by
  unfold crossB
  rw [List.any_eq_false]
  intro x hx
  obtain ⟨i, hi, rfl⟩ := List.getElem_of_mem hx
  rw [h i hi hi]
  decide
/-- what form and stitches number i must be -/
def stsI (p : ProofM) (i : Nat) : List EvM := p.sts.getD i []
def formI (p : ProofM) (i : Nat) : NormM := p.forms.getD i ⟨0, 0, []⟩
def prC (p : ProofM) (i : Nat) (n : Int) : Prop :=
  okN (formI p i) = true ∧ (formI p i).n = n ∧ ¬ (0 < i ∧ (formI p i).p = 0 ∧ (formI p i).fs.length = 0) ∧ (stsI p i).length ≤ 2000 ∧ ¬ (i + 1 < p.forms.length ∧ (stsI p i).length = 0) ∧ crossB (stsI p i) = false
instance (p : ProofM) (i : Nat) (n : Int) : Decidable (prC p i n) := by unfold prC; infer_instance
end Go.Proofs.Ytplabnjdhkmmkaa
end
section
set_option maxRecDepth 100000
set_option maxHeartbeats 1000000
set_option linter.unusedSimpArgs false
set_option linter.unusedVariables false
namespace Go.Proofs.Ytplabnjdhkmmkaa
open Go.ChangeShapes Go.WideShapes Go.ChangeAt Go.RowKit
theorem strandsAfter_any (w : World) (S : Nat → Prop) (v : Value) (xs : List EvM) (n : Int) (hn : 0 ≤ n ∧ n ≤ 12) (h : Evs w S v xs) :
    Calls Try.prog 106 #[.int .i64 n, v] w fun e w' => e = .returned (stV (stM xs n)) ∧ Up w w' := by
  obtain ⟨A, c, rfl, hlc, hcm, -⟩ := h.shape
  have H := Lib.hid h
  clear h
  go_enter Try.func106, Try.ntmps106
  go_wp2
  go_loopw [0, 10] (fun s i wr => ∃ (j : Nat) (m : Int), j ≤ xs.length ∧ i = .int .i64 j ∧ s = .int .i64 m ∧ Hid (stM (xs.take j) n = some m) ∧ Hid (0 ≤ m ∧ m ≤ 12) ∧ Hid (Up w wr)) (fun _ i _ => xs.length - (intOf i).toNat)
  case atStart => exact ⟨0, n, by omega, rfl, rfl, Lib.hid (by simp [stM]), hn, Chg.refl _ _⟩
  case round =>
    obtain ⟨j, m, hj, rfl, rfl, hs, hm, hu⟩ := hrel
    by_cases hlt : j < xs.length
    · skip
      obtain ⟨b, o, c', he1, -, -, hc⟩ := (H.out.up hu.out).at_ hlt
      obtain ⟨rfl, rfl⟩ : A = some ⟨b, o, none⟩ ∧ c = c' := by simpa using he1
      have f0 := (hc 0 _ rfl).1
      have f1 := (hc 1 _ rfl).1
      have f2 := (hc 2 _ rfl).1
      have f3 := (hc 3 _ rfl).1
      have f4 := (hc 4 _ rfl).1
      have f5 := (hc 5 _ rfl).1
      rw [Nat.add_zero] at f0
      clear hc he1
      have uc := Lib.hid (Chg.refl Nowhere wr)
      cases hk : evOk xs[j] m with
      | false =>
        have HK := Lib.hid hk
        have HB := Lib.hid (stM_stop hlt hs.out (stStep_no hk))
        clear hk
        go_wp2_with fail
        refine (callB (evValid_any _ xs[j] m hm.out) HK.out).mono ?_
        rintro e w1 ⟨rfl, g1⟩
        have G1 := Lib.hid (show Up wr _ from Chg.trans (by repeat (first | exact Chg.refl _ _ | apply Chg.drew | apply Chg.drewN | refine Chg.alloc ?_ _)) g1)
        clear f0 f1 f2 f3 f4 f5 g1
        go_wp2
        go_ret2
        exact ⟨by rw [HB.out]; rfl, Chg.trans hu.out G1.out⟩
      | true =>
        have HK := Lib.hid hk
        clear hk
        go_wp2_with fail
        refine (callB (evValid_any _ xs[j] m hm.out) HK.out).mono ?_
        rintro e w1 ⟨rfl, g1⟩
        have G1 := Lib.hid (show Up wr _ from Chg.trans (by repeat (first | exact Chg.refl _ _ | apply Chg.drew | apply Chg.drewN | refine Chg.alloc ?_ _)) g1)
        have b0 := Chg.cell g1 (show (wr.alloc (.cells #[.int .i64 xs[j].kind, .int .i64 xs[j].place, .int .i64 xs[j].count, .int .i64 xs[j].bed, .int .i64 xs[j].car, .int .i64 xs[j].dir] 92)).cell? ⟨wr.heap.size, 0, none⟩ = some (.int .i64 xs[j].kind) from cell_new _ _ _ _) id
        have b1 := Chg.cell g1 (show (wr.alloc (.cells #[.int .i64 xs[j].kind, .int .i64 xs[j].place, .int .i64 xs[j].count, .int .i64 xs[j].bed, .int .i64 xs[j].car, .int .i64 xs[j].dir] 92)).cell? ⟨wr.heap.size, 1, none⟩ = some (.int .i64 xs[j].place) from cell_new _ _ _ _) id
        have b2 := Chg.cell g1 (show (wr.alloc (.cells #[.int .i64 xs[j].kind, .int .i64 xs[j].place, .int .i64 xs[j].count, .int .i64 xs[j].bed, .int .i64 xs[j].car, .int .i64 xs[j].dir] 92)).cell? ⟨wr.heap.size, 2, none⟩ = some (.int .i64 xs[j].count) from cell_new _ _ _ _) id
        have b3 := Chg.cell g1 (show (wr.alloc (.cells #[.int .i64 xs[j].kind, .int .i64 xs[j].place, .int .i64 xs[j].count, .int .i64 xs[j].bed, .int .i64 xs[j].car, .int .i64 xs[j].dir] 92)).cell? ⟨wr.heap.size, 3, none⟩ = some (.int .i64 xs[j].bed) from cell_new _ _ _ _) id
        have b4 := Chg.cell g1 (show (wr.alloc (.cells #[.int .i64 xs[j].kind, .int .i64 xs[j].place, .int .i64 xs[j].count, .int .i64 xs[j].bed, .int .i64 xs[j].car, .int .i64 xs[j].dir] 92)).cell? ⟨wr.heap.size, 4, none⟩ = some (.int .i64 xs[j].car) from cell_new _ _ _ _) id
        have b5 := Chg.cell g1 (show (wr.alloc (.cells #[.int .i64 xs[j].kind, .int .i64 xs[j].place, .int .i64 xs[j].count, .int .i64 xs[j].bed, .int .i64 xs[j].car, .int .i64 xs[j].dir] 92)).cell? ⟨wr.heap.size, 5, none⟩ = some (.int .i64 xs[j].dir) from cell_new _ _ _ _) id
        clear f0 f1 f2 f3 f4 f5 g1
        go_wp2_with fail
        refine (evAfter_any _ xs[j] m hm.out HK.out).mono ?_
        rintro e w2 ⟨rfl, g2⟩
        have G2 := Lib.hid (Chg.trans G1.out (Chg.trans (by repeat (first | exact Chg.refl _ _ | apply Chg.drew | apply Chg.drewN | refine Chg.alloc ?_ _)) g2))
        have HBD := Lib.hid (evAfter_bd HK.out hm.out)
        clear g2 b0 b1 b2 b3 b4 b5
        by_cases h12 : evAfter xs[j].kind xs[j].count m ≤ 12
        · have HS := Lib.hid (show stM (xs.take (j + 1)) n = some (evAfter xs[j].kind xs[j].count m) by rw [stM_succ hlt, hs.out]; exact stStep_yes HK.out h12)
          obtain ⟨q, hq⟩ : ∃ q, q = evAfter xs[j].kind xs[j].count m := ⟨_, rfl⟩
          rw [← hq] at h12 HS ⊢
          rw [← hq] at HBD
          clear hq
          go_wp2
          go_roundw
          case rel => exact ⟨j + 1, q, by omega, by go_num, rfl, HS, Lib.hid ⟨HBD.out, h12⟩, Lib.hid (Chg.trans hu.out G2.out)⟩
          case measure => first | (simp [intOf]; done) | (simp [intOf]; omega)
        · have HB := Lib.hid (stM_stop hlt hs.out (stStep_big h12))
          obtain ⟨q, hq⟩ : ∃ q, q = evAfter xs[j].kind xs[j].count m := ⟨_, rfl⟩
          rw [← hq] at h12 ⊢
          clear hq
          go_wp2
          go_ret2
          exact ⟨by rw [HB.out]; rfl, Chg.trans hu.out G2.out⟩
    · obtain rfl : j = xs.length := by omega
      have HB := Lib.hid (stM_all hs.out)
      go_wp2
      go_ret2
      exact ⟨by rw [HB.out]; rfl, hu.out⟩
end Go.Proofs.Ytplabnjdhkmmkaa
end
