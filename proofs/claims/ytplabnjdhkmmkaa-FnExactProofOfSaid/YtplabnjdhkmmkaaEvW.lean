/- The reference's test of an event. No condition. -/
import Derived.Test.YtplabnjdhkmmkaaPF12
import Derived.Deep.DeepCutAuto
set_option maxRecDepth 100000
set_option maxHeartbeats 4000000
set_option linter.unusedSimpArgs false
set_option linter.unusedVariables false
set_option maxHeartbeats 40000000
namespace Go.Proofs.Ytplabnjdhkmmkaa
open Go.ChangeShapes Go.WideShapes Go.ChangeAt Go.RowKit
def plainB (bed car dir : Int) : Bool := decide (bed = 0) && (decide (car = 0) && decide (dir = 0))
theorem plainB_true {b c d : Int} (h : plainB b c d = true) : b = 0 ∧ c = 0 ∧ d = 0 := by
  unfold plainB at h
  simpa using h
theorem plainB_false {b c d : Int} (h : plainB b c d = false) : ¬ (b = 0 ∧ c = 0 ∧ d = 0) := by
  unfold plainB at h
  simpa using h
def EvPost (k place count bed car dir n : Int) (w : World) (e : Ending) (w' : World) : Prop :=
  ∃ m : Int, e = .returned (.tuple #[.int .i64 m, .bool (decide (evP k place count bed car dir n))]) ∧ (decide (evP k place count bed car dir n) = true → m = evAfter k count n) ∧ Up w w'
theorem evPost_no {k place count bed car dir n m : Int} {w w' : World} (h : ¬ evP k place count bed car dir n) (g : Up w w') : EvPost k place count bed car dir n w (.returned (.tuple #[.int .i64 m, .bool false])) w' :=
  ⟨m, by rw [decide_eq_false h], fun e => (by rw [decide_eq_false h] at e; cases e), g⟩
theorem evPost_yes {k place count bed car dir n m : Int} {w w' : World} (h : evP k place count bed car dir n) (hm : m = evAfter k count n) (g : Up w w') : EvPost k place count bed car dir n w (.returned (.tuple #[.int .i64 m, .bool true])) w' :=
  ⟨m, by rw [decide_eq_true h], fun _ => hm, g⟩
theorem evP_p {k place count bed car dir n : Int} (h : evP k place count bed car dir n) (hn : 0 ≤ n) : 0 ≤ place ∧ place ≤ n := by
  obtain ⟨h0, h⟩ := h
  rcases h with ⟨_, h, _⟩ | ⟨_, h1, h2, _⟩ | ⟨_, _, h, _⟩ | ⟨_, h1, h2, _⟩ | ⟨_, h1, _, h2⟩ <;> omega
theorem evP_1 {place count bed car dir n : Int} : evP 1 place count bed car dir n ↔ 0 ≤ place ∧ place ≤ n - 2 ∧ (count = 1 ∨ count = -1) ∧ bed = 0 ∧ car = 0 ∧ dir = 0 := by unfold evP; simp
theorem evP_2 {place count bed car dir n : Int} : evP 2 place count bed car dir n ↔ 0 ≤ place ∧ (0 ≤ count ∧ count ≤ 4) ∧ place ≤ n - count ∧ yarnB bed car dir = true := by unfold evP; simp
theorem evP_3 {place count bed car dir n : Int} : evP 3 place count bed car dir n ↔ 0 ≤ place ∧ count = 0 ∧ place ≤ n ∧ yarnB bed car dir = true := by unfold evP; simp
theorem evP_4 {place count bed car dir n : Int} : evP 4 place count bed car dir n ↔ 0 ≤ place ∧ (1 ≤ count ∧ count ≤ 4) ∧ place ≤ n - count ∧ bed = 0 ∧ car = 0 ∧ dir = 0 := by unfold evP; simp
theorem evP_5 {place count bed car dir n : Int} : evP 5 place count bed car dir n ↔ 0 ≤ place ∧ (1 ≤ count ∧ count ≤ 4) ∧ yarnB bed car dir = true ∧ ((bed = 1 ∧ place ≤ n - count) ∨ (bed ≠ 1 ∧ count ≤ place ∧ place ≤ n)) := by unfold evP; simp
theorem l10Event_any (w : World) (b o : Nat) (k place count bed car dir n : Int) (hn : 0 ≤ n ∧ n ≤ 12)
    (f0 : w.cell? ⟨b, o, none⟩ = some (.int .i64 k)) (f1 : w.cell? ⟨b, o + 1, none⟩ = some (.int .i64 place)) (f2 : w.cell? ⟨b, o + 2, none⟩ = some (.int .i64 count)) (f3 : w.cell? ⟨b, o + 3, none⟩ = some (.int .i64 bed)) (f4 : w.cell? ⟨b, o + 4, none⟩ = some (.int .i64 car)) (f5 : w.cell? ⟨b, o + 5, none⟩ = some (.int .i64 dir)) :
    Calls Try.prog 97 #[.pointer (some ⟨b, o, none⟩), .int .i64 n] w (EvPost k place count bed car dir n w) := by
  obtain ⟨hn0, hn1⟩ := hn
  go_enter Try.func97, Try.ntmps97
  go_upto_region 1 with fail
  go_cut [6] (fun y wx => y = .bool (yarnB bed car dir) ∧ w = wx)
  case first =>
    cases h1 : bedB bed <;> cases h2 : carB car
    all_goals
      have H1 := Lib.hid h1
      have H2 := Lib.hid h2
      clear h1 h2
      go_wp2_with (first | (go_at_call 119; refine (callS (l01Bed_any _ _) H1.out).mono ?_; rintro e w' ⟨rfl, rfl⟩) | (go_at_call 91; refine (callS (l07Yarn_any _ _) H2.out).mono ?_; rintro e w' ⟨rfl, rfl⟩) | (go_at_call 89; refine (l07Dir_any _ _).mono ?_; rintro e w' ⟨rfl, rfl⟩))
      go_meet
      exact ⟨by unfold yarnB; rw [H1.out, H2.out]; rfl, rfl⟩
  case rest =>
  obtain ⟨rfl, rfl⟩ := hcut
  go_upto_region 2 with fail
  go_cut [7] (fun p wx => p = .bool (plainB bed car dir) ∧ w = wx)
  case first =>
    by_cases b0 : bed = 0
    all_goals by_cases b1 : car = 0
    all_goals
      have e0 : (bed == 0) = decide (bed = 0) := rfl
      have e1 : (car == 0) = decide (car = 0) := rfl
      have e2 : (dir == 0) = decide (dir = 0) := rfl
      simp only [b0, b1, decide_true, decide_false] at e0 e1
      go_wp2
      all_goals (go_meet; exact ⟨by simp [plainB, *], rfl⟩)
  case rest =>
  obtain ⟨rfl, rfl⟩ := hcut
  by_cases hpl : place < 0
  · go_wp2
    go_ret2
    exact evPost_no (fun h => by have := evP_p h hn0; omega) (by repeat (first | exact Chg.refl _ _ | apply Chg.drew | apply Chg.drewN | refine Chg.alloc ?_ _))
  by_cases hpn : n < place
  · go_wp2
    go_ret2
    exact evPost_no (fun h => by have := evP_p h hn0; omega) (by repeat (first | exact Chg.refl _ _ | apply Chg.drew | apply Chg.drewN | refine Chg.alloc ?_ _))
  by_cases k1 : k = 1
  · subst k1
    cases hp : plainB bed car dir
    · have HP := Lib.hid (plainB_false hp)
      clear hp
      go_wp2
      go_quiet (fail)
      go_wp2
      go_ret2
      exact evPost_no (fun h => by have := evP_1.1 h; have := HP.out; omega) (by repeat (first | exact Chg.refl _ _ | apply Chg.drew | apply Chg.drewN | refine Chg.alloc ?_ _))
    have HP := Lib.hid (plainB_true hp)
    clear hp
    have w1 : IntKind.i64.wrap (place + 1) = place + 1 := IntWalk.i64_in _ (by omega)
    rcases (show count = 1 ∨ count = -1 ∨ (count ≠ 1 ∧ count ≠ -1) by omega) with rfl | rfl | ⟨c1, c2⟩
    · skip
      by_cases hlt : place + 1 < n
      · have hd : decide (place + 1 < n) = true := decide_eq_true hlt
        go_wp2
        go_quiet (fail)
        go_wp2
        go_ret2
        exact evPost_yes (evP_1.2 (by have := HP.out; omega)) (by simp [evAfter]) (by repeat (first | exact Chg.refl _ _ | apply Chg.drew | apply Chg.drewN | refine Chg.alloc ?_ _))
      · have hd : decide (place + 1 < n) = false := decide_eq_false hlt
        go_wp2
        go_quiet (fail)
        go_wp2
        go_ret2
        exact evPost_no (fun h => by have := evP_1.1 h; omega) (by repeat (first | exact Chg.refl _ _ | apply Chg.drew | apply Chg.drewN | refine Chg.alloc ?_ _))
    · have g1 : ((-1 : Int) == 1) = false := rfl
      by_cases hlt : place + 1 < n
      · have hd : decide (place + 1 < n) = true := decide_eq_true hlt
        go_wp2
        go_quiet (fail)
        go_wp2
        go_ret2
        exact evPost_yes (evP_1.2 (by have := HP.out; omega)) (by simp [evAfter]) (by repeat (first | exact Chg.refl _ _ | apply Chg.drew | apply Chg.drewN | refine Chg.alloc ?_ _))
      · have hd : decide (place + 1 < n) = false := decide_eq_false hlt
        go_wp2
        go_quiet (fail)
        go_wp2
        go_ret2
        exact evPost_no (fun h => by have := evP_1.1 h; omega) (by repeat (first | exact Chg.refl _ _ | apply Chg.drew | apply Chg.drewN | refine Chg.alloc ?_ _))
    · have g1 : (count == 1) = false := by simpa using c1
      have g2 : (count == -1) = false := by simpa using c2
      go_wp2
      go_quiet (fail)
      go_wp2
      go_ret2
      exact evPost_no (fun h => by have := evP_1.1 h; omega) (by repeat (first | exact Chg.refl _ _ | apply Chg.drew | apply Chg.drewN | refine Chg.alloc ?_ _))
  by_cases k2 : k = 2
  · subst k2
    cases hy : yarnB bed car dir
    · have HY := Lib.hid hy
      clear hy
      go_wp2
      go_quiet (fail)
      go_wp2
      go_ret2
      exact evPost_no (fun h => by have h := (evP_2.1 h).2.2.2; rw [HY.out] at h; cases h) (by repeat (first | exact Chg.refl _ _ | apply Chg.drew | apply Chg.drewN | refine Chg.alloc ?_ _))
    have HY := Lib.hid hy
    clear hy
    by_cases hc : 0 ≤ count ∧ count ≤ 4
    rotate_left
    · have HC := Lib.hid (show inB count 0 4 = false from decide_eq_false hc)
      have HN := Lib.hid hc
      clear hc
      go_wp2
      go_quiet ((first | (go_at_call 64; exact quiet_left (callS (l00In_any _ _ _ _) HC.out))))
      go_wp2
      go_ret2
      exact evPost_no (fun h => by have := (evP_2.1 h).2.1; have := HN.out; omega) (by repeat (first | exact Chg.refl _ _ | apply Chg.drew | apply Chg.drewN | refine Chg.alloc ?_ _))
    have HC := Lib.hid (inB_yes hc)
    obtain ⟨hc0, hc1⟩ := hc
    have wc : IntKind.i64.wrap (n - count) = n - count := IntWalk.i64_in _ (by omega)
    have wc1 : IntKind.i64.wrap (n - count + 1) = n - count + 1 := IntWalk.i64_in _ (by omega)
    have ws : IntKind.i64.wrap (place + count) = place + count := IntWalk.i64_in _ (by omega)
    by_cases hlt : place + count ≤ n
    · have hd : decide (place + count ≤ n) = true := decide_eq_true hlt
      go_wp2
      go_quiet ((first | (go_at_call 64; exact quiet_left (callS (l00In_any _ _ _ _) HC.out))))
      go_wp2
      go_ret2
      exact evPost_yes (evP_2.2 ⟨by omega, by omega, by omega, HY.out⟩) (by simp [evAfter]) (by repeat (first | exact Chg.refl _ _ | apply Chg.drew | apply Chg.drewN | refine Chg.alloc ?_ _))
    · have hd : decide (place + count ≤ n) = false := decide_eq_false hlt
      go_wp2
      go_quiet ((first | (go_at_call 64; exact quiet_left (callS (l00In_any _ _ _ _) HC.out))))
      go_wp2
      go_ret2
      exact evPost_no (fun h => by have := evP_2.1 h; omega) (by repeat (first | exact Chg.refl _ _ | apply Chg.drew | apply Chg.drewN | refine Chg.alloc ?_ _))
  by_cases k3 : k = 3
  · subst k3
    have wn : IntKind.i64.wrap (n + 1) = n + 1 := IntWalk.i64_in _ (by omega)
    cases hy : yarnB bed car dir
    · have HY := Lib.hid hy
      clear hy
      go_wp2
      go_quiet (fail)
      go_wp2
      go_ret2
      exact evPost_no (fun h => by have h := (evP_3.1 h).2.2.2; rw [HY.out] at h; cases h) (by repeat (first | exact Chg.refl _ _ | apply Chg.drew | apply Chg.drewN | refine Chg.alloc ?_ _))
    have HY := Lib.hid hy
    clear hy
    by_cases hc : count = 0
    · subst hc
      go_wp2
      go_quiet (fail)
      go_wp2
      go_ret2
      exact evPost_yes (evP_3.2 ⟨by omega, rfl, by omega, HY.out⟩) (by simp [evAfter]) (by repeat (first | exact Chg.refl _ _ | apply Chg.drew | apply Chg.drewN | refine Chg.alloc ?_ _))
    · have g1 : (count == 0) = false := by simpa using hc
      go_wp2
      go_quiet (fail)
      go_wp2
      go_ret2
      exact evPost_no (fun h => by have := evP_3.1 h; omega) (by repeat (first | exact Chg.refl _ _ | apply Chg.drew | apply Chg.drewN | refine Chg.alloc ?_ _))
  by_cases k4 : k = 4
  · subst k4
    cases hp : plainB bed car dir
    · have HP := Lib.hid (plainB_false hp)
      clear hp
      go_wp2
      go_quiet (fail)
      go_wp2
      go_ret2
      exact evPost_no (fun h => by have := evP_4.1 h; have := HP.out; omega) (by repeat (first | exact Chg.refl _ _ | apply Chg.drew | apply Chg.drewN | refine Chg.alloc ?_ _))
    have HP := Lib.hid (plainB_true hp)
    clear hp
    by_cases hc : 1 ≤ count ∧ count ≤ 4
    rotate_left
    · have HC := Lib.hid (show inB count 1 4 = false from decide_eq_false hc)
      have HN := Lib.hid hc
      clear hc
      go_wp2
      go_quiet ((first | (go_at_call 64; exact quiet_left (callS (l00In_any _ _ _ _) HC.out))))
      go_wp2
      go_ret2
      exact evPost_no (fun h => by have := (evP_4.1 h).2.1; have := HN.out; omega) (by repeat (first | exact Chg.refl _ _ | apply Chg.drew | apply Chg.drewN | refine Chg.alloc ?_ _))
    have HC := Lib.hid (inB_yes hc)
    obtain ⟨hc0, hc1⟩ := hc
    have wc : IntKind.i64.wrap (n - count) = n - count := IntWalk.i64_in _ (by omega)
    have ws : IntKind.i64.wrap (place + count) = place + count := IntWalk.i64_in _ (by omega)
    by_cases hlt : place + count ≤ n
    · have hd : decide (place + count ≤ n) = true := decide_eq_true hlt
      go_wp2
      go_quiet ((first | (go_at_call 64; exact quiet_left (callS (l00In_any _ _ _ _) HC.out))))
      go_wp2
      go_ret2
      exact evPost_yes (evP_4.2 (by have := HP.out; omega)) (by simp [evAfter]) (by repeat (first | exact Chg.refl _ _ | apply Chg.drew | apply Chg.drewN | refine Chg.alloc ?_ _))
    · have hd : decide (place + count ≤ n) = false := decide_eq_false hlt
      go_wp2
      go_quiet ((first | (go_at_call 64; exact quiet_left (callS (l00In_any _ _ _ _) HC.out))))
      go_wp2
      go_ret2
      exact evPost_no (fun h => by have := evP_4.1 h; omega) (by repeat (first | exact Chg.refl _ _ | apply Chg.drew | apply Chg.drewN | refine Chg.alloc ?_ _))
  by_cases k5 : k = 5
  · subst k5
    have wn : IntKind.i64.wrap (n + 1) = n + 1 := IntWalk.i64_in _ (by omega)
    cases hy : yarnB bed car dir
    · have HY := Lib.hid hy
      clear hy
      by_cases hb : bed = 1
      · have g1 : (bed == 1) = true := by simp [hb]
        have HB1 := Lib.hid hb
        clear hb
        go_wp2
        go_quiet (fail)
        go_wp2
        go_ret2
        exact evPost_no (fun h => by have h := (evP_5.1 h).2.2.1; rw [HY.out] at h; cases h) (by repeat (first | exact Chg.refl _ _ | apply Chg.drew | apply Chg.drewN | refine Chg.alloc ?_ _))
      · have g1 : (bed == 1) = false := by simpa using hb
        have HB1 := Lib.hid hb
        go_wp2
        go_quiet (fail)
        go_wp2
        go_ret2
        exact evPost_no (fun h => by have h := (evP_5.1 h).2.2.1; rw [HY.out] at h; cases h) (by repeat (first | exact Chg.refl _ _ | apply Chg.drew | apply Chg.drewN | refine Chg.alloc ?_ _))
    have HY := Lib.hid hy
    clear hy
    by_cases hc : 1 ≤ count ∧ count ≤ 4
    rotate_left
    · have HC := Lib.hid (show inB count 1 4 = false from decide_eq_false hc)
      have HN := Lib.hid hc
      clear hc
      by_cases hb : bed = 1
      · have g1 : (bed == 1) = true := by simp [hb]
        have HB1 := Lib.hid hb
        clear hb
        go_wp2_with (first | (go_at_call 64; refine (callS (l00In_any _ _ _ _) HC.out).mono ?_; rintro e w' ⟨rfl, rfl⟩))
        go_quiet (fail)
        go_wp2
        go_ret2
        exact evPost_no (fun h => by have := (evP_5.1 h).2.1; have := HN.out; omega) (by repeat (first | exact Chg.refl _ _ | apply Chg.drew | apply Chg.drewN | refine Chg.alloc ?_ _))
      · have g1 : (bed == 1) = false := by simpa using hb
        have HB1 := Lib.hid hb
        go_wp2_with (first | (go_at_call 64; refine (callS (l00In_any _ _ _ _) HC.out).mono ?_; rintro e w' ⟨rfl, rfl⟩))
        go_quiet (fail)
        go_wp2
        go_ret2
        exact evPost_no (fun h => by have := (evP_5.1 h).2.1; have := HN.out; omega) (by repeat (first | exact Chg.refl _ _ | apply Chg.drew | apply Chg.drewN | refine Chg.alloc ?_ _))
    have HC := Lib.hid (inB_yes hc)
    obtain ⟨hc0, hc1⟩ := hc
    have ws : IntKind.i64.wrap (place + count) = place + count := IntWalk.i64_in _ (by omega)
    by_cases hb : bed = 1
    · have g1 : (bed == 1) = true := by simp [hb]
      have HB1 := Lib.hid hb
      clear hb
      by_cases hlt : place + count ≤ n
      · have hd : decide (place + count ≤ n) = true := decide_eq_true hlt
        go_wp2_with (first | (go_at_call 64; refine (callS (l00In_any _ _ _ _) HC.out).mono ?_; rintro e w' ⟨rfl, rfl⟩))
        go_quiet (fail)
        go_wp2
        go_ret2
        exact evPost_yes (evP_5.2 ⟨by omega, by omega, HY.out, .inl ⟨HB1.out, by omega⟩⟩) (by simp [evAfter]) (by repeat (first | exact Chg.refl _ _ | apply Chg.drew | apply Chg.drewN | refine Chg.alloc ?_ _))
      · have hd : decide (place + count ≤ n) = false := decide_eq_false hlt
        go_wp2_with (first | (go_at_call 64; refine (callS (l00In_any _ _ _ _) HC.out).mono ?_; rintro e w' ⟨rfl, rfl⟩))
        go_quiet (fail)
        go_wp2
        go_ret2
        exact evPost_no (fun h => by have := (evP_5.1 h).2.2.2; have := HB1.out; omega) (by repeat (first | exact Chg.refl _ _ | apply Chg.drew | apply Chg.drewN | refine Chg.alloc ?_ _))
    · have g1 : (bed == 1) = false := by simpa using hb
      have HB1 := Lib.hid hb
      clear hb
      by_cases hlt : count ≤ place
      · have hd : decide (count ≤ place) = true := decide_eq_true hlt
        go_wp2_with (first | (go_at_call 64; refine (callS (l00In_any _ _ _ _) HC.out).mono ?_; rintro e w' ⟨rfl, rfl⟩))
        go_quiet (fail)
        go_wp2
        go_ret2
        exact evPost_yes (evP_5.2 ⟨by omega, by omega, HY.out, .inr ⟨HB1.out, by omega⟩⟩) (by simp [evAfter]) (by repeat (first | exact Chg.refl _ _ | apply Chg.drew | apply Chg.drewN | refine Chg.alloc ?_ _))
      · have hd : decide (count ≤ place) = false := decide_eq_false hlt
        go_wp2_with (first | (go_at_call 64; refine (callS (l00In_any _ _ _ _) HC.out).mono ?_; rintro e w' ⟨rfl, rfl⟩))
        go_quiet (fail)
        go_wp2
        go_ret2
        exact evPost_no (fun h => by have := (evP_5.1 h).2.2.2; have := HB1.out; omega) (by repeat (first | exact Chg.refl _ _ | apply Chg.drew | apply Chg.drewN | refine Chg.alloc ?_ _))
  have e1 : (k == 1) = false := by simpa using k1
  have e2 : (k == 2) = false := by simpa using k2
  have e3 : (k == 3) = false := by simpa using k3
  have e4 : (k == 4) = false := by simpa using k4
  have e5 : (k == 5) = false := by simpa using k5
  have HB := Lib.hid (show ¬ evP k place count bed car dir n by unfold evP; omega)
  clear k1 k2 k3 k4 k5
  go_wp2
  go_ret2
  exact evPost_no HB.out (by repeat (first | exact Chg.refl _ _ | apply Chg.drew | apply Chg.drewN | refine Chg.alloc ?_ _))
end Go.Proofs.Ytplabnjdhkmmkaa
