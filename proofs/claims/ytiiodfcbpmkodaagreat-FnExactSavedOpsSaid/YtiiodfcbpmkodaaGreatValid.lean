/- Needles and operations that are valid: the program's tests and the reference's. No condition. -/
import Derived.Test.YtiiodfcbpmkodaaGreatSmall
import Derived.Test.YtiiodfcbpmkodaaGreatOps
set_option linter.unusedSimpArgs false
set_option linter.unusedVariables false
set_option maxHeartbeats 8000000
namespace Go.Proofs.YtiiodfcbpmkodaaGreat
open Go.ChangeShapes Go.WideShapes Go.ChangeAt Go.RowKit
def bedB (b : Int) : Bool := decide (b = 1 ∨ b = 2)
def placeB (a : Int) : Bool := decide (0 ≤ a ∧ a ≤ 23)
def needleB (b a : Int) : Bool := bedB b && placeB a
def dirB (d : Int) : Bool := decide (d = 1 ∨ d = -1)
def carB (c : Int) : Bool := decide (1 ≤ c ∧ c ≤ 4)
def rackB (r : Int) : Bool := decide (-3 ≤ r ∧ r ≤ 3)
theorem isBed_any (n : Int) (w : World) : Calls Tryz.prog 87 #[.int .i64 n] w fun e w' => e = .returned (.bool (bedB n)) ∧ w = w' := by
  by_cases h1 : n = 1
  · subst h1
    go_enter Tryz.func87, Tryz.ntmps87
    go_wp2
    go_ret
    exact ⟨rfl, rfl⟩
  · have e1 : (n == 1) = false := by simpa using h1
    by_cases h2 : n = 2
    · subst h2
      go_enter Tryz.func87, Tryz.ntmps87
      go_wp2
      go_ret
      exact ⟨rfl, rfl⟩
    · have e2 : (n == 2) = false := by simpa using h2
      rw [show bedB n = false from decide_eq_false (by omega)]
      clear h1 h2
      go_enter Tryz.func87, Tryz.ntmps87
      go_wp2
      go_ret
      exact ⟨rfl, rfl⟩
theorem l01Bed_any (n : Int) (w : World) : Calls Tryz.prog 78 #[.int .i64 n] w fun e w' => e = .returned (.bool (bedB n)) ∧ w = w' := by
  by_cases h : n = 1 ∨ n = 2
  · rw [show bedB n = true from decide_eq_true h]
    have h' : 1 ≤ n ∧ n ≤ 2 := by omega
    clear h
    go_enter Tryz.func78, Tryz.ntmps78
    go_wp2_with (first | (go_at_call 43; refine (l00In_yes _ _ _ _ ?_).mono ?_; (omega); rintro e w' ⟨rfl, rfl⟩))
    go_ret
    exact ⟨rfl, rfl⟩
  · rw [show bedB n = false from decide_eq_false h]
    have h' : n < 1 ∨ 2 < n := by omega
    clear h
    go_enter Tryz.func78, Tryz.ntmps78
    go_wp2_with (first | (go_at_call 43; refine (l00In_no _ _ _ _ ?_).mono ?_; (omega); rintro e w' ⟨rfl, rfl⟩))
    go_ret
    exact ⟨rfl, rfl⟩
theorem ValidNeedle_any (w : World) (b a : Int) : Calls Tryz.prog 74 #[.agg #[.int .i64 b, .int .i64 a]] w fun e w' => e = .returned (.bool (needleB b a)) ∧ ∃ o, w' = w.alloc o := by
  cases h1 : bedB b
  · skip
    rw [show needleB b a = false by simp [needleB, h1]]
    go_enter Tryz.func74, Tryz.ntmps74
    go_wp2_with (first | (go_at_call 87; refine (isBed_any _ _).mono ?_; rintro e w' ⟨rfl, rfl⟩; rw [h1]))
    go_ret
    exact ⟨rfl, _, rfl⟩
  · cases h2 : placeB a
    · have h3 : a < 0 ∨ 23 < a := by have := of_decide_eq_false h2; omega
      rw [show needleB b a = false by simp [needleB, h1, h2]]
      go_enter Tryz.func74, Tryz.ntmps74
      go_wp2_with (first | (go_at_call 87; refine (isBed_any _ _).mono ?_; rintro e w' ⟨rfl, rfl⟩; rw [h1]) | (go_at_call 57; refine (within_no _ _ _ _ ?_).mono ?_; (omega); rintro e w' ⟨rfl, rfl⟩))
      go_ret
      exact ⟨rfl, _, rfl⟩
    · have h3 := of_decide_eq_true h2
      rw [show needleB b a = true by simp [needleB, h1, h2]]
      go_enter Tryz.func74, Tryz.ntmps74
      go_wp2_with (first | (go_at_call 87; refine (isBed_any _ _).mono ?_; rintro e w' ⟨rfl, rfl⟩; rw [h1]) | (go_at_call 57; refine (within_yes _ _ _ _ ?_).mono ?_; (omega); rintro e w' ⟨rfl, rfl⟩))
      go_ret
      exact ⟨rfl, _, rfl⟩
theorem l01Needle_any (w : World) (b a : Int) : Calls Tryz.prog 62 #[.agg #[.int .i64 b, .int .i64 a]] w fun e w' => e = .returned (.bool (needleB b a)) ∧ ∃ o, w' = w.alloc o := by
  cases h1 : bedB b
  · skip
    rw [show needleB b a = false by simp [needleB, h1]]
    go_enter Tryz.func62, Tryz.ntmps62
    go_wp2_with (first | (go_at_call 78; refine (l01Bed_any _ _).mono ?_; rintro e w' ⟨rfl, rfl⟩; rw [h1]))
    go_ret
    exact ⟨rfl, _, rfl⟩
  · cases h2 : placeB a
    · have h3 : a < 0 ∨ 23 < a := by have := of_decide_eq_false h2; omega
      rw [show needleB b a = false by simp [needleB, h1, h2]]
      go_enter Tryz.func62, Tryz.ntmps62
      go_wp2_with (first | (go_at_call 78; refine (l01Bed_any _ _).mono ?_; rintro e w' ⟨rfl, rfl⟩; rw [h1]) | (go_at_call 43; refine (l00In_no _ _ _ _ ?_).mono ?_; (omega); rintro e w' ⟨rfl, rfl⟩))
      go_ret
      exact ⟨rfl, _, rfl⟩
    · have h3 := of_decide_eq_true h2
      rw [show needleB b a = true by simp [needleB, h1, h2]]
      go_enter Tryz.func62, Tryz.ntmps62
      go_wp2_with (first | (go_at_call 78; refine (l01Bed_any _ _).mono ?_; rintro e w' ⟨rfl, rfl⟩; rw [h1]) | (go_at_call 43; refine (l00In_yes _ _ _ _ ?_).mono ?_; (omega); rintro e w' ⟨rfl, rfl⟩))
      go_ret
      exact ⟨rfl, _, rfl⟩
theorem isDirection_any (n : Int) (w : World) : Calls Tryz.prog 73 #[.int .i64 n] w fun e w' => e = .returned (.bool (dirB n)) ∧ w = w' := by
  cases h : dirB n
  · have h1 := of_decide_eq_false h
    exact isDirection_no n w (by omega)
  · have h1 := of_decide_eq_true h
    exact isDirection_yes n w (by omega)
theorem l07Dir_any (n : Int) (w : World) : Calls Tryz.prog 61 #[.int .i64 n] w fun e w' => e = .returned (.bool (dirB n)) ∧ w = w' := by
  cases h : dirB n
  · have h1 := of_decide_eq_false h
    exact l07Dir_no n w (by omega)
  · have h1 := of_decide_eq_true h
    exact l07Dir_yes n w (by omega)
theorem isCarrier_any (n : Int) (w : World) : Calls Tryz.prog 75 #[.int .i64 n] w fun e w' => e = .returned (.bool (carB n)) ∧ w = w' := by
  cases h : carB n
  · have h1 := of_decide_eq_false h
    exact isCarrier_no n w (by omega)
  · have h1 := of_decide_eq_true h
    exact isCarrier_yes n w (by omega)
theorem l07Yarn_any (n : Int) (w : World) : Calls Tryz.prog 63 #[.int .i64 n] w fun e w' => e = .returned (.bool (carB n)) ∧ w = w' := by
  cases h : carB n
  · have h1 := of_decide_eq_false h
    exact l07Yarn_no n w (by omega)
  · have h1 := of_decide_eq_true h
    exact l07Yarn_yes n w (by omega)
theorem isRack_any (n : Int) (w : World) : Calls Tryz.prog 77 #[.int .i64 n] w fun e w' => e = .returned (.bool (rackB n)) ∧ w = w' := by
  cases h : rackB n
  · have h1 := of_decide_eq_false h
    exact isRack_no n w (by omega)
  · have h1 := of_decide_eq_true h
    exact isRack_yes n w (by omega)
/-- what operations are valid -/
def validB (x : OpM) : Bool :=
  if x.kind = 1 ∨ x.kind = 2 ∨ x.kind = 3 then dirB x.dir && needleB x.fb x.fa && carB x.car && x.tb == 0 && x.ta == 0 && x.rack == 0
  else if x.kind = 4 then needleB x.fb x.fa && needleB x.tb x.ta && x.fb != x.tb && x.dir == 0 && x.car == 0 && x.rack == 0
  else if x.kind = 5 then needleB x.fb x.fa && needleB x.tb x.ta && x.fb != x.tb && dirB x.dir && carB x.car && x.rack == 0
  else if x.kind = 6 then needleB x.fb x.fa && x.dir == 0 && x.tb == 0 && x.ta == 0 && x.car == 0 && x.rack == 0
  else if x.kind = 7 then rackB x.rack && x.dir == 0 && x.fb == 0 && x.fa == 0 && x.tb == 0 && x.ta == 0 && x.car == 0
  else if x.kind = 8 then dirB x.dir && carB x.car && x.fb == 0 && x.fa == 0 && x.tb == 0 && x.ta == 0 && x.rack == 0
  else if x.kind = 9 then carB x.car && x.dir == 0 && x.fb == 0 && x.fa == 0 && x.tb == 0 && x.ta == 0 && x.rack == 0
  else false
theorem isPair_no (w : World) (a b c d : Int) (h1 : needleB a b = false) : Calls Tryz.prog 76 #[.agg #[.int .i64 a, .int .i64 b], .agg #[.int .i64 c, .int .i64 d]] w fun e w' => e = .returned (.bool false) ∧ ∃ o1 o2 o3, w' = ((w.alloc o1).alloc o2).alloc o3 := by
  go_enter Tryz.func76, Tryz.ntmps76
  go_wp2_with (first | (go_at_call 74; refine (ValidNeedle_any _ _ _).mono ?_; rintro e w' ⟨rfl, o, rfl⟩; first | rw [h1] | rw [h2] | rw [h3] | rw [h4]))
  go_ret
  exact ⟨rfl, _, _, _, rfl⟩
theorem isPair_yes (w : World) (a b c d : Int) (h1 : needleB a b = true) : Calls Tryz.prog 76 #[.agg #[.int .i64 a, .int .i64 b], .agg #[.int .i64 c, .int .i64 d]] w fun e w' => e = .returned (.bool (needleB c d && a != c)) ∧ ∃ o1 o2 o3 o4, w' = (((w.alloc o1).alloc o2).alloc o3).alloc o4 := by
  cases h2 : needleB c d
  all_goals
    go_enter Tryz.func76, Tryz.ntmps76
    go_wp2_with (first | (go_at_call 74; refine (ValidNeedle_any _ _ _).mono ?_; rintro e w' ⟨rfl, o, rfl⟩; first | rw [h1] | rw [h2]))
    go_ret
    exact ⟨by simp, _, _, _, _, rfl⟩
theorem ValidOp_1 (w : World) (d fb fa tb ta c r : Int) : Calls Tryz.prog 60 #[(OpM.mk 1 d fb fa tb ta c r).val] w fun e w' => e = .returned (.bool (validB (OpM.mk 1 d fb fa tb ta c r))) ∧ Up w w' := by
  cases h1 : dirB d
  · go_enter Tryz.func60, Tryz.ntmps60
    go_wp2_with (first | (go_at_call 73; refine (isDirection_any _ _).mono ?_; rintro e w' ⟨rfl, rfl⟩; first | rw [h1] | rw [h2] | rw [h3] | rw [h4]) | (go_at_call 74; refine (ValidNeedle_any _ _ _).mono ?_; rintro e w' ⟨rfl, o, rfl⟩; first | rw [h1] | rw [h2] | rw [h3] | rw [h4]) | (go_at_call 75; refine (isCarrier_any _ _).mono ?_; rintro e w' ⟨rfl, rfl⟩; first | rw [h1] | rw [h2] | rw [h3] | rw [h4]))
    all_goals (go_ret; exact ⟨by simp_all [validB], by repeat (first | exact Chg.refl _ _ | refine Chg.alloc ?_ _)⟩)
  · skip
    cases h2 : needleB fb fa
    · go_enter Tryz.func60, Tryz.ntmps60
      go_wp2_with (first | (go_at_call 73; refine (isDirection_any _ _).mono ?_; rintro e w' ⟨rfl, rfl⟩; first | rw [h1] | rw [h2] | rw [h3] | rw [h4]) | (go_at_call 74; refine (ValidNeedle_any _ _ _).mono ?_; rintro e w' ⟨rfl, o, rfl⟩; first | rw [h1] | rw [h2] | rw [h3] | rw [h4]) | (go_at_call 75; refine (isCarrier_any _ _).mono ?_; rintro e w' ⟨rfl, rfl⟩; first | rw [h1] | rw [h2] | rw [h3] | rw [h4]))
      all_goals (go_ret; exact ⟨by simp_all [validB], by repeat (first | exact Chg.refl _ _ | refine Chg.alloc ?_ _)⟩)
    · skip
      cases h3 : carB c
      · go_enter Tryz.func60, Tryz.ntmps60
        go_wp2_with (first | (go_at_call 73; refine (isDirection_any _ _).mono ?_; rintro e w' ⟨rfl, rfl⟩; first | rw [h1] | rw [h2] | rw [h3] | rw [h4]) | (go_at_call 74; refine (ValidNeedle_any _ _ _).mono ?_; rintro e w' ⟨rfl, o, rfl⟩; first | rw [h1] | rw [h2] | rw [h3] | rw [h4]) | (go_at_call 75; refine (isCarrier_any _ _).mono ?_; rintro e w' ⟨rfl, rfl⟩; first | rw [h1] | rw [h2] | rw [h3] | rw [h4]))
        all_goals (go_ret; exact ⟨by simp_all [validB], by repeat (first | exact Chg.refl _ _ | refine Chg.alloc ?_ _)⟩)
      · go_enter Tryz.func60, Tryz.ntmps60
        go_wp2_with (first | (go_at_call 73; refine (isDirection_any _ _).mono ?_; rintro e w' ⟨rfl, rfl⟩; first | rw [h1] | rw [h2] | rw [h3] | rw [h4]) | (go_at_call 74; refine (ValidNeedle_any _ _ _).mono ?_; rintro e w' ⟨rfl, o, rfl⟩; first | rw [h1] | rw [h2] | rw [h3] | rw [h4]) | (go_at_call 75; refine (isCarrier_any _ _).mono ?_; rintro e w' ⟨rfl, rfl⟩; first | rw [h1] | rw [h2] | rw [h3] | rw [h4]))
        all_goals (go_ret; exact ⟨by simp_all [validB], by repeat (first | exact Chg.refl _ _ | refine Chg.alloc ?_ _)⟩)
theorem ValidOp_2 (w : World) (d fb fa tb ta c r : Int) : Calls Tryz.prog 60 #[(OpM.mk 2 d fb fa tb ta c r).val] w fun e w' => e = .returned (.bool (validB (OpM.mk 2 d fb fa tb ta c r))) ∧ Up w w' := by
  cases h1 : dirB d
  · go_enter Tryz.func60, Tryz.ntmps60
    go_wp2_with (first | (go_at_call 73; refine (isDirection_any _ _).mono ?_; rintro e w' ⟨rfl, rfl⟩; first | rw [h1] | rw [h2] | rw [h3] | rw [h4]) | (go_at_call 74; refine (ValidNeedle_any _ _ _).mono ?_; rintro e w' ⟨rfl, o, rfl⟩; first | rw [h1] | rw [h2] | rw [h3] | rw [h4]) | (go_at_call 75; refine (isCarrier_any _ _).mono ?_; rintro e w' ⟨rfl, rfl⟩; first | rw [h1] | rw [h2] | rw [h3] | rw [h4]))
    all_goals (go_ret; exact ⟨by simp_all [validB], by repeat (first | exact Chg.refl _ _ | refine Chg.alloc ?_ _)⟩)
  · skip
    cases h2 : needleB fb fa
    · go_enter Tryz.func60, Tryz.ntmps60
      go_wp2_with (first | (go_at_call 73; refine (isDirection_any _ _).mono ?_; rintro e w' ⟨rfl, rfl⟩; first | rw [h1] | rw [h2] | rw [h3] | rw [h4]) | (go_at_call 74; refine (ValidNeedle_any _ _ _).mono ?_; rintro e w' ⟨rfl, o, rfl⟩; first | rw [h1] | rw [h2] | rw [h3] | rw [h4]) | (go_at_call 75; refine (isCarrier_any _ _).mono ?_; rintro e w' ⟨rfl, rfl⟩; first | rw [h1] | rw [h2] | rw [h3] | rw [h4]))
      all_goals (go_ret; exact ⟨by simp_all [validB], by repeat (first | exact Chg.refl _ _ | refine Chg.alloc ?_ _)⟩)
    · skip
      cases h3 : carB c
      · go_enter Tryz.func60, Tryz.ntmps60
        go_wp2_with (first | (go_at_call 73; refine (isDirection_any _ _).mono ?_; rintro e w' ⟨rfl, rfl⟩; first | rw [h1] | rw [h2] | rw [h3] | rw [h4]) | (go_at_call 74; refine (ValidNeedle_any _ _ _).mono ?_; rintro e w' ⟨rfl, o, rfl⟩; first | rw [h1] | rw [h2] | rw [h3] | rw [h4]) | (go_at_call 75; refine (isCarrier_any _ _).mono ?_; rintro e w' ⟨rfl, rfl⟩; first | rw [h1] | rw [h2] | rw [h3] | rw [h4]))
        all_goals (go_ret; exact ⟨by simp_all [validB], by repeat (first | exact Chg.refl _ _ | refine Chg.alloc ?_ _)⟩)
      · go_enter Tryz.func60, Tryz.ntmps60
        go_wp2_with (first | (go_at_call 73; refine (isDirection_any _ _).mono ?_; rintro e w' ⟨rfl, rfl⟩; first | rw [h1] | rw [h2] | rw [h3] | rw [h4]) | (go_at_call 74; refine (ValidNeedle_any _ _ _).mono ?_; rintro e w' ⟨rfl, o, rfl⟩; first | rw [h1] | rw [h2] | rw [h3] | rw [h4]) | (go_at_call 75; refine (isCarrier_any _ _).mono ?_; rintro e w' ⟨rfl, rfl⟩; first | rw [h1] | rw [h2] | rw [h3] | rw [h4]))
        all_goals (go_ret; exact ⟨by simp_all [validB], by repeat (first | exact Chg.refl _ _ | refine Chg.alloc ?_ _)⟩)
theorem ValidOp_3 (w : World) (d fb fa tb ta c r : Int) : Calls Tryz.prog 60 #[(OpM.mk 3 d fb fa tb ta c r).val] w fun e w' => e = .returned (.bool (validB (OpM.mk 3 d fb fa tb ta c r))) ∧ Up w w' := by
  cases h1 : dirB d
  · go_enter Tryz.func60, Tryz.ntmps60
    go_wp2_with (first | (go_at_call 73; refine (isDirection_any _ _).mono ?_; rintro e w' ⟨rfl, rfl⟩; first | rw [h1] | rw [h2] | rw [h3] | rw [h4]) | (go_at_call 74; refine (ValidNeedle_any _ _ _).mono ?_; rintro e w' ⟨rfl, o, rfl⟩; first | rw [h1] | rw [h2] | rw [h3] | rw [h4]) | (go_at_call 75; refine (isCarrier_any _ _).mono ?_; rintro e w' ⟨rfl, rfl⟩; first | rw [h1] | rw [h2] | rw [h3] | rw [h4]))
    all_goals (go_ret; exact ⟨by simp_all [validB], by repeat (first | exact Chg.refl _ _ | refine Chg.alloc ?_ _)⟩)
  · skip
    cases h2 : needleB fb fa
    · go_enter Tryz.func60, Tryz.ntmps60
      go_wp2_with (first | (go_at_call 73; refine (isDirection_any _ _).mono ?_; rintro e w' ⟨rfl, rfl⟩; first | rw [h1] | rw [h2] | rw [h3] | rw [h4]) | (go_at_call 74; refine (ValidNeedle_any _ _ _).mono ?_; rintro e w' ⟨rfl, o, rfl⟩; first | rw [h1] | rw [h2] | rw [h3] | rw [h4]) | (go_at_call 75; refine (isCarrier_any _ _).mono ?_; rintro e w' ⟨rfl, rfl⟩; first | rw [h1] | rw [h2] | rw [h3] | rw [h4]))
      all_goals (go_ret; exact ⟨by simp_all [validB], by repeat (first | exact Chg.refl _ _ | refine Chg.alloc ?_ _)⟩)
    · skip
      cases h3 : carB c
      · go_enter Tryz.func60, Tryz.ntmps60
        go_wp2_with (first | (go_at_call 73; refine (isDirection_any _ _).mono ?_; rintro e w' ⟨rfl, rfl⟩; first | rw [h1] | rw [h2] | rw [h3] | rw [h4]) | (go_at_call 74; refine (ValidNeedle_any _ _ _).mono ?_; rintro e w' ⟨rfl, o, rfl⟩; first | rw [h1] | rw [h2] | rw [h3] | rw [h4]) | (go_at_call 75; refine (isCarrier_any _ _).mono ?_; rintro e w' ⟨rfl, rfl⟩; first | rw [h1] | rw [h2] | rw [h3] | rw [h4]))
        all_goals (go_ret; exact ⟨by simp_all [validB], by repeat (first | exact Chg.refl _ _ | refine Chg.alloc ?_ _)⟩)
      · go_enter Tryz.func60, Tryz.ntmps60
        go_wp2_with (first | (go_at_call 73; refine (isDirection_any _ _).mono ?_; rintro e w' ⟨rfl, rfl⟩; first | rw [h1] | rw [h2] | rw [h3] | rw [h4]) | (go_at_call 74; refine (ValidNeedle_any _ _ _).mono ?_; rintro e w' ⟨rfl, o, rfl⟩; first | rw [h1] | rw [h2] | rw [h3] | rw [h4]) | (go_at_call 75; refine (isCarrier_any _ _).mono ?_; rintro e w' ⟨rfl, rfl⟩; first | rw [h1] | rw [h2] | rw [h3] | rw [h4]))
        all_goals (go_ret; exact ⟨by simp_all [validB], by repeat (first | exact Chg.refl _ _ | refine Chg.alloc ?_ _)⟩)
theorem ValidOp_4 (w : World) (d fb fa tb ta c r : Int) : Calls Tryz.prog 60 #[(OpM.mk 4 d fb fa tb ta c r).val] w fun e w' => e = .returned (.bool (validB (OpM.mk 4 d fb fa tb ta c r))) ∧ Up w w' := by
  cases h1 : needleB fb fa
  · go_enter Tryz.func60, Tryz.ntmps60
    go_wp2_with (first | (go_at_call 76; refine (isPair_no _ _ _ _ _ ?_).mono ?_; (exact h1); rintro e w' ⟨rfl, o1, o2, o3, rfl⟩) | (go_at_call 76; refine (isPair_yes _ _ _ _ _ ?_).mono ?_; (exact h1); rintro e w' ⟨rfl, o1, o2, o3, o4, rfl⟩; rw [h2]))
    all_goals (go_ret; exact ⟨by simp_all [validB], by repeat (first | exact Chg.refl _ _ | refine Chg.alloc ?_ _)⟩)
  · skip
    cases h2 : (needleB tb ta && fb != tb)
    · go_enter Tryz.func60, Tryz.ntmps60
      go_wp2_with (first | (go_at_call 76; refine (isPair_no _ _ _ _ _ ?_).mono ?_; (exact h1); rintro e w' ⟨rfl, o1, o2, o3, rfl⟩) | (go_at_call 76; refine (isPair_yes _ _ _ _ _ ?_).mono ?_; (exact h1); rintro e w' ⟨rfl, o1, o2, o3, o4, rfl⟩; rw [h2]))
      all_goals (go_ret; exact ⟨by simp_all [validB], by repeat (first | exact Chg.refl _ _ | refine Chg.alloc ?_ _)⟩)
    · go_enter Tryz.func60, Tryz.ntmps60
      go_wp2_with (first | (go_at_call 76; refine (isPair_no _ _ _ _ _ ?_).mono ?_; (exact h1); rintro e w' ⟨rfl, o1, o2, o3, rfl⟩) | (go_at_call 76; refine (isPair_yes _ _ _ _ _ ?_).mono ?_; (exact h1); rintro e w' ⟨rfl, o1, o2, o3, o4, rfl⟩; rw [h2]))
      all_goals (go_ret; exact ⟨by simp_all [validB], by repeat (first | exact Chg.refl _ _ | refine Chg.alloc ?_ _)⟩)
theorem ValidOp_5 (w : World) (d fb fa tb ta c r : Int) : Calls Tryz.prog 60 #[(OpM.mk 5 d fb fa tb ta c r).val] w fun e w' => e = .returned (.bool (validB (OpM.mk 5 d fb fa tb ta c r))) ∧ Up w w' := by
  cases h1 : needleB fb fa
  · go_enter Tryz.func60, Tryz.ntmps60
    go_wp2_with (first | (go_at_call 76; refine (isPair_no _ _ _ _ _ ?_).mono ?_; (exact h1); rintro e w' ⟨rfl, o1, o2, o3, rfl⟩) | (go_at_call 76; refine (isPair_yes _ _ _ _ _ ?_).mono ?_; (exact h1); rintro e w' ⟨rfl, o1, o2, o3, o4, rfl⟩; rw [h2]) | (go_at_call 73; refine (isDirection_any _ _).mono ?_; rintro e w' ⟨rfl, rfl⟩; first | rw [h1] | rw [h2] | rw [h3] | rw [h4]) | (go_at_call 75; refine (isCarrier_any _ _).mono ?_; rintro e w' ⟨rfl, rfl⟩; first | rw [h1] | rw [h2] | rw [h3] | rw [h4]))
    all_goals (go_ret; exact ⟨by simp_all [validB], by repeat (first | exact Chg.refl _ _ | refine Chg.alloc ?_ _)⟩)
  · skip
    cases h2 : (needleB tb ta && fb != tb)
    · go_enter Tryz.func60, Tryz.ntmps60
      go_wp2_with (first | (go_at_call 76; refine (isPair_no _ _ _ _ _ ?_).mono ?_; (exact h1); rintro e w' ⟨rfl, o1, o2, o3, rfl⟩) | (go_at_call 76; refine (isPair_yes _ _ _ _ _ ?_).mono ?_; (exact h1); rintro e w' ⟨rfl, o1, o2, o3, o4, rfl⟩; rw [h2]) | (go_at_call 73; refine (isDirection_any _ _).mono ?_; rintro e w' ⟨rfl, rfl⟩; first | rw [h1] | rw [h2] | rw [h3] | rw [h4]) | (go_at_call 75; refine (isCarrier_any _ _).mono ?_; rintro e w' ⟨rfl, rfl⟩; first | rw [h1] | rw [h2] | rw [h3] | rw [h4]))
      all_goals (go_ret; exact ⟨by simp_all [validB], by repeat (first | exact Chg.refl _ _ | refine Chg.alloc ?_ _)⟩)
    · skip
      cases h3 : dirB d
      · go_enter Tryz.func60, Tryz.ntmps60
        go_wp2_with (first | (go_at_call 76; refine (isPair_no _ _ _ _ _ ?_).mono ?_; (exact h1); rintro e w' ⟨rfl, o1, o2, o3, rfl⟩) | (go_at_call 76; refine (isPair_yes _ _ _ _ _ ?_).mono ?_; (exact h1); rintro e w' ⟨rfl, o1, o2, o3, o4, rfl⟩; rw [h2]) | (go_at_call 73; refine (isDirection_any _ _).mono ?_; rintro e w' ⟨rfl, rfl⟩; first | rw [h1] | rw [h2] | rw [h3] | rw [h4]) | (go_at_call 75; refine (isCarrier_any _ _).mono ?_; rintro e w' ⟨rfl, rfl⟩; first | rw [h1] | rw [h2] | rw [h3] | rw [h4]))
        all_goals (go_ret; exact ⟨by simp_all [validB], by repeat (first | exact Chg.refl _ _ | refine Chg.alloc ?_ _)⟩)
      · skip
        cases h4 : carB c
        · go_enter Tryz.func60, Tryz.ntmps60
          go_wp2_with (first | (go_at_call 76; refine (isPair_no _ _ _ _ _ ?_).mono ?_; (exact h1); rintro e w' ⟨rfl, o1, o2, o3, rfl⟩) | (go_at_call 76; refine (isPair_yes _ _ _ _ _ ?_).mono ?_; (exact h1); rintro e w' ⟨rfl, o1, o2, o3, o4, rfl⟩; rw [h2]) | (go_at_call 73; refine (isDirection_any _ _).mono ?_; rintro e w' ⟨rfl, rfl⟩; first | rw [h1] | rw [h2] | rw [h3] | rw [h4]) | (go_at_call 75; refine (isCarrier_any _ _).mono ?_; rintro e w' ⟨rfl, rfl⟩; first | rw [h1] | rw [h2] | rw [h3] | rw [h4]))
          all_goals (go_ret; exact ⟨by simp_all [validB], by repeat (first | exact Chg.refl _ _ | refine Chg.alloc ?_ _)⟩)
        · go_enter Tryz.func60, Tryz.ntmps60
          go_wp2_with (first | (go_at_call 76; refine (isPair_no _ _ _ _ _ ?_).mono ?_; (exact h1); rintro e w' ⟨rfl, o1, o2, o3, rfl⟩) | (go_at_call 76; refine (isPair_yes _ _ _ _ _ ?_).mono ?_; (exact h1); rintro e w' ⟨rfl, o1, o2, o3, o4, rfl⟩; rw [h2]) | (go_at_call 73; refine (isDirection_any _ _).mono ?_; rintro e w' ⟨rfl, rfl⟩; first | rw [h1] | rw [h2] | rw [h3] | rw [h4]) | (go_at_call 75; refine (isCarrier_any _ _).mono ?_; rintro e w' ⟨rfl, rfl⟩; first | rw [h1] | rw [h2] | rw [h3] | rw [h4]))
          all_goals (go_ret; exact ⟨by simp_all [validB], by repeat (first | exact Chg.refl _ _ | refine Chg.alloc ?_ _)⟩)
theorem ValidOp_6 (w : World) (d fb fa tb ta c r : Int) : Calls Tryz.prog 60 #[(OpM.mk 6 d fb fa tb ta c r).val] w fun e w' => e = .returned (.bool (validB (OpM.mk 6 d fb fa tb ta c r))) ∧ Up w w' := by
  cases h1 : needleB fb fa
  · go_enter Tryz.func60, Tryz.ntmps60
    go_wp2_with (first | (go_at_call 74; refine (ValidNeedle_any _ _ _).mono ?_; rintro e w' ⟨rfl, o, rfl⟩; first | rw [h1] | rw [h2] | rw [h3] | rw [h4]))
    all_goals (go_ret; exact ⟨by simp_all [validB], by repeat (first | exact Chg.refl _ _ | refine Chg.alloc ?_ _)⟩)
  · go_enter Tryz.func60, Tryz.ntmps60
    go_wp2_with (first | (go_at_call 74; refine (ValidNeedle_any _ _ _).mono ?_; rintro e w' ⟨rfl, o, rfl⟩; first | rw [h1] | rw [h2] | rw [h3] | rw [h4]))
    all_goals (go_ret; exact ⟨by simp_all [validB], by repeat (first | exact Chg.refl _ _ | refine Chg.alloc ?_ _)⟩)
theorem ValidOp_7 (w : World) (d fb fa tb ta c r : Int) : Calls Tryz.prog 60 #[(OpM.mk 7 d fb fa tb ta c r).val] w fun e w' => e = .returned (.bool (validB (OpM.mk 7 d fb fa tb ta c r))) ∧ Up w w' := by
  cases h1 : rackB r
  · go_enter Tryz.func60, Tryz.ntmps60
    go_wp2_with (first | (go_at_call 77; refine (isRack_any _ _).mono ?_; rintro e w' ⟨rfl, rfl⟩; first | rw [h1] | rw [h2] | rw [h3] | rw [h4]))
    all_goals (go_ret; exact ⟨by simp_all [validB], by repeat (first | exact Chg.refl _ _ | refine Chg.alloc ?_ _)⟩)
  · go_enter Tryz.func60, Tryz.ntmps60
    go_wp2_with (first | (go_at_call 77; refine (isRack_any _ _).mono ?_; rintro e w' ⟨rfl, rfl⟩; first | rw [h1] | rw [h2] | rw [h3] | rw [h4]))
    all_goals (go_ret; exact ⟨by simp_all [validB], by repeat (first | exact Chg.refl _ _ | refine Chg.alloc ?_ _)⟩)
theorem ValidOp_8 (w : World) (d fb fa tb ta c r : Int) : Calls Tryz.prog 60 #[(OpM.mk 8 d fb fa tb ta c r).val] w fun e w' => e = .returned (.bool (validB (OpM.mk 8 d fb fa tb ta c r))) ∧ Up w w' := by
  cases h1 : dirB d
  · go_enter Tryz.func60, Tryz.ntmps60
    go_wp2_with (first | (go_at_call 73; refine (isDirection_any _ _).mono ?_; rintro e w' ⟨rfl, rfl⟩; first | rw [h1] | rw [h2] | rw [h3] | rw [h4]) | (go_at_call 75; refine (isCarrier_any _ _).mono ?_; rintro e w' ⟨rfl, rfl⟩; first | rw [h1] | rw [h2] | rw [h3] | rw [h4]))
    all_goals (go_ret; exact ⟨by simp_all [validB], by repeat (first | exact Chg.refl _ _ | refine Chg.alloc ?_ _)⟩)
  · skip
    cases h2 : carB c
    · go_enter Tryz.func60, Tryz.ntmps60
      go_wp2_with (first | (go_at_call 73; refine (isDirection_any _ _).mono ?_; rintro e w' ⟨rfl, rfl⟩; first | rw [h1] | rw [h2] | rw [h3] | rw [h4]) | (go_at_call 75; refine (isCarrier_any _ _).mono ?_; rintro e w' ⟨rfl, rfl⟩; first | rw [h1] | rw [h2] | rw [h3] | rw [h4]))
      all_goals (go_ret; exact ⟨by simp_all [validB], by repeat (first | exact Chg.refl _ _ | refine Chg.alloc ?_ _)⟩)
    · go_enter Tryz.func60, Tryz.ntmps60
      go_wp2_with (first | (go_at_call 73; refine (isDirection_any _ _).mono ?_; rintro e w' ⟨rfl, rfl⟩; first | rw [h1] | rw [h2] | rw [h3] | rw [h4]) | (go_at_call 75; refine (isCarrier_any _ _).mono ?_; rintro e w' ⟨rfl, rfl⟩; first | rw [h1] | rw [h2] | rw [h3] | rw [h4]))
      all_goals (go_ret; exact ⟨by simp_all [validB], by repeat (first | exact Chg.refl _ _ | refine Chg.alloc ?_ _)⟩)
theorem ValidOp_9 (w : World) (d fb fa tb ta c r : Int) : Calls Tryz.prog 60 #[(OpM.mk 9 d fb fa tb ta c r).val] w fun e w' => e = .returned (.bool (validB (OpM.mk 9 d fb fa tb ta c r))) ∧ Up w w' := by
  cases h1 : carB c
  · go_enter Tryz.func60, Tryz.ntmps60
    go_wp2_with (first | (go_at_call 75; refine (isCarrier_any _ _).mono ?_; rintro e w' ⟨rfl, rfl⟩; first | rw [h1] | rw [h2] | rw [h3] | rw [h4]))
    all_goals (go_ret; exact ⟨by simp_all [validB], by repeat (first | exact Chg.refl _ _ | refine Chg.alloc ?_ _)⟩)
  · go_enter Tryz.func60, Tryz.ntmps60
    go_wp2_with (first | (go_at_call 75; refine (isCarrier_any _ _).mono ?_; rintro e w' ⟨rfl, rfl⟩; first | rw [h1] | rw [h2] | rw [h3] | rw [h4]))
    all_goals (go_ret; exact ⟨by simp_all [validB], by repeat (first | exact Chg.refl _ _ | refine Chg.alloc ?_ _)⟩)
theorem ValidOp_any (w : World) (x : OpM) : Calls Tryz.prog 60 #[x.val] w fun e w' => e = .returned (.bool (validB x)) ∧ Up w w' := by
  obtain ⟨k, d, fb, fa, tb, ta, c, r⟩ := x
  by_cases k1 : k = 1
  · subst k1; exact ValidOp_1 w d fb fa tb ta c r
  have e1 : (k == 1) = false := by simpa using k1
  by_cases k2 : k = 2
  · subst k2; exact ValidOp_2 w d fb fa tb ta c r
  have e2 : (k == 2) = false := by simpa using k2
  by_cases k3 : k = 3
  · subst k3; exact ValidOp_3 w d fb fa tb ta c r
  have e3 : (k == 3) = false := by simpa using k3
  by_cases k4 : k = 4
  · subst k4; exact ValidOp_4 w d fb fa tb ta c r
  have e4 : (k == 4) = false := by simpa using k4
  by_cases k5 : k = 5
  · subst k5; exact ValidOp_5 w d fb fa tb ta c r
  have e5 : (k == 5) = false := by simpa using k5
  by_cases k6 : k = 6
  · subst k6; exact ValidOp_6 w d fb fa tb ta c r
  have e6 : (k == 6) = false := by simpa using k6
  by_cases k7 : k = 7
  · subst k7; exact ValidOp_7 w d fb fa tb ta c r
  have e7 : (k == 7) = false := by simpa using k7
  by_cases k8 : k = 8
  · subst k8; exact ValidOp_8 w d fb fa tb ta c r
  have e8 : (k == 8) = false := by simpa using k8
  by_cases k9 : k = 9
  · subst k9; exact ValidOp_9 w d fb fa tb ta c r
  have e9 : (k == 9) = false := by simpa using k9
  have hv : validB (OpM.mk k d fb fa tb ta c r) = false := by simp [validB, *]
  rw [hv]
  go_enter Tryz.func60, Tryz.ntmps60
  go_wp2
  go_ret
  exact ⟨rfl, by repeat (first | exact Chg.refl _ _ | refine Chg.alloc ?_ _)⟩
end Go.Proofs.YtiiodfcbpmkodaaGreat
