/- Needles and operations that are valid: the program's tests and the reference's. No condition. -/
import Derived.Test.YtjgdcjhmfbefdaaSmall
import Derived.Test.YtjgdcjhmfbefdaaOps
namespace Go.Proofs.Ytjgdcjhmfbefdaa
open Go.ChangeShapes Go.WideShapes Go.ChangeAt Go.RowKit
def bedB (b : Int) : Bool := decide (b = 1 ∨ b = 2)
def placeB (a : Int) : Bool := decide (0 ≤ a ∧ a ≤ 23)
def needleB (b a : Int) : Bool := bedB b && placeB a
def dirB (d : Int) : Bool := decide (d = 1 ∨ d = -1)
def carB (c : Int) : Bool := decide (1 ≤ c ∧ c ≤ 4)
def rackB (r : Int) : Bool := decide (-3 ≤ r ∧ r ≤ 3)
theorem isBed_any (n : Int) (w : World) : Calls Try.prog 201 #[.int .i64 n] w fun e w' => e = .returned (.bool (bedB n)) ∧ w = w' := by
  by_cases h1 : n = 1
  · subst h1
    go_enter Try.func201, Try.ntmps201
    go_wp2
    go_ret
    exact ⟨rfl, rfl⟩
  · have e1 : (n == 1) = false := by simpa using h1
    by_cases h2 : n = 2
    · subst h2
      go_enter Try.func201, Try.ntmps201
      go_wp2
      go_ret
      exact ⟨rfl, rfl⟩
    · have e2 : (n == 2) = false := by simpa using h2
      rw [show bedB n = false from decide_eq_false (by omega)]
      clear h1 h2
      go_enter Try.func201, Try.ntmps201
      go_wp2
      go_ret
      exact ⟨rfl, rfl⟩
theorem l01Bed_any (n : Int) (w : World) : Calls Try.prog 197 #[.int .i64 n] w fun e w' => e = .returned (.bool (bedB n)) ∧ w = w' := by
  by_cases h : n = 1 ∨ n = 2
  · rw [show bedB n = true from decide_eq_true h]
    have h' : 1 ≤ n ∧ n ≤ 2 := by omega
    clear h
    go_enter Try.func197, Try.ntmps197
    go_wp2_with (first | (go_at_call 68; refine (l00In_yes _ _ _ _ ?_).mono ?_; (omega); rintro e w' ⟨rfl, rfl⟩))
    go_ret
    exact ⟨rfl, rfl⟩
  · rw [show bedB n = false from decide_eq_false h]
    have h' : n < 1 ∨ 2 < n := by omega
    clear h
    go_enter Try.func197, Try.ntmps197
    go_wp2_with (first | (go_at_call 68; refine (l00In_no _ _ _ _ ?_).mono ?_; (omega); rintro e w' ⟨rfl, rfl⟩))
    go_ret
    exact ⟨rfl, rfl⟩
theorem l01Needle_any (w : World) (b a : Int) : Calls Try.prog 227 #[.agg #[.int .i64 b, .int .i64 a]] w fun e w' => e = .returned (.bool (needleB b a)) ∧ ∃ o, w' = w.alloc o := by
  cases h1 : bedB b
  · skip
    rw [show needleB b a = false by simp [needleB, h1]]
    go_enter Try.func227, Try.ntmps227
    go_wp2_with (first | (go_at_call 197; refine (l01Bed_any _ _).mono ?_; rintro e w' ⟨rfl, rfl⟩; rw [h1]))
    go_ret
    exact ⟨rfl, _, rfl⟩
  · cases h2 : placeB a
    · have h3 : a < 0 ∨ 23 < a := by have := of_decide_eq_false h2; omega
      rw [show needleB b a = false by simp [needleB, h1, h2]]
      go_enter Try.func227, Try.ntmps227
      go_wp2_with (first | (go_at_call 197; refine (l01Bed_any _ _).mono ?_; rintro e w' ⟨rfl, rfl⟩; rw [h1]) | (go_at_call 68; refine (l00In_no _ _ _ _ ?_).mono ?_; (omega); rintro e w' ⟨rfl, rfl⟩))
      go_ret
      exact ⟨rfl, _, rfl⟩
    · have h3 := of_decide_eq_true h2
      rw [show needleB b a = true by simp [needleB, h1, h2]]
      go_enter Try.func227, Try.ntmps227
      go_wp2_with (first | (go_at_call 197; refine (l01Bed_any _ _).mono ?_; rintro e w' ⟨rfl, rfl⟩; rw [h1]) | (go_at_call 68; refine (l00In_yes _ _ _ _ ?_).mono ?_; (omega); rintro e w' ⟨rfl, rfl⟩))
      go_ret
      exact ⟨rfl, _, rfl⟩
theorem isDirection_any (n : Int) (w : World) : Calls Try.prog 202 #[.int .i64 n] w fun e w' => e = .returned (.bool (dirB n)) ∧ w = w' := by
  cases h : dirB n
  · have h1 := of_decide_eq_false h
    exact isDirection_no n w (by omega)
  · have h1 := of_decide_eq_true h
    exact isDirection_yes n w (by omega)
theorem l07Dir_any (n : Int) (w : World) : Calls Try.prog 198 #[.int .i64 n] w fun e w' => e = .returned (.bool (dirB n)) ∧ w = w' := by
  cases h : dirB n
  · have h1 := of_decide_eq_false h
    exact l07Dir_no n w (by omega)
  · have h1 := of_decide_eq_true h
    exact l07Dir_yes n w (by omega)
theorem isCarrier_any (n : Int) (w : World) : Calls Try.prog 116 #[.int .i64 n] w fun e w' => e = .returned (.bool (carB n)) ∧ w = w' := by
  cases h : carB n
  · have h1 := of_decide_eq_false h
    exact isCarrier_no n w (by omega)
  · have h1 := of_decide_eq_true h
    exact isCarrier_yes n w (by omega)
theorem l07Yarn_any (n : Int) (w : World) : Calls Try.prog 169 #[.int .i64 n] w fun e w' => e = .returned (.bool (carB n)) ∧ w = w' := by
  cases h : carB n
  · have h1 := of_decide_eq_false h
    exact l07Yarn_no n w (by omega)
  · have h1 := of_decide_eq_true h
    exact l07Yarn_yes n w (by omega)
theorem isRack_any (n : Int) (w : World) : Calls Try.prog 85 #[.int .i64 n] w fun e w' => e = .returned (.bool (rackB n)) ∧ w = w' := by
  cases h : rackB n
  · have h1 := of_decide_eq_false h
    exact isRack_no n w (by omega)
  · have h1 := of_decide_eq_true h
    exact isRack_yes n w (by omega)
/-- what operations are valid -/
def validB (x : OpM) : Bool :=
  if x.kind = 1 ∨ x.kind = 2 ∨ x.kind = 3 then dirB x.dir && needleB x.fb x.fa && carB x.car && x.tb == 0 && x.ta == 0 && x.rack == 0
  else if x.kind = 4 then needleB x.fb x.fa && needleB x.tb x.ta && x.fb != x.tb && x.dir == 0 && x.car == 0 && x.rack == 0
  else if x.kind = 5 then needleB x.fb x.fa && needleB x.tb x.ta && x.fb != x.tb && dirB x.dir && carB x.car && x.rack == 0
  else if x.kind = 6 then needleB x.fb x.fa && x.dir == 0 && x.tb == 0 && x.ta == 0 && x.car == 0 && x.rack == 0
  else if x.kind = 7 then rackB x.rack && x.dir == 0 && x.fb == 0 && x.fa == 0 && x.tb == 0 && x.ta == 0 && x.car == 0
  else if x.kind = 8 then dirB x.dir && carB x.car && x.fb == 0 && x.fa == 0 && x.tb == 0 && x.ta == 0 && x.rack == 0
  else if x.kind = 9 then carB x.car && x.dir == 0 && x.fb == 0 && x.fa == 0 && x.tb == 0 && x.ta == 0 && x.rack == 0
  else false
end Go.Proofs.Ytjgdcjhmfbefdaa
