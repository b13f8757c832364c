/- Contracts of ValidPlaces and of the reference's l21Places: whether a list are needles of columns. No condition. -/
import Derived.Test.YtjgdcjhmfbefdaaInts
namespace Go.Proofs.Ytjgdcjhmfbefdaa
open Go.ChangeShapes Go.WideShapes Go.ChangeAt Go.RowKit

/-- the first j numbers are needles in ascending order (twice: equal ones are let in) -/
def placesTo (twice : Bool) (xs : List Int) (j : Nat) : Prop :=
  ∀ i (_ : i < xs.length), i < j → 0 ≤ xs[i] ∧ xs[i] ≤ 23 ∧ (∀ (_ : 0 < i), xs[i - 1] < xs[i] ∨ (twice = true ∧ xs[i - 1] = xs[i]))
instance (twice : Bool) (xs : List Int) (j : Nat) : Decidable (placesTo twice xs j) := inferInstanceAs (Decidable (∀ i, ∀ (_ : i < xs.length), i < j → _))
def placesB (twice : Bool) (xs : List Int) : Bool := decide (placesTo twice xs xs.length ∧ xs.length ≤ 8)
theorem placesTo_zero (twice : Bool) (xs : List Int) : placesTo twice xs 0 := fun _ _ h => absurd h (by omega)
theorem placesTo_succ {twice : Bool} {xs : List Int} {j : Nat} (hp : placesTo twice xs j) {h : j < xs.length} (h1 : 0 ≤ xs[j] ∧ xs[j] ≤ 23) (h2 : ∀ (_ : 0 < j), xs[j - 1] < xs[j] ∨ (twice = true ∧ xs[j - 1] = xs[j])) :
    placesTo twice xs (j + 1) := fun i hi hij => by
  by_cases e : i = j
  · subst e; exact ⟨h1.1, h1.2, h2⟩
  · exact hp i hi (by omega)
theorem placesB_not {twice : Bool} {xs : List Int} {j : Nat} (h : j < xs.length) (hn : ¬ (0 ≤ xs[j] ∧ xs[j] ≤ 23 ∧ (∀ (_ : 0 < j), xs[j - 1] < xs[j] ∨ (twice = true ∧ xs[j - 1] = xs[j])))) : placesB twice xs = false :=
  decide_eq_false fun hh => hn (hh.1 j h h)
theorem placesB_all {twice : Bool} {xs : List Int} (h : placesTo twice xs xs.length) : placesB twice xs = decide ((xs.length : Int) ≤ 8) := by
  unfold placesB; simp [h]; omega

theorem isAt_yes (n : Int) (w : World) (h : 0 ≤ n ∧ n ≤ 23) :
    Calls Try.prog 118 #[.int .i64 n] w fun e w' => e = .returned (.bool true) ∧ w = w' := by
  go_enter Try.func118, Try.ntmps118
  go_wp2_with (first | (go_at_call 76; refine (within_yes _ _ _ _ ?_).mono ?_; (omega); rintro e w' ⟨rfl, rfl⟩))
  go_ret
  exact ⟨rfl, rfl⟩
theorem isAt_no (n : Int) (w : World) (h : n < 0 ∨ 23 < n) :
    Calls Try.prog 118 #[.int .i64 n] w fun e w' => e = .returned (.bool false) ∧ w = w' := by
  go_enter Try.func118, Try.ntmps118
  go_wp2_with (first | (go_at_call 76; refine (within_no _ _ _ _ ?_).mono ?_; (omega); rintro e w' ⟨rfl, rfl⟩))
  go_ret
  exact ⟨rfl, rfl⟩

theorem ValidPlaces_any (w : World) (S : Nat → Prop) (v : Value) (xs : List Int) (h : Ints w S v xs) :
    Calls Try.prog 115 #[v] w fun e w' => e = .returned (.bool (placesB false xs)) ∧ w = w' := by
  obtain ⟨A, c, rfl, hlc, hcm, -, hr, -⟩ := h
  go_enter Try.func115, Try.ntmps115
  go_wp2
  go_loop [3, 4, 7] (fun _ _ i => ∃ j : Nat, j ≤ xs.length ∧ i = .int .i64 j ∧ Hid (placesTo false xs j)) (fun _ _ i => xs.length - (intOf i).toNat)
  case atStart => exact ⟨0, by omega, rfl, placesTo_zero _ _⟩
  case round =>
    obtain ⟨j, hj, rfl, hp⟩ := hrel
    by_cases hlt : j < xs.length
    · obtain ⟨b, o, rfl, -, hbl, hc⟩ := hr (by omega)
      have hcj := (hc j hlt).1
      by_cases hin : 0 ≤ xs[j] ∧ xs[j] ≤ 23
      · by_cases h0 : 0 < j
        · obtain ⟨i, rfl⟩ : ∃ i, j = i + 1 := ⟨j - 1, by omega⟩
          have hci := (hc i (by omega)).1
          clear hc hr
          by_cases hle : xs[i + 1] ≤ xs[i]
          · have hB := Lib.hid (placesB_not (twice := false) hlt (by
              rintro ⟨_, _, h3⟩
              have := h3 (by omega)
              simp at this
              omega))
            go_wp2_with (first | (go_at_call 118; refine (isAt_yes _ _ ?_).mono ?_; (exact hin); rintro e w' ⟨rfl, rfl⟩))
            go_ret
            exact ⟨ret_bool hB.out.symm, rfl⟩
          · go_wp2_with (first | (go_at_call 118; refine (isAt_yes _ _ ?_).mono ?_; (exact hin); rintro e w' ⟨rfl, rfl⟩))
            go_round
            case rel => exact ⟨i + 2, by omega, by go_num, placesTo_succ (h := hlt) hp.out hin (fun _ => .inl (by simp; omega))⟩
            case measure => simp [intOf]; omega
        · obtain rfl : j = 0 := by omega
          rw [Nat.add_zero] at hcj
          clear hc hr
          go_wp2_with (first | (go_at_call 118; refine (isAt_yes _ _ ?_).mono ?_; (exact hin); rintro e w' ⟨rfl, rfl⟩))
          go_round
          case rel => exact ⟨1, by omega, by go_num, placesTo_succ (h := hlt) hp.out hin (fun h => absurd h (by omega))⟩
          case measure => simp [intOf]; omega
      · have hB := Lib.hid (placesB_not (twice := false) hlt (by rintro ⟨h1, h2, _⟩; exact hin ⟨h1, h2⟩))
        have hin' : xs[j] < 0 ∨ 23 < xs[j] := by omega
        clear hc hr
        go_wp2_with (first | (go_at_call 118; refine (isAt_no _ _ ?_).mono ?_; (exact hin'); rintro e w' ⟨rfl, rfl⟩))
        go_ret
        exact ⟨ret_bool hB.out.symm, rfl⟩
    · obtain rfl : j = xs.length := by omega
      have hB := Lib.hid (placesB_all hp.out)
      go_wp2
      go_ret
      exact ⟨ret_bool hB.out.symm, rfl⟩


set_option maxRecDepth 100000 in
set_option maxHeartbeats 1000000 in
theorem l21Places_any (w : World) (S : Nat → Prop) (v : Value) (xs : List Int) (tw : Bool) (h : Ints w S v xs) :
    Calls Try.prog 184 #[v, .bool tw] w fun e w' => e = .returned (.bool (placesB tw xs)) ∧ Drawn w w' := by
  obtain ⟨A, c, rfl, hlc, hcm, -, hr, -⟩ := h
  go_enter Try.func184, Try.ntmps184
  go_wp2
  go_loopw [5] (fun i wr => ∃ j : Nat, j ≤ xs.length ∧ i = .int .i64 j ∧ Hid (placesTo tw xs j) ∧ Drawn w wr) (fun i _ => xs.length - (intOf i).toNat)
  case atStart => exact ⟨0, by omega, rfl, placesTo_zero _ _, Drawn.refl _⟩
  case round =>
    obtain ⟨j, hj, rfl, hp, hd⟩ := hrel
    by_cases hlt : j < xs.length
    · obtain ⟨b, o, rfl, -, hbl, hc⟩ := hr (by omega)
      have hcj := hd.cell (hc j hlt).1
      by_cases hin : 0 ≤ xs[j] ∧ xs[j] ≤ 23
      · by_cases h0 : 0 < j
        · obtain ⟨i, rfl⟩ : ∃ i, j = i + 1 := ⟨j - 1, by omega⟩
          have hci := hd.cell (hc i (by omega)).1
          clear hc hr
          have hd0 : decide ((0 : Int) < (i : Int) + 1) = true := decide_eq_true (by omega)
          by_cases hlt2 : xs[i] < xs[i + 1]
          · have hB := Lib.hid (placesTo_succ (twice := tw) (h := hlt) hp.out hin (fun _ => .inl (by simpa using hlt2)))
            have hd1 : decide (xs[i + 1] < xs[i]) = false := decide_eq_false (by omega)
            have hd2 : (xs[i] == xs[i + 1]) = false := by simp; omega
            cases tw
            all_goals
              go_wp2
              go_quiet ((go_at_call 68; exact quiet_left (l00In_yes _ _ _ _ hin)))
              go_wp2
              go_roundw
              case rel => exact ⟨i + 2, by omega, by go_num, hB, hd.drewN _⟩
              case measure => simp [intOf]; omega
          · by_cases heq : xs[i] = xs[i + 1]
            · have hd1 : decide (xs[i + 1] < xs[i]) = false := decide_eq_false (by omega)
              have hd2 : (xs[i] == xs[i + 1]) = true := by simpa using heq
              cases tw
              · have hB := Lib.hid (placesB_not (twice := false) hlt (by
                  rintro ⟨_, _, h3⟩
                  have := h3 (by omega)
                  simp at this
                  omega))
                clear heq
                go_wp2
                go_quiet ((go_at_call 68; exact quiet_left (l00In_yes _ _ _ _ hin)))
                go_wp2
                go_ret
                exact ⟨ret_bool hB.out.symm, hd.drewN _⟩
              · have hB := Lib.hid (placesTo_succ (twice := true) (h := hlt) hp.out hin (fun _ => .inr ⟨rfl, by simpa using heq⟩))
                clear heq
                go_wp2
                go_quiet ((go_at_call 68; exact quiet_left (l00In_yes _ _ _ _ hin)))
                go_wp2
                go_roundw
                case rel => exact ⟨i + 2, by omega, by go_num, hB, hd.drewN _⟩
                case measure => simp [intOf]; omega
            · have hd1 : decide (xs[i + 1] < xs[i]) = true := decide_eq_true (by omega)
              have hB := Lib.hid (placesB_not (twice := tw) hlt (by
                rintro ⟨_, _, h3⟩
                have := h3 (by omega)
                simp at this
                omega))
              clear heq
              go_wp2
              go_quiet ((go_at_call 68; exact quiet_left (l00In_yes _ _ _ _ hin)))
              go_wp2
              go_ret
              exact ⟨ret_bool hB.out.symm, hd.drewN _⟩
        · obtain rfl : j = 0 := by omega
          rw [Nat.add_zero] at hcj
          have hB := Lib.hid (placesTo_succ (twice := tw) (h := hlt) hp.out hin (fun h => absurd h (by omega)))
          clear hc hr
          go_wp2
          go_quiet ((go_at_call 68; exact quiet_left (l00In_yes _ _ _ _ hin)))
          go_wp2
          go_roundw
          case rel => exact ⟨1, by omega, by go_num, hB, hd.drewN _⟩
          case measure => simp [intOf]; omega
      · have hB := Lib.hid (placesB_not (twice := tw) hlt (by rintro ⟨h1, h2, _⟩; exact hin ⟨h1, h2⟩))
        have hin' : xs[j] < 0 ∨ 23 < xs[j] := by omega
        clear hc hr
        go_wp2
        go_quiet ((go_at_call 68; exact quiet_left (l00In_no _ _ _ _ hin')))
        go_wp2
        go_ret
        exact ⟨ret_bool hB.out.symm, hd.drewN _⟩
    · obtain rfl : j = xs.length := by omega
      have hB := Lib.hid (placesB_all hp.out)
      go_wp2
      go_ret
      exact ⟨ret_bool hB.out.symm, hd⟩
end Go.Proofs.Ytjgdcjhmfbefdaa
