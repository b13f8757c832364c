/- Operations as data: slices of them; the laws' own helpers on them: equal, marked, held. No condition but room for the numbers. Contracts of ValidPlaces and of the reference's l21Places: whether a list are needles of columns. No condition. The operations with which loops go from a front needle to another one. Condition: small needles. Contracts of small tests on numbers: carriers, directions, places, kinds of stitches. No condition. -/
import Derived.Test.YtchfjglofmphfaaPD2
import Derived.StillTailTactics
namespace Go.Proofs.Ytchfjglofmphfaa
open Go.ChangeShapes Go.WideShapes Go.ChangeAt Go.RowKit

/-- an operation: Kind, Dir, From (Bed, At), To (Bed, At), Carrier, Rack -/
structure OpM where
  kind : Int
  dir : Int
  fb : Int
  fa : Int
  tb : Int
  ta : Int
  car : Int
  rack : Int
def OpM.cells (x : OpM) : List Value := [.int .i64 x.kind, .int .i64 x.dir, .int .i64 x.fb, .int .i64 x.fa, .int .i64 x.tb, .int .i64 x.ta, .int .i64 x.car, .int .i64 x.rack]
def OpM.ok (x : OpM) : Prop := I64 x.kind ∧ I64 x.dir ∧ I64 x.fb ∧ I64 x.fa ∧ I64 x.tb ∧ I64 x.ta ∧ I64 x.car ∧ I64 x.rack
theorem OpM.cells_length (x : OpM) : x.cells.length = 8 := rfl
abbrev OpM.val (x : OpM) : Value := .agg #[.int .i64 x.kind, .int .i64 x.dir, .int .i64 x.fb, .int .i64 x.fa, .int .i64 x.tb, .int .i64 x.ta, .int .i64 x.car, .int .i64 x.rack]
/-- a slice of operations that reads as the list xs -/
def Ops (w : World) (S : Nat → Prop) (v : Value) (xs : List OpM) : Prop := Raw w S 8 v xs.length (xs.flatMap OpM.cells) ∧ ∀ x ∈ xs, x.ok
section
variable {S T : Nat → Prop} {w w' : World} {v : Value} {xs : List OpM}
theorem Ops.keep (h : Ops w S v xs) (g : Chg T w w') (hd : ∀ b, b < w.heap.size → S b → ¬ T b) : Ops w' S v xs := ⟨h.1.keep g hd, h.2⟩
theorem Ops.up (h : Ops w S v xs) (g : Up w w') : Ops w' S v xs := ⟨h.1.up g, h.2⟩
theorem Ops.alloc' (h : Ops w S v xs) (o : Obj) : Ops (w.alloc o) S v xs := h.up ((Chg.refl _ _).alloc o)
theorem Ops.mono (h : Ops w S v xs) (hs : ∀ b, b < w.heap.size → S b → T b) : Ops w T v xs := ⟨h.1.mono hs, h.2⟩
theorem Ops.shape (h : Ops w S v xs) : ∃ A c, v = .slice A xs.length c ∧ xs.length ≤ c ∧ c ≤ 9223372036854775807 ∧ (A = none → c = 0) := h.1.shape
theorem Ops.nil (w : World) (S : Nat → Prop) (c : Nat) (A : Option Addr) (hc : c ≤ 9223372036854775807) (hA : A = none → c = 0 := by simp) : Ops w S (.slice A 0 c) [] := ⟨Raw.nil w S 8 c A hc hA, by simp⟩
/-- an element's cells -/
theorem Ops.at_ (h : Ops w S v xs) {i : Nat} (hi : i < xs.length) : ∃ b o c, v = .slice (some ⟨b, o, none⟩) xs.length c ∧ S b ∧ b < w.heap.size ∧
    ∀ j u, (xs[i].cells)[j]? = some u → w.cell? ⟨b, o + i * 8 + j, none⟩ = some u ∧ w.frozen? ⟨b, o + i * 8 + j, none⟩ = false := Raw.at_ OpM.cells_length h.1 hi
end
/-- the words under which the laws' walks know them -/
def MOps (w : World) (S : Nat → Prop) (v : Value) (xs : List OpM) (k : Int) : Prop := Raw w S 8 v xs.length (markCells k (xs.length * 8))
theorem MOps.keep {S T : Nat → Prop} {w w' : World} {v : Value} {xs : List OpM} {k : Int} (h : MOps w S v xs k) (g : Chg T w w') (hd : ∀ b, b < w.heap.size → S b → ¬ T b) : MOps w' S v xs k := Raw.keep h g hd
theorem MOps.up {S : Nat → Prop} {w w' : World} {v : Value} {xs : List OpM} {k : Int} (h : MOps w S v xs k) (g : Up w w') : MOps w' S v xs k := Raw.up h g
def cntOps (xs : List OpM) : Nat := xs.length * 8
end Go.Proofs.Ytchfjglofmphfaa
namespace Go.Proofs.Ytchfjglofmphfaa
open Go.ChangeShapes Go.WideShapes Go.ChangeAt Go.RowKit

/-- the first j numbers are needles in ascending order (twice: equal ones are let in) -/
def placesTo (twice : Bool) (xs : List Int) (j : Nat) : Prop :=
  ∀ i (_ : i < xs.length), i < j → 0 ≤ xs[i] ∧ xs[i] ≤ 23 ∧ (∀ (_ : 0 < i), xs[i - 1] < xs[i] ∨ (twice = true ∧ xs[i - 1] = xs[i]))
instance (twice : Bool) (xs : List Int) (j : Nat) : Decidable (placesTo twice xs j) := inferInstanceAs (Decidable (∀ i, ∀ (_ : i < xs.length), i < j → _))
def placesB (twice : Bool) (xs : List Int) : Bool := decide (placesTo twice xs xs.length ∧ xs.length ≤ 8)
theorem placesTo_zero (twice : Bool) (xs : List Int) : placesTo twice xs 0 := fun _ _ h => absurd h (by omega)
theorem placesTo_succ {twice : Bool} {xs : List Int} {j : Nat} (hp : placesTo twice xs j) {h : j < xs.length} (h1 : 0 ≤ xs[j] ∧ xs[j] ≤ 23) (h2 : ∀ (_ : 0 < j), xs[j - 1] < xs[j] ∨ (twice = true ∧ xs[j - 1] = xs[j])) :
    placesTo twice xs (j + 1) := fun i hi hij => by
  by_cases e : i = j
  · subst e; exact ⟨h1.1, h1.2, h2⟩
  · exact hp i hi (by omega)
theorem placesB_not {twice : Bool} {xs : List Int} {j : Nat} (h : j < xs.length) (hn : ¬ (0 ≤ xs[j] ∧ xs[j] ≤ 23 ∧ (∀ (_ : 0 < j), xs[j - 1] < xs[j] ∨ (twice = true ∧ xs[j - 1] = xs[j])))) : placesB twice xs = false :=
  decide_eq_false fun hh => hn (hh.1 j h h)
theorem placesB_all {twice : Bool} {xs : List Int} (h : placesTo twice xs xs.length) : placesB twice xs = decide ((xs.length : Int) ≤ 8) := by
  unfold placesB; simp [h]; omega

theorem isAt_yes (n : Int) (w : World) (h : 0 ≤ n ∧ n ≤ 23) :
    Calls Try.prog 82 #[.int .i64 n] w fun e w' => e = .returned (.bool true) ∧ w = w' := by
  go_enter Try.func82, Try.ntmps82
  go_wp2_with (first | (go_at_call 69; refine (within_yes _ _ _ _ ?_).mono ?_; (omega); rintro e w' ⟨rfl, rfl⟩))
  go_ret
  exact ⟨rfl, rfl⟩
theorem isAt_no (n : Int) (w : World) (h : n < 0 ∨ 23 < n) :
    Calls Try.prog 82 #[.int .i64 n] w fun e w' => e = .returned (.bool false) ∧ w = w' := by
  go_enter Try.func82, Try.ntmps82
  go_wp2_with (first | (go_at_call 69; refine (within_no _ _ _ _ ?_).mono ?_; (omega); rintro e w' ⟨rfl, rfl⟩))
  go_ret
  exact ⟨rfl, rfl⟩

theorem ValidPlaces_any (w : World) (S : Nat → Prop) (v : Value) (xs : List Int) (h : Ints w S v xs) :
    Calls Try.prog 79 #[v] w fun e w' => e = .returned (.bool (placesB false xs)) ∧ w = w' := by
  obtain ⟨A, c, rfl, hlc, hcm, -, hr, -⟩ := h
  go_enter Try.func79, Try.ntmps79
  go_wp2
  go_loop [3, 4, 7] (fun _ _ i => ∃ j : Nat, j ≤ xs.length ∧ i = .int .i64 j ∧ Hid (placesTo false xs j)) (fun _ _ i => xs.length - (intOf i).toNat)
  case atStart => exact ⟨0, by omega, rfl, placesTo_zero _ _⟩
  case round =>
    obtain ⟨j, hj, rfl, hp⟩ := hrel
    by_cases hlt : j < xs.length
    · obtain ⟨b, o, rfl, -, hbl, hc⟩ := hr (by omega)
      have hcj := (hc j hlt).1
      by_cases hin : 0 ≤ xs[j] ∧ xs[j] ≤ 23
      · by_cases h0 : 0 < j
        · obtain ⟨i, rfl⟩ : ∃ i, j = i + 1 := ⟨j - 1, by omega⟩
          have hci := (hc i (by omega)).1
          clear hc hr
          by_cases hle : xs[i + 1] ≤ xs[i]
          · have hB := Lib.hid (placesB_not (twice := false) hlt (by
              rintro ⟨_, _, h3⟩
              have := h3 (by omega)
              simp at this
              omega))
            go_wp2_with (first | (go_at_call 82; refine (isAt_yes _ _ ?_).mono ?_; (exact hin); rintro e w' ⟨rfl, rfl⟩))
            go_ret
            exact ⟨ret_bool hB.out.symm, rfl⟩
          · go_wp2_with (first | (go_at_call 82; refine (isAt_yes _ _ ?_).mono ?_; (exact hin); rintro e w' ⟨rfl, rfl⟩))
            go_round
            case rel => exact ⟨i + 2, by omega, by go_num, placesTo_succ (h := hlt) hp.out hin (fun _ => .inl (by simp; omega))⟩
            case measure => simp [intOf]; omega
        · obtain rfl : j = 0 := by omega
          rw [Nat.add_zero] at hcj
          clear hc hr
          go_wp2_with (first | (go_at_call 82; refine (isAt_yes _ _ ?_).mono ?_; (exact hin); rintro e w' ⟨rfl, rfl⟩))
          go_round
          case rel => exact ⟨1, by omega, by go_num, placesTo_succ (h := hlt) hp.out hin (fun h => absurd h (by omega))⟩
          case measure => simp [intOf]; omega
      · have hB := Lib.hid (placesB_not (twice := false) hlt (by rintro ⟨h1, h2, _⟩; exact hin ⟨h1, h2⟩))
        have hin' : xs[j] < 0 ∨ 23 < xs[j] := by omega
        clear hc hr
        go_wp2_with (first | (go_at_call 82; refine (isAt_no _ _ ?_).mono ?_; (exact hin'); rintro e w' ⟨rfl, rfl⟩))
        go_ret
        exact ⟨ret_bool hB.out.symm, rfl⟩
    · obtain rfl : j = xs.length := by omega
      have hB := Lib.hid (placesB_all hp.out)
      go_wp2
      go_ret
      exact ⟨ret_bool hB.out.symm, rfl⟩


set_option maxRecDepth 100000 in
set_option maxHeartbeats 1000000 in
theorem l21Places_any (w : World) (S : Nat → Prop) (v : Value) (xs : List Int) (tw : Bool) (h : Ints w S v xs) :
    Calls Try.prog 134 #[v, .bool tw] w fun e w' => e = .returned (.bool (placesB tw xs)) ∧ Drawn w w' := by
  obtain ⟨A, c, rfl, hlc, hcm, -, hr, -⟩ := h
  go_enter Try.func134, Try.ntmps134
  go_wp2
  go_loopw [5] (fun i wr => ∃ j : Nat, j ≤ xs.length ∧ i = .int .i64 j ∧ Hid (placesTo tw xs j) ∧ Drawn w wr) (fun i _ => xs.length - (intOf i).toNat)
  case atStart => exact ⟨0, by omega, rfl, placesTo_zero _ _, Drawn.refl _⟩
  case round =>
    obtain ⟨j, hj, rfl, hp, hd⟩ := hrel
    by_cases hlt : j < xs.length
    · obtain ⟨b, o, rfl, -, hbl, hc⟩ := hr (by omega)
      have hcj := hd.cell (hc j hlt).1
      by_cases hin : 0 ≤ xs[j] ∧ xs[j] ≤ 23
      · by_cases h0 : 0 < j
        · obtain ⟨i, rfl⟩ : ∃ i, j = i + 1 := ⟨j - 1, by omega⟩
          have hci := hd.cell (hc i (by omega)).1
          clear hc hr
          have hd0 : decide ((0 : Int) < (i : Int) + 1) = true := decide_eq_true (by omega)
          by_cases hlt2 : xs[i] < xs[i + 1]
          · have hB := Lib.hid (placesTo_succ (twice := tw) (h := hlt) hp.out hin (fun _ => .inl (by simpa using hlt2)))
            have hd1 : decide (xs[i + 1] < xs[i]) = false := decide_eq_false (by omega)
            have hd2 : (xs[i] == xs[i + 1]) = false := by simp; omega
            cases tw
            all_goals
              go_wp2
              go_quiet ((go_at_call 47; exact quiet_left (l00In_yes _ _ _ _ hin)))
              go_wp2
              go_roundw
              case rel => exact ⟨i + 2, by omega, by go_num, hB, hd.drewN _⟩
              case measure => simp [intOf]; omega
          · by_cases heq : xs[i] = xs[i + 1]
            · have hd1 : decide (xs[i + 1] < xs[i]) = false := decide_eq_false (by omega)
              have hd2 : (xs[i] == xs[i + 1]) = true := by simpa using heq
              cases tw
              · have hB := Lib.hid (placesB_not (twice := false) hlt (by
                  rintro ⟨_, _, h3⟩
                  have := h3 (by omega)
                  simp at this
                  omega))
                clear heq
                go_wp2
                go_quiet ((go_at_call 47; exact quiet_left (l00In_yes _ _ _ _ hin)))
                go_wp2
                go_ret
                exact ⟨ret_bool hB.out.symm, hd.drewN _⟩
              · have hB := Lib.hid (placesTo_succ (twice := true) (h := hlt) hp.out hin (fun _ => .inr ⟨rfl, by simpa using heq⟩))
                clear heq
                go_wp2
                go_quiet ((go_at_call 47; exact quiet_left (l00In_yes _ _ _ _ hin)))
                go_wp2
                go_roundw
                case rel => exact ⟨i + 2, by omega, by go_num, hB, hd.drewN _⟩
                case measure => simp [intOf]; omega
            · have hd1 : decide (xs[i + 1] < xs[i]) = true := decide_eq_true (by omega)
              have hB := Lib.hid (placesB_not (twice := tw) hlt (by
                rintro ⟨_, _, h3⟩
                have := h3 (by omega)
                simp at this
                omega))
              clear heq
              go_wp2
              go_quiet ((go_at_call 47; exact quiet_left (l00In_yes _ _ _ _ hin)))
              go_wp2
              go_ret
              exact ⟨ret_bool hB.out.symm, hd.drewN _⟩
        · obtain rfl : j = 0 := by omega
          rw [Nat.add_zero] at hcj
          have hB := Lib.hid (placesTo_succ (twice := tw) (h := hlt) hp.out hin (fun h => absurd h (by omega)))
          clear hc hr
          go_wp2
          go_quiet ((go_at_call 47; exact quiet_left (l00In_yes _ _ _ _ hin)))
          go_wp2
          go_roundw
          case rel => exact ⟨1, by omega, by go_num, hB, hd.drewN _⟩
          case measure => simp [intOf]; omega
      · have hB := Lib.hid (placesB_not (twice := tw) hlt (by rintro ⟨h1, h2, _⟩; exact hin ⟨h1, h2⟩))
        have hin' : xs[j] < 0 ∨ 23 < xs[j] := by omega
        clear hc hr
        go_wp2
        go_quiet ((go_at_call 47; exact quiet_left (l00In_no _ _ _ _ hin')))
        go_wp2
        go_ret
        exact ⟨ret_bool hB.out.symm, hd.drewN _⟩
    · obtain rfl : j = xs.length := by omega
      have hB := Lib.hid (placesB_all hp.out)
      go_wp2
      go_ret
      exact ⟨ret_bool hB.out.symm, hd⟩
end Go.Proofs.Ytchfjglofmphfaa
namespace Go.Proofs.Ytchfjglofmphfaa
open Go.ChangeShapes Go.WideShapes Go.ChangeAt Go.RowKit
def rackM (a b : Int) : List OpM := [⟨4, 0, 1, a, 2, a, 0, 0⟩, ⟨7, 0, 0, 0, 0, 0, 0, b - a⟩, ⟨4, 0, 2, a, 1, b, 0, 0⟩, ⟨7, 0, 0, 0, 0, 0, 0, 0⟩]
theorem rackM_ok {a b : Int} (ha : 0 ≤ a ∧ a ≤ 1000) (hb : 0 ≤ b ∧ b ≤ 1000) : ∀ x ∈ rackM a b, x.ok := by
  intro x hx
  simp only [rackM, List.mem_cons, List.not_mem_nil, or_false] at hx
  rcases hx with rfl | rfl | rfl | rfl <;> (unfold OpM.ok I64; simp only []; omega)
theorem rackOps_any (w : World) (a b : Int) (ha : 0 ≤ a ∧ a ≤ 1000) (hb : 0 ≤ b ∧ b ≤ 1000) :
    Calls Try.prog 136 #[.int .i64 a, .int .i64 b] w fun e w' => ∃ v, e = .returned v ∧ Ops w' (New w.heap.size w'.heap.size) v (rackM a b) ∧ Up w w' := by
  have hok := Lib.hid (rackM_ok ha hb)
  obtain ⟨ha0, ha1⟩ := ha
  obtain ⟨hb0, hb1⟩ := hb
  go_enter Try.func136, Try.ntmps136
  go_wp2
  go_ret
  refine ⟨_, rfl, ⟨Raw.of_block (heap_new_at (by simp)) rfl ⟨by simp, by simp⟩ rfl (by simp) (by omega), hok.out⟩, ((Chg.refl _ _).alloc _).alloc _⟩
theorem isRack_yes (n : Int) (w : World) (h : -3 ≤ n ∧ n ≤ 3) :
    Calls Try.prog 55 #[.int .i64 n] w fun e w' => e = .returned (.bool true) ∧ w = w' := by
  go_enter Try.func55, Try.ntmps55
  go_wp2_with (first | (go_at_call 69; refine (within_yes _ _ _ _ ?_).mono ?_; (omega); rintro e w' ⟨rfl, rfl⟩) | (go_at_call 69; refine (within_no _ _ _ _ ?_).mono ?_; (omega); rintro e w' ⟨rfl, rfl⟩))
  go_ret
  exact ⟨rfl, rfl⟩
theorem isRack_no (n : Int) (w : World) (h : n < -3 ∨ 3 < n) :
    Calls Try.prog 55 #[.int .i64 n] w fun e w' => e = .returned (.bool false) ∧ w = w' := by
  go_enter Try.func55, Try.ntmps55
  go_wp2_with (first | (go_at_call 69; refine (within_yes _ _ _ _ ?_).mono ?_; (omega); rintro e w' ⟨rfl, rfl⟩) | (go_at_call 69; refine (within_no _ _ _ _ ?_).mono ?_; (omega); rintro e w' ⟨rfl, rfl⟩))
  go_ret
  exact ⟨rfl, rfl⟩
end Go.Proofs.Ytchfjglofmphfaa
namespace Go.Proofs.Ytchfjglofmphfaa
open Go.ChangeShapes Go.WideShapes Go.ChangeAt Go.RowKit
theorem isCarrier_yes (n : Int) (w : World) (h : 1 ≤ n ∧ n ≤ 4) :
    Calls Try.prog 80 #[.int .i64 n] w fun e w' => e = .returned (.bool true) ∧ w = w' := by
  go_enter Try.func80, Try.ntmps80
  go_wp2_with (first | (go_at_call 69; refine (within_yes _ _ _ _ ?_).mono ?_; (omega); rintro e w' ⟨rfl, rfl⟩) | (go_at_call 69; refine (within_no _ _ _ _ ?_).mono ?_; (omega); rintro e w' ⟨rfl, rfl⟩))
  go_ret
  exact ⟨rfl, rfl⟩
theorem isCarrier_no (n : Int) (w : World) (h : n < 1 ∨ 4 < n) :
    Calls Try.prog 80 #[.int .i64 n] w fun e w' => e = .returned (.bool false) ∧ w = w' := by
  go_enter Try.func80, Try.ntmps80
  go_wp2_with (first | (go_at_call 69; refine (within_yes _ _ _ _ ?_).mono ?_; (omega); rintro e w' ⟨rfl, rfl⟩) | (go_at_call 69; refine (within_no _ _ _ _ ?_).mono ?_; (omega); rintro e w' ⟨rfl, rfl⟩))
  go_ret
  exact ⟨rfl, rfl⟩
theorem l07Yarn_yes (n : Int) (w : World) (h : 1 ≤ n ∧ n ≤ 4) :
    Calls Try.prog 119 #[.int .i64 n] w fun e w' => e = .returned (.bool true) ∧ w = w' := by
  go_enter Try.func119, Try.ntmps119
  go_wp2_with (first | (go_at_call 47; refine (l00In_yes _ _ _ _ ?_).mono ?_; (omega); rintro e w' ⟨rfl, rfl⟩) | (go_at_call 47; refine (l00In_no _ _ _ _ ?_).mono ?_; (omega); rintro e w' ⟨rfl, rfl⟩))
  go_ret
  exact ⟨rfl, rfl⟩
theorem l07Yarn_no (n : Int) (w : World) (h : n < 1 ∨ 4 < n) :
    Calls Try.prog 119 #[.int .i64 n] w fun e w' => e = .returned (.bool false) ∧ w = w' := by
  go_enter Try.func119, Try.ntmps119
  go_wp2_with (first | (go_at_call 47; refine (l00In_yes _ _ _ _ ?_).mono ?_; (omega); rintro e w' ⟨rfl, rfl⟩) | (go_at_call 47; refine (l00In_no _ _ _ _ ?_).mono ?_; (omega); rintro e w' ⟨rfl, rfl⟩))
  go_ret
  exact ⟨rfl, rfl⟩
theorem isStitch_yes (n : Int) (w : World) (h : 1 ≤ n ∧ n ≤ 11) :
    Calls Try.prog 241 #[.int .i64 n] w fun e w' => e = .returned (.bool true) ∧ w = w' := by
  go_enter Try.func241, Try.ntmps241
  go_wp2_with (first | (go_at_call 69; refine (within_yes _ _ _ _ ?_).mono ?_; (omega); rintro e w' ⟨rfl, rfl⟩) | (go_at_call 69; refine (within_no _ _ _ _ ?_).mono ?_; (omega); rintro e w' ⟨rfl, rfl⟩))
  go_ret
  exact ⟨rfl, rfl⟩
theorem isStitch_no (n : Int) (w : World) (h : n < 1 ∨ 11 < n) :
    Calls Try.prog 241 #[.int .i64 n] w fun e w' => e = .returned (.bool false) ∧ w = w' := by
  go_enter Try.func241, Try.ntmps241
  go_wp2_with (first | (go_at_call 69; refine (within_yes _ _ _ _ ?_).mono ?_; (omega); rintro e w' ⟨rfl, rfl⟩) | (go_at_call 69; refine (within_no _ _ _ _ ?_).mono ?_; (omega); rintro e w' ⟨rfl, rfl⟩))
  go_ret
  exact ⟨rfl, rfl⟩
theorem l14Kind_yes (n : Int) (w : World) (h : 1 ≤ n ∧ n ≤ 11) :
    Calls Try.prog 237 #[.int .i64 n] w fun e w' => e = .returned (.bool true) ∧ w = w' := by
  go_enter Try.func237, Try.ntmps237
  go_wp2_with (first | (go_at_call 47; refine (l00In_yes _ _ _ _ ?_).mono ?_; (omega); rintro e w' ⟨rfl, rfl⟩) | (go_at_call 47; refine (l00In_no _ _ _ _ ?_).mono ?_; (omega); rintro e w' ⟨rfl, rfl⟩))
  go_ret
  exact ⟨rfl, rfl⟩
theorem l14Kind_no (n : Int) (w : World) (h : n < 1 ∨ 11 < n) :
    Calls Try.prog 237 #[.int .i64 n] w fun e w' => e = .returned (.bool false) ∧ w = w' := by
  go_enter Try.func237, Try.ntmps237
  go_wp2_with (first | (go_at_call 47; refine (l00In_yes _ _ _ _ ?_).mono ?_; (omega); rintro e w' ⟨rfl, rfl⟩) | (go_at_call 47; refine (l00In_no _ _ _ _ ?_).mono ?_; (omega); rintro e w' ⟨rfl, rfl⟩))
  go_ret
  exact ⟨rfl, rfl⟩
theorem l07Dir_yes (n : Int) (w : World) (h : n = 1 ∨ n = -1) :
    Calls Try.prog 159 #[.int .i64 n] w fun e w' => e = .returned (.bool true) ∧ w = w' := by
  rcases h with rfl | rfl
  all_goals
    go_enter Try.func159, Try.ntmps159
    go_wp2
    go_ret
    exact ⟨rfl, rfl⟩
theorem l07Dir_no (n : Int) (w : World) (h : n ≠ 1 ∧ n ≠ -1) :
    Calls Try.prog 159 #[.int .i64 n] w fun e w' => e = .returned (.bool false) ∧ w = w' := by
  have h1 : (n == 1) = false := by simpa using h.1
  have h2 : (n == -1) = false := by simpa using h.2
  clear h
  go_enter Try.func159, Try.ntmps159
  go_wp2
  go_ret
  exact ⟨rfl, rfl⟩
theorem isDirection_yes (n : Int) (w : World) (h : n = 1 ∨ n = -1) :
    Calls Try.prog 165 #[.int .i64 n] w fun e w' => e = .returned (.bool true) ∧ w = w' := by
  rcases h with rfl | rfl
  all_goals
    go_enter Try.func165, Try.ntmps165
    go_wp2
    go_ret
    exact ⟨rfl, rfl⟩
theorem isDirection_no (n : Int) (w : World) (h : n ≠ 1 ∧ n ≠ -1) :
    Calls Try.prog 165 #[.int .i64 n] w fun e w' => e = .returned (.bool false) ∧ w = w' := by
  have h1 : (n == 1) = false := by simpa using h.1
  have h2 : (n == -1) = false := by simpa using h.2
  clear h
  go_enter Try.func165, Try.ntmps165
  go_wp2
  go_ret
  exact ⟨rfl, rfl⟩
end Go.Proofs.Ytchfjglofmphfaa
