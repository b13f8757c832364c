/- How columns are moved: the reference's and the program's plans. No condition. The program's PlanMoves answers as the reference's, for all lists; its memory is its own. No condition. The reference's question, whether columns can be moved. No condition. Rows of stitches as plain data: the columns that stitches take and make; lists of numbers one after the other. No condition. Operations as data: slices of them; the laws' own helpers on them: equal, marked, held. No condition but room for the numbers. The operations with which loops go from a front needle to another one. Condition: small needles. Contracts of small tests on numbers: carriers, directions, places, kinds of stitches. No condition. Kinds of stitches and lists of them: the program's and the reference's tests and sums. No condition. Functions of the library on slices of numbers with a test; the program's test of a list of stitches; sums over lists. No condition. Stacks of columns: valid on both sides. No condition. -/
import Derived.Test.YtplabnjdhkmmkaaSteps
import Derived.Deep.RegionHeld3
import Derived.StillTailTactics
import Derived.Test.YtplabnjdhkmmkaaPF1
import Derived.Test.YtplabnjdhkmmkaaPF2
import Derived.Test.YtplabnjdhkmmkaaPF4
section
set_option linter.unusedSimpArgs false
set_option linter.unusedVariables false
set_option maxRecDepth 100000
set_option maxHeartbeats 4000000
namespace Go.Proofs.Ytplabnjdhkmmkaa
open Go.ChangeShapes Go.WideShapes Go.ChangeAt Go.RowKit
def ix (xs : List Int) (i : Nat) : Int := xs.getD i 0
theorem ix_eq {xs : List Int} {i : Nat} (h : i < xs.length) : ix xs i = xs[i] := by unfold ix; simp [h]
theorem Ints.ix {w : World} {S : Nat → Prop} {A : Option Addr} {c : Nat} {xs : List Int} (h : Ints w S (.slice A xs.length c) xs) {i : Nat} (hi : i < xs.length) :
    ∃ b o, A = some ⟨b, o, none⟩ ∧ b < w.heap.size ∧ ∀ j, j < xs.length → w.cell? ⟨b, o + j, none⟩ = some (.int .i64 (ix xs j)) := by
  obtain ⟨A', c', he, _, _, _, hr, _⟩ := h
  obtain ⟨rfl, rfl⟩ : A = A' ∧ c = c' := by simpa using he
  obtain ⟨b, o, hA, _, hbl, hc⟩ := hr (by omega)
  exact ⟨b, o, hA, hbl, fun j hj => by rw [ix_eq hj]; exact (hc j hj).1⟩
theorem places_in {tw : Bool} {xs : List Int} (h : placesB tw xs = true) {i : Nat} (hi : i < xs.length) : 0 ≤ ix xs i ∧ ix xs i ≤ 23 := by
  obtain ⟨h1, _⟩ := of_decide_eq_true h
  rw [ix_eq hi]
  exact ⟨(h1 i hi hi).1, (h1 i hi hi).2.1⟩
theorem places_short {tw : Bool} {xs : List Int} (h : placesB tw xs = true) : xs.length ≤ 8 := (of_decide_eq_true h).2
/-- no two columns are put together of which the second does not come from the right -/
def groupsTo (xs ys : List Int) (j : Nat) : Prop := ∀ i, i < j → 0 < i → i < ys.length → ¬ (ix ys i = ix ys (i - 1) ∧ ix xs i ≤ ix ys i)
instance (xs ys : List Int) (j : Nat) : Decidable (groupsTo xs ys j) := inferInstanceAs (Decidable (∀ i, i < j → _))
def groupsB (xs ys : List Int) : Bool := decide (groupsTo xs ys ys.length)
theorem groupsTo_succ {xs ys : List Int} {j : Nat} (h : groupsTo xs ys j) (hn : 0 < j → ¬ (ix ys j = ix ys (j - 1) ∧ ix xs j ≤ ix ys j)) : groupsTo xs ys (j + 1) := fun i hi h0 hl => by
  by_cases e : i = j
  · subst e; exact hn h0
  · exact h i (by omega) h0 hl
theorem groupsB_not {xs ys : List Int} {j : Nat} (hj : 0 < j) (hl : j < ys.length) (h : ix ys j = ix ys (j - 1) ∧ ix xs j ≤ ix ys j) : groupsB xs ys = false :=
  decide_eq_false fun hh => hh j hl hj hl h
/-- the moves of the columns that go to the right, from the last column on; of those that go to the left, from the first one on -/
def upAt (xs ys : List Int) (i : Nat) : List MoveM := if ix xs i < ix ys i then stepsM (ix xs i) (ix ys i) else []
def downAt (xs ys : List Int) (i : Nat) : List MoveM := if ix ys i < ix xs i then stepsM (ix xs i) (ix ys i) else []
def upTo (xs ys : List Int) (m : Nat) : List MoveM := (List.range m).flatMap fun r => upAt xs ys (xs.length - 1 - r)
def downTo (xs ys : List Int) (m : Nat) : List MoveM := (List.range m).flatMap fun i => downAt xs ys i
def planM (xs ys : List Int) : List MoveM := upTo xs ys xs.length ++ downTo xs ys xs.length
theorem upTo_succ (xs ys : List Int) (m : Nat) : upTo xs ys (m + 1) = upTo xs ys m ++ upAt xs ys (xs.length - 1 - m) := by simp [upTo, List.range_succ]
theorem downTo_succ (xs ys : List Int) (m : Nat) : downTo xs ys (m + 1) = downTo xs ys m ++ downAt xs ys m := by simp [downTo, List.range_succ]
theorem upAt_len (xs ys : List Int) (i : Nat) : (upAt xs ys i).length ≤ 24 := by
  unfold upAt; split
  · exact stepsF_length _ _ _
  · simp
theorem downAt_len (xs ys : List Int) (i : Nat) : (downAt xs ys i).length ≤ 24 := by
  unfold downAt; split
  · exact stepsF_length _ _ _
  · simp
theorem upTo_len (xs ys : List Int) : ∀ m, (upTo xs ys m).length ≤ 24 * m
  | 0 => by simp [upTo]
  | m + 1 => by
    have h1 := upTo_len xs ys m
    have h2 := upAt_len xs ys (xs.length - 1 - m)
    rw [upTo_succ, List.length_append]
    omega
theorem downTo_len (xs ys : List Int) : ∀ m, (downTo xs ys m).length ≤ 24 * m
  | 0 => by simp [downTo]
  | m + 1 => by
    have h1 := downTo_len xs ys m
    have h2 := downAt_len xs ys m
    rw [downTo_succ, List.length_append]
    omega
theorem l21Groups_any (w : World) (S T : Nat → Prop) (v u : Value) (xs ys : List Int) (h : Ints w S v xs) (h2 : Ints w T u ys) (hl : xs.length = ys.length) (hs : ys.length ≤ 8) :
    Calls Try.prog 59 #[v, u] w fun e w' => e = .returned (.bool (groupsB xs ys)) ∧ Drawn w w' := by
  obtain ⟨A, c, rfl, hlc, hcm, -⟩ := h.shape
  obtain ⟨A2, c2, rfl, hlc2, hcm2, -⟩ := h2.shape
  have H := Lib.hid h
  have H2 := Lib.hid h2
  clear h h2
  have HLen := Lib.hid hl
  clear hl
  go_enter Try.func59, Try.ntmps59
  go_wp2
  go_loopw [5] (fun i wr => ∃ j : Nat, j ≤ ys.length ∧ i = .int .i64 (j + 1) ∧ Hid (groupsTo xs ys (j + 1)) ∧ Drawn w wr) (fun i _ => ys.length - (intOf i).toNat)
  case atStart => exact ⟨0, by omega, rfl, fun i hi h0 => by omega, Drawn.refl _⟩
  case round =>
    obtain ⟨j, hj, rfl, hp, hd⟩ := hrel
    by_cases hlt : j + 1 < ys.length
    · obtain ⟨b, o, rfl, -, hc⟩ := H.out.ix (i := j + 1) (by rw [HLen.out]; exact hlt)
      obtain ⟨b2, o2, rfl, -, hc2⟩ := H2.out.ix (i := j + 1) hlt
      have f1 := hd.cell (hc (j + 1) (by rw [HLen.out]; exact hlt))
      have f2 := hd.cell (hc2 (j + 1) hlt)
      have f3 := hd.cell (hc2 j (by omega))
      have hxl : ((j : Int) + 1) < xs.length := by rw [HLen.out]; omega
      clear hc hc2
      by_cases he : ix ys (j + 1) = ix ys j
      · have hd1 : (ix ys (j + 1) == ix ys j) = true := by simpa using he
        by_cases hle : ix xs (j + 1) ≤ ix ys (j + 1)
        · have hd2 : decide (ix xs (j + 1) ≤ ix ys (j + 1)) = true := decide_eq_true hle
          have HB := Lib.hid (groupsB_not (xs := xs) (j := j + 1) (by omega) hlt ⟨by simpa using he, hle⟩)
          clear he hle
          go_wp2
          go_quiet (fail)
          go_wp2
          go_ret
          exact ⟨ret_bool HB.out.symm, hd.drewN _⟩
        · have hd2 : decide (ix xs (j + 1) ≤ ix ys (j + 1)) = false := decide_eq_false hle
          have HB := Lib.hid (groupsTo_succ hp.out (fun _ hh => hle hh.2))
          clear he hle
          go_wp2
          go_quiet (fail)
          go_wp2
          go_roundw
          case rel => exact ⟨j + 1, by omega, by go_num, HB, hd.drewN _⟩
          case measure => first | (simp [intOf]; done) | (simp [intOf]; omega)
      · have hd1 : (ix ys (j + 1) == ix ys j) = false := by simpa using he
        have HB := Lib.hid (groupsTo_succ hp.out (fun _ hh => he (by simpa using hh.1)))
        clear he
        go_wp2
        go_quiet (fail)
        go_wp2
        go_roundw
        case rel => exact ⟨j + 1, by omega, by go_num, HB, hd.drewN _⟩
        case measure => first | (simp [intOf]; done) | (simp [intOf]; omega)
    · have HB := Lib.hid (show groupsB xs ys = true from decide_eq_true (fun i hi h0 hl => hp.out i (by omega) h0 hl))
      go_wp2
      go_ret
      exact ⟨ret_bool HB.out.symm, hd⟩
def PlanOk (xs ys : List Int) : Prop := xs.length = ys.length ∧ xs.length ≤ 8 ∧ (∀ i, i < xs.length → 0 ≤ ix xs i ∧ ix xs i ≤ 23) ∧ (∀ i, i < xs.length → 0 ≤ ix ys i ∧ ix ys i ≤ 23)
end Go.Proofs.Ytplabnjdhkmmkaa
end
section
set_option linter.unusedSimpArgs false
set_option linter.unusedVariables false
set_option maxRecDepth 100000
set_option maxHeartbeats 16000000
namespace Go.Proofs.Ytplabnjdhkmmkaa
open Go.ChangeShapes Go.WideShapes Go.ChangeAt Go.RowKit
def planCode (xs ys : List Int) : Int := if placesB false xs = true ∧ placesB true ys = true ∧ xs.length = ys.length then (if groupsB xs ys = true then 0 else 12) else 1
def planOut (xs ys : List Int) : List MoveM := if planCode xs ys = 0 then planM xs ys else []
theorem planCode_ok {xs ys : List Int} (h1 : placesB false xs = true) (h2 : placesB true ys = true) (h3 : xs.length = ys.length) (h4 : groupsB xs ys = true) : planCode xs ys = 0 := by unfold planCode; rw [if_pos ⟨h1, h2, h3⟩, if_pos h4]
theorem planCode_12 {xs ys : List Int} (h1 : placesB false xs = true) (h2 : placesB true ys = true) (h3 : xs.length = ys.length) (h4 : groupsB xs ys = false) : planCode xs ys = 12 := by unfold planCode; rw [if_pos ⟨h1, h2, h3⟩, if_neg (by simp [h4])]
theorem planCode_1 {xs ys : List Int} (h : placesB false xs = false ∨ placesB true ys = false ∨ xs.length ≠ ys.length) : planCode xs ys = 1 := by
  unfold planCode
  rw [if_neg]
  rintro ⟨h1, h2, h3⟩
  rcases h with h | h | h
  · simp [h1] at h
  · simp [h2] at h
  · exact h h3
theorem planOut_ok {xs ys : List Int} (h : planCode xs ys = 0) : planOut xs ys = planM xs ys := if_pos h
theorem planOut_no {xs ys : List Int} {c : Int} (h : planCode xs ys = c) (hc : c ≠ 0) : planOut xs ys = [] := if_neg (by rw [h]; exact hc)
theorem planOk_of {xs ys : List Int} (h1 : placesB false xs = true) (h2 : placesB true ys = true) (h3 : xs.length = ys.length) : PlanOk xs ys :=
  ⟨h3, places_short h1, fun i hi => places_in h1 hi, fun i hi => places_in h2 (by omega)⟩
theorem OwnMoves.upMade {w w1 : World} (h : Up w w1) : OwnMoves (w1.alloc (.cells #[] 48)) w.heap.size (.slice (some ⟨w1.heap.size, 0, none⟩) 0 0) [] := OwnMoves.made w1 _ h.size
theorem planM_len {xs ys : List Int} (h : xs.length ≤ 8) : (planM xs ys).length ≤ 384 := by
  unfold planM
  rw [List.length_append]
  have h1 := upTo_len xs ys xs.length
  have h2 := downTo_len xs ys xs.length
  omega
theorem ret_mi {v : Value} {a b : Int} (h : a = b) : Ending.returned (.tuple #[v, .int .i64 a]) = .returned (.tuple #[v, .int .i64 b]) := by rw [h]
theorem PlanMoves_any (w : World) (S T : Nat → Prop) (v u : Value) (xs ys : List Int) (h : Ints w S v xs) (h2 : Ints w T u ys) :
    Calls Try.prog 8 #[v, u] w fun e w' => ∃ v', e = .returned (.tuple #[v', .int .i64 (planCode xs ys)]) ∧ Moves w' (New w.heap.size w'.heap.size) v' (planOut xs ys) ∧ Up w w' := by
  obtain ⟨A, c, rfl, hlc, hcm, -⟩ := h.shape
  obtain ⟨A2, c2, rfl, hlc2, hcm2, -⟩ := h2.shape
  have H := Lib.hid h
  have H2 := Lib.hid h2
  clear h h2
  by_cases hp1 : placesB false xs = true
  rotate_left
  · have hp1' := Bool.eq_false_iff.2 hp1
    have HC := Lib.hid (planCode_1 (ys := ys) (.inl hp1'))
    have HP1 := Lib.hid hp1'
    clear hp1 hp1'
    rw [planOut_no HC.out (by omega), HC.out]
    go_enter Try.func8, Try.ntmps8
    go_wp2_with fail
    refine (ValidPlaces_any _ S _ xs H.out).mono ?_
    rintro e w1 ⟨rfl, rfl⟩
    rw [HP1.out]
    go_wp2
    go_ret2
    exact ⟨_, rfl, Moves.nil _ _ _ _ (by omega), Chg.refl _ _⟩
  by_cases hln : ys.length = xs.length
  rotate_left
  · have HC := Lib.hid (planCode_1 (xs := xs) (ys := ys) (.inr (.inr (fun h => hln h.symm))))
    have hne : ((ys.length : Int) != xs.length) = true := by
      rw [bne_iff_ne]
      intro h
      exact hln (by omega)
    have HP1 := Lib.hid hp1
    clear hp1 hln
    rw [planOut_no HC.out (by omega), HC.out]
    go_enter Try.func8, Try.ntmps8
    go_wp2_with fail
    refine (ValidPlaces_any _ S _ xs H.out).mono ?_
    rintro e w1 ⟨rfl, rfl⟩
    rw [HP1.out]
    go_wp2
    go_ret2
    exact ⟨_, rfl, Moves.nil _ _ _ _ (by omega), Chg.refl _ _⟩
  have hne : ((ys.length : Int) != xs.length) = false := by
    rw [bne_eq_false_iff_eq]
    omega
  have hs8 := places_short hp1
  have hy8 : ys.length ≤ 8 := by omega
  have hge : xs.length ≤ ys.length ∧ ys.length ≤ xs.length := by omega
  obtain ⟨hge1, hge2⟩ := hge
  have HLen := Lib.hid hln
  have HP1 := Lib.hid hp1
  clear hp1 hln
  go_enter Try.func8, Try.ntmps8
  go_wp2_with fail
  refine (ValidPlaces_any _ S _ xs H.out).mono ?_
  rintro e w1 ⟨rfl, rfl⟩
  rw [HP1.out]
  go_wp2
  go_loop [6, 7, 24] (fun _ _ i => ∃ j : Nat, j ≤ ys.length ∧ i = .int .i64 j ∧ Hid (placesTo true ys j)) (fun _ _ i => ys.length - (intOf i).toNat)
  case atStart => exact ⟨0, by omega, rfl, placesTo_zero _ _⟩
  case round =>
    obtain ⟨j, hj, rfl, hp⟩ := hrel
    by_cases hlt : j < ys.length
    · obtain ⟨b, o, rfl, hbx, hc⟩ := H2.out.ix (i := j) hlt
      have hcj := hc j hlt
      have ej := ix_eq hlt
      by_cases hin : 0 ≤ ix ys j ∧ ix ys j ≤ 23
      · by_cases h0 : 0 < j
        · obtain ⟨i, rfl⟩ : ∃ i, j = i + 1 := ⟨j - 1, by omega⟩
          have hci := hc i (by omega)
          have ei := ix_eq (show i < ys.length by omega)
          by_cases hlo : ix ys (i + 1) < ix ys i
          · have hB : placesB true ys = false := placesB_not (twice := true) hlt (by
              rintro ⟨_, _, h3⟩
              have := h3 (by omega)
              simp only [Nat.add_sub_cancel] at this
              omega)
            have HC := Lib.hid (planCode_1 (xs := xs) (ys := ys) (.inr (.inl hB)))
            clear hc ej ei hB
            go_wp2_with (first | (go_at_call 31; refine (isAt_yes _ _ ?_).mono ?_; (exact hin); rintro e w' ⟨rfl, rfl⟩))
            go_ret2
            exact ⟨_, ret_mi HC.out.symm, by rw [planOut_no HC.out (by omega)]; exact Moves.nil _ _ _ _ (by omega), Chg.refl _ _⟩
          · have hN := placesTo_succ (twice := true) (h := hlt) hp.out (by omega) (fun _ => by simp only [Nat.add_sub_cancel, true_and]; omega)
            have HN := Lib.hid hN
            clear hc ej ei hN
            go_wp2_with (first | (go_at_call 31; refine (isAt_yes _ _ ?_).mono ?_; (exact hin); rintro e w' ⟨rfl, rfl⟩))
            go_round
            case rel => exact ⟨i + 2, by omega, by go_num, HN⟩
            case measure => first | (simp [intOf]; done) | (simp [intOf]; omega)
        · obtain rfl : j = 0 := by omega
          rw [Nat.add_zero] at hcj
          have HN := Lib.hid (placesTo_succ (twice := true) (h := hlt) hp.out (by omega) (fun h => absurd h (by omega)))
          clear hc ej
          go_wp2_with (first | (go_at_call 31; refine (isAt_yes _ _ ?_).mono ?_; (exact hin); rintro e w' ⟨rfl, rfl⟩))
          go_round
          case rel => exact ⟨1, by omega, by go_num, HN⟩
          case measure => first | (simp [intOf]; done) | (simp [intOf]; omega)
      · have hB : placesB true ys = false := placesB_not (twice := true) hlt (by rintro ⟨h1, h2, _⟩; omega)
        have HC := Lib.hid (planCode_1 (xs := xs) (ys := ys) (.inr (.inl hB)))
        have hin' : ix ys j < 0 ∨ 23 < ix ys j := by omega
        clear hc ej hB
        go_wp2_with (first | (go_at_call 31; refine (isAt_no _ _ ?_).mono ?_; (exact hin'); rintro e w' ⟨rfl, rfl⟩))
        go_ret2
        exact ⟨_, ret_mi HC.out.symm, by rw [planOut_no HC.out (by omega)]; exact Moves.nil _ _ _ _ (by omega), Chg.refl _ _⟩
    · obtain rfl : j = ys.length := by omega
      have hp2 : placesB true ys = true := decide_eq_true ⟨hp.out, hy8⟩
      have HK := Lib.hid (planOk_of HP1.out hp2 HLen.out.symm)
      have HP2 := Lib.hid hp2
      clear hp2 hp
      go_wp2
      go_loopw [8, 48] (fun _ i wr => ∃ j : Nat, j ≤ ys.length ∧ i = .int .i64 j ∧ Hid (groupsTo xs ys j) ∧ Drawn w wr) (fun _ i _ => ys.length - (intOf i).toNat)
      case atStart => exact ⟨0, by omega, rfl, fun i hi => by omega, Drawn.refl _⟩
      case round =>
        obtain ⟨j, hj2, rfl, hp, hd⟩ := hrel
        by_cases hlt2 : j < ys.length
        · obtain ⟨b, o, rfl, hbx, hc⟩ := H.out.ix (i := j) (by omega)
          obtain ⟨b2, o2, rfl, hbx2, hc2⟩ := H2.out.ix (i := j) hlt2
          by_cases h0 : 0 < j
          · obtain ⟨i, rfl⟩ : ∃ i, j = i + 1 := ⟨j - 1, by omega⟩
            have f1 := hd.cell (hc (i + 1) (by omega))
            have f2 := hd.cell (hc2 (i + 1) hlt2)
            have f3 := hd.cell (hc2 i (by omega))
            have hxl : ((i : Int) + 1) < xs.length := by omega
            have hd0 : decide ((0 : Int) < (i : Int) + 1) = true := decide_eq_true (by omega)
            clear hc hc2
            by_cases he : ix ys (i + 1) = ix ys i
            · have hd1 : (ix ys (i + 1) == ix ys i) = true := by simpa using he
              by_cases hle : ix xs (i + 1) ≤ ix ys (i + 1)
              · have hd2 : decide (ix xs (i + 1) ≤ ix ys (i + 1)) = true := decide_eq_true hle
                have HC := Lib.hid (planCode_12 HP1.out HP2.out HLen.out.symm (groupsB_not (xs := xs) (j := i + 1) (by omega) hlt2 ⟨by simpa using he, hle⟩))
                clear he hle
                go_wp2
                go_quiet (fail)
                go_wp2
                go_ret2
                exact ⟨_, ret_mi HC.out.symm, by rw [planOut_no HC.out (by omega)]; exact Moves.nil _ _ _ _ (by omega), (hd.drewN _).up⟩
              · have hd2 : decide (ix xs (i + 1) ≤ ix ys (i + 1)) = false := decide_eq_false hle
                have HB := Lib.hid (groupsTo_succ hp.out (fun _ hh => hle hh.2))
                clear he hle
                go_wp2
                go_quiet (fail)
                go_wp2
                go_roundw
                case rel => exact ⟨i + 2, by omega, by go_num, HB, hd.drewN _⟩
                case measure => first | (simp [intOf]; done) | (simp [intOf]; omega)
            · have hd1 : (ix ys (i + 1) == ix ys i) = false := by simpa using he
              have HB := Lib.hid (groupsTo_succ hp.out (fun _ hh => he (by simpa using hh.1)))
              clear he
              go_wp2
              go_quiet (fail)
              go_wp2
              go_roundw
              case rel => exact ⟨i + 2, by omega, by go_num, HB, hd.drewN _⟩
              case measure => first | (simp [intOf]; done) | (simp [intOf]; omega)
          · obtain rfl : j = 0 := by omega
            have HB := Lib.hid (groupsTo_succ hp.out (fun h => absurd h (by omega)))
            clear hc hc2
            go_wp2
            go_quiet (fail)
            go_wp2
            go_roundw
            case rel => exact ⟨1, by omega, by go_num, HB, hd.drewN _⟩
            case measure => first | (simp [intOf]; done) | (simp [intOf]; omega)
        · have hgb : groupsB xs ys = true := decide_eq_true (fun i hi h0 hl => hp.out i (by omega) h0 hl)
          have HC := Lib.hid (planCode_ok HP1.out HP2.out HLen.out.symm hgb)
          have HU0 := Lib.hid hd.up
          clear hgb hp
          go_wp2
          go_loopw [9, 10] (fun v i wr => ∃ m : Nat, m ≤ xs.length ∧ i = .int .i64 ((xs.length : Int) - 1 - m) ∧ Hid (OwnMoves wr w.heap.size v (upTo xs ys m)) ∧ Hid (Up w wr)) (fun _ i _ => (intOf i + 1).toNat)
          case atStart => exact ⟨0, by omega, by simp, OwnMoves.upMade HU0.out, Chg.alloc HU0.out _⟩
          clear HU0 hd
          case round =>
            obtain ⟨m, hm, rfl, ho, hg⟩ := hrel
            by_cases hlt3 : m < xs.length
            · obtain ⟨i, hi⟩ : ∃ i : Nat, i = xs.length - 1 - m := ⟨_, rfl⟩
              have hiI : (xs.length : Int) - 1 - m = i := by omega
              have hil : i < xs.length := by omega
              have HI := Lib.hid hi
              rw [hiI]
              obtain ⟨b, o, rfl, hbx, hc0⟩ := H.out.ix (i := i) hil
              have hc := fun j hj => hg.out.cell (hc0 j hj) id
              obtain ⟨b2, o2, rfl, hbx2, hc20⟩ := H2.out.ix (i := i) (by omega)
              have hc2 := fun j hj => hg.out.cell (hc20 j hj) id
              have f1 := hc i hil
              have f2 := hc2 i (by omega)
              have hb1 := HK.out.2.2.1 i hil
              have hb2 := HK.out.2.2.2 i hil
              have HIm := Lib.hid hiI
              have hg0 : (0 : Int) ≤ i := by omega
              have hxl : (i : Int) < xs.length ∧ (i : Int) < ys.length := by omega
              obtain ⟨hxl1, hxl2⟩ := hxl
              clear hc hc2 hc0 hc20 hi hiI
              by_cases hup : ix xs i < ix ys i
              · have hd1 : decide (ix xs i < ix ys i) = true := decide_eq_true hup
                have HU := Lib.hid (show upAt xs ys i = stepsM (ix xs i) (ix ys i) from if_pos hup)
                clear hup
                go_wp2
                go_quiet (fail)
                go_wp2
                generalize hwz : wr.drewN nq = wz
                have e1 : wz.cell? ⟨b, o + i, none⟩ = some (.int .i64 (ix xs i)) := by rw [← hwz]; exact f1
                have e2 : wz.cell? ⟨b2, o2 + i, none⟩ = some (.int .i64 (ix ys i)) := by rw [← hwz]; exact f2
                have HOz := Lib.hid (show OwnMoves wz w.heap.size _ _ from by rw [← hwz]; exact ho.out.up ((Chg.refl Nowhere wr).drewN nq))
                have HGz := Lib.hid (show Up w wz from by rw [← hwz]; exact Chg.drewN hg.out nq)
                clear f1 f2 hwz ho hg
                go_still_tail 9, (by kernel_rfl)
                go_wp2_with fail
                refine (steps_any _ w.heap.size _ (upTo xs ys m) (ix xs i) (ix ys i) hb1 hb2 (OwnMoves.up HOz.out ((Chg.refl Nowhere wz).drew)) (by have := (Chg.drew HGz.out).size; exact this) (by
                  have h1 := upTo_len xs ys m
                  omega)).mono ?_
                rintro e w1 ⟨v1, rfl, k1, g1⟩
                have HO := Lib.hid k1
                have HG := Lib.hid (Chg.new (Chg.drew HGz.out) g1 (fun i hi => by omega))
                clear k1 g1 HOz HGz e1 e2
                go_wp2
                go_roundw
                case rel => exact ⟨m + 1, by omega, by have := HIm.out; rw [show ((i : Int) - 1) = (xs.length : Int) - 1 - ((m + 1 : Nat) : Int) by omega], by rw [upTo_succ, ← HI.out, HU.out]; exact HO.out, HG.out⟩
                case measure => first | (simp [intOf]; done) | (simp [intOf]; omega)
              · have hd1 : decide (ix xs i < ix ys i) = false := decide_eq_false hup
                have HU := Lib.hid (show upAt xs ys i = [] from if_neg hup)
                clear hup
                go_wp2
                go_quiet (fail)
                go_wp2
                go_roundw
                case rel => exact ⟨m + 1, by omega, by have := HIm.out; rw [show ((i : Int) - 1) = (xs.length : Int) - 1 - ((m + 1 : Nat) : Int) by omega], by rw [upTo_succ, ← HI.out, HU.out, List.append_nil]; exact ho.out.up ((Chg.refl Nowhere wr).drewN _), Chg.drewN hg.out _⟩
                case measure => first | (simp [intOf]; done) | (simp [intOf]; omega)
            · obtain rfl : m = xs.length := by omega
              have hng : ¬ (0 : Int) ≤ (xs.length : Int) - 1 - xs.length := by omega
              go_wp2
              go_loopw [9, 11, 106] (fun v _ i wr => ∃ j : Nat, j ≤ xs.length ∧ i = .int .i64 j ∧ Hid (OwnMoves wr w.heap.size v (upTo xs ys xs.length ++ downTo xs ys j)) ∧ Hid (Up w wr)) (fun _ _ i _ => xs.length - (intOf i).toNat)
              case atStart => exact ⟨0, by omega, rfl, by simpa [Hid, downTo] using ho, hg⟩
              clear ho hg hng
              case round =>
                obtain ⟨i, hi, rfl, ho, hg⟩ := hrel
                by_cases hil : i < xs.length
                · obtain ⟨b, o, rfl, hbx, hc0⟩ := H.out.ix (i := i) hil
                  have hc := fun j hj => hg.out.cell (hc0 j hj) id
                  obtain ⟨b2, o2, rfl, hbx2, hc20⟩ := H2.out.ix (i := i) (by omega)
                  have hc2 := fun j hj => hg.out.cell (hc20 j hj) id
                  have f1 := hc i hil
                  have f2 := hc2 i (by omega)
                  have hb1 := HK.out.2.2.1 i hil
                  have hb2 := HK.out.2.2.2 i hil
                  have hxl : (i : Int) < xs.length ∧ (i : Int) < ys.length := by omega
                  obtain ⟨hxl1, hxl2⟩ := hxl
                  clear hc hc2 hc0 hc20
                  by_cases hup : ix ys i < ix xs i
                  · have hd1 : decide (ix ys i < ix xs i) = true := decide_eq_true hup
                    have HU := Lib.hid (show downAt xs ys i = stepsM (ix xs i) (ix ys i) from if_pos hup)
                    clear hup
                    go_wp2
                    go_quiet (fail)
                    go_wp2
                    generalize hwz : wr.drewN nq = wz
                    have e1 : wz.cell? ⟨b, o + i, none⟩ = some (.int .i64 (ix xs i)) := by rw [← hwz]; exact f1
                    have e2 : wz.cell? ⟨b2, o2 + i, none⟩ = some (.int .i64 (ix ys i)) := by rw [← hwz]; exact f2
                    have HOz := Lib.hid (show OwnMoves wz w.heap.size _ _ from by rw [← hwz]; exact ho.out.up ((Chg.refl Nowhere wr).drewN nq))
                    have HGz := Lib.hid (show Up w wz from by rw [← hwz]; exact Chg.drewN hg.out nq)
                    clear f1 f2 hwz ho hg
                    go_still_tail 9, (by kernel_rfl)
                    go_wp2_with fail
                    refine (steps_any _ w.heap.size _ (upTo xs ys xs.length ++ downTo xs ys i) (ix xs i) (ix ys i) hb1 hb2 (OwnMoves.up HOz.out ((Chg.refl Nowhere wz).drew)) (by have := (Chg.drew HGz.out).size; exact this) (by
                      rw [List.length_append]
                      have h0 := upTo_len xs ys xs.length
                      have h1 := downTo_len xs ys i
                      omega)).mono ?_
                    rintro e w1 ⟨v1, rfl, k1, g1⟩
                    have HO := Lib.hid k1
                    have HG := Lib.hid (Chg.new (Chg.drew HGz.out) g1 (fun i hi => by omega))
                    clear k1 g1 HOz HGz e1 e2
                    go_wp2
                    go_roundw
                    case rel => exact ⟨i + 1, by omega, by go_num, by rw [downTo_succ, HU.out, ← List.append_assoc]; exact HO.out, HG.out⟩
                    case measure => first | (simp [intOf]; done) | (simp [intOf]; omega)
                  · have hd1 : decide (ix ys i < ix xs i) = false := decide_eq_false hup
                    have HU := Lib.hid (show downAt xs ys i = [] from if_neg hup)
                    clear hup
                    go_wp2
                    go_quiet (fail)
                    go_wp2
                    go_roundw
                    case rel => exact ⟨i + 1, by omega, by go_num, by rw [downTo_succ, HU.out, List.append_nil]; exact ho.out.up ((Chg.refl Nowhere wr).drewN _), Chg.drewN hg.out _⟩
                    case measure => first | (simp [intOf]; done) | (simp [intOf]; omega)
                · obtain rfl : i = xs.length := by omega
                  go_wp2
                  go_ret2
                  exact ⟨_, ret_mi HC.out.symm, by rw [planOut_ok HC.out]; exact ho.out.rd, hg.out⟩
end Go.Proofs.Ytplabnjdhkmmkaa
end
section
set_option linter.unusedSimpArgs false
set_option linter.unusedVariables false
set_option maxHeartbeats 4000000
namespace Go.Proofs.Ytplabnjdhkmmkaa
open Go.ChangeShapes Go.WideShapes Go.ChangeAt Go.RowKit
theorem l21Ask_any (w : World) (S T : Nat → Prop) (v u : Value) (xs ys : List Int) (h : Ints w S v xs) (h2 : Ints w T u ys) :
    Calls Try.prog 26 #[v, u] w fun e w' => e = .returned (.int .i64 (planCode xs ys)) ∧ Drawn w w' := by
  obtain ⟨A, c, rfl, hlc, hcm, -⟩ := h.shape
  obtain ⟨A2, c2, rfl, hlc2, hcm2, -⟩ := h2.shape
  have H := Lib.hid h
  have H2 := Lib.hid h2
  clear h h2
  by_cases hp1 : placesB false xs = true
  rotate_left
  · have hp1' := Bool.eq_false_iff.2 hp1
    have HC := Lib.hid (planCode_1 (ys := ys) (.inl hp1'))
    have HP1 := Lib.hid hp1'
    clear hp1 hp1'
    rw [HC.out]
    go_enter Try.func26, Try.ntmps26
    go_wp2_with fail
    refine (l21Places_any _ S _ xs _ H.out).mono ?_
    rintro e w1 ⟨rfl, g1⟩
    rw [HP1.out]
    go_wp2
    go_ret
    exact ⟨rfl, g1⟩
  have HP1 := Lib.hid hp1
  clear hp1
  by_cases hp2 : placesB true ys = true
  rotate_left
  · have hp2' := Bool.eq_false_iff.2 hp2
    have HC := Lib.hid (planCode_1 (xs := xs) (.inr (.inl hp2')))
    have HP2 := Lib.hid hp2'
    clear hp2 hp2'
    rw [HC.out]
    go_enter Try.func26, Try.ntmps26
    go_wp2_with fail
    refine (l21Places_any _ S _ xs _ H.out).mono ?_
    rintro e w1 ⟨rfl, g1⟩
    rw [HP1.out]
    go_wp2_with fail
    refine (l21Places_any _ T _ ys _ (H2.out.up g1.up)).mono ?_
    rintro e w2 ⟨rfl, g2⟩
    rw [HP2.out]
    go_wp2
    go_ret
    exact ⟨rfl, g1.trans g2⟩
  have HP2 := Lib.hid hp2
  clear hp2
  by_cases hln : xs.length = ys.length
  rotate_left
  · have HC := Lib.hid (planCode_1 (xs := xs) (ys := ys) (.inr (.inr hln)))
    have hne : ((xs.length : Int) != ys.length) = true := by
      rw [bne_iff_ne]
      intro h
      exact hln (by omega)
    clear hln
    rw [HC.out]
    go_enter Try.func26, Try.ntmps26
    go_wp2_with fail
    refine (l21Places_any _ S _ xs _ H.out).mono ?_
    rintro e w1 ⟨rfl, g1⟩
    rw [HP1.out]
    go_wp2_with fail
    refine (l21Places_any _ T _ ys _ (H2.out.up g1.up)).mono ?_
    rintro e w2 ⟨rfl, g2⟩
    rw [HP2.out]
    go_wp2
    go_ret
    exact ⟨rfl, g1.trans g2⟩
  have hne : ((xs.length : Int) != ys.length) = false := by
    rw [bne_eq_false_iff_eq]
    omega
  have hy8 := places_short HP2.out
  have HLen := Lib.hid hln
  clear hln
  cases hgb : groupsB xs ys with
  | false =>
    have HC := Lib.hid (planCode_12 HP1.out HP2.out HLen.out hgb)
    have HGB := Lib.hid hgb
    clear hgb
    rw [HC.out]
    go_enter Try.func26, Try.ntmps26
    go_wp2_with fail
    refine (l21Places_any _ S _ xs _ H.out).mono ?_
    rintro e w1 ⟨rfl, g1⟩
    rw [HP1.out]
    go_wp2_with fail
    refine (l21Places_any _ T _ ys _ (H2.out.up g1.up)).mono ?_
    rintro e w2 ⟨rfl, g2⟩
    rw [HP2.out]
    go_wp2_with fail
    refine (l21Groups_any _ S T _ _ xs ys (H.out.up (g1.trans g2).up) (H2.out.up (g1.trans g2).up) HLen.out hy8).mono ?_
    rintro e w3 ⟨rfl, g3⟩
    rw [HGB.out]
    go_wp2
    go_ret
    exact ⟨rfl, (g1.trans g2).trans g3⟩
  | true =>
    have HC := Lib.hid (planCode_ok HP1.out HP2.out HLen.out hgb)
    have HGB := Lib.hid hgb
    clear hgb
    rw [HC.out]
    go_enter Try.func26, Try.ntmps26
    go_wp2_with fail
    refine (l21Places_any _ S _ xs _ H.out).mono ?_
    rintro e w1 ⟨rfl, g1⟩
    rw [HP1.out]
    go_wp2_with fail
    refine (l21Places_any _ T _ ys _ (H2.out.up g1.up)).mono ?_
    rintro e w2 ⟨rfl, g2⟩
    rw [HP2.out]
    go_wp2_with fail
    refine (l21Groups_any _ S T _ _ xs ys (H.out.up (g1.trans g2).up) (H2.out.up (g1.trans g2).up) HLen.out hy8).mono ?_
    rintro e w3 ⟨rfl, g3⟩
    rw [HGB.out]
    go_wp2
    go_ret
    exact ⟨rfl, (g1.trans g2).trans g3⟩
end Go.Proofs.Ytplabnjdhkmmkaa
end
section
set_option linter.unusedSimpArgs false
set_option linter.unusedVariables false
namespace Go.Proofs.Ytplabnjdhkmmkaa
def kindB (k : Int) : Bool := inB k 1 11
def takenK (k : Int) : Int := if k = 3 then 0 else if k = 4 ∨ k = 5 ∨ k = 8 ∨ k = 9 then 2 else if k = 10 ∨ k = 11 then 4 else 1
def madeK (k : Int) : Int := if k = 8 ∨ k = 9 then 2 else if k = 10 ∨ k = 11 then 4 else 1
theorem takenK_bd (k : Int) : 0 ≤ takenK k ∧ takenK k ≤ 4 := by unfold takenK; split <;> (try split) <;> (try split) <;> omega
theorem madeK_bd (k : Int) : 1 ≤ madeK k ∧ madeK k ≤ 4 := by unfold madeK; split <;> (try split) <;> omega
def sumF (f : Int → Int) : List Int → Int
  | [] => 0
  | x :: xs => f x + sumF f xs
theorem sumF_append (f : Int → Int) : ∀ xs ys, sumF f (xs ++ ys) = sumF f xs + sumF f ys
  | [], ys => by simp [sumF]
  | x :: xs, ys => by simp only [List.cons_append, sumF, sumF_append f xs ys]; omega
theorem sumF_take (f : Int → Int) {xs : List Int} {j : Nat} (h : j < xs.length) : sumF f (xs.take (j + 1)) = sumF f (xs.take j) + f xs[j] := by
  rw [List.take_succ_eq_append_getElem h, sumF_append]; simp [sumF]
theorem sumF_bd (f : Int → Int) (lo hi : Int) (hlo : lo ≤ 0) (hf : ∀ x, lo ≤ f x ∧ f x ≤ hi) : ∀ xs : List Int, lo * xs.length ≤ sumF f xs ∧ sumF f xs ≤ hi * xs.length
  | [] => by simp [sumF]
  | x :: xs => by
    have h1 := sumF_bd f lo hi hlo hf xs
    have h2 := hf x
    simp only [sumF, List.length_cons, Int.natCast_add, Int.natCast_one, Int.mul_add, Int.mul_one]
    omega
def stB (xs : List Int) : Bool := xs.all kindB && decide (xs.length ≤ 16)
theorem stB_kind {xs : List Int} (h : stB xs = true) : ∀ x ∈ xs, kindB x = true := by
  unfold stB at h; rw [Bool.and_eq_true] at h; exact List.all_eq_true.1 h.1
/-- a row that is laid out -/
structure LaidRow (d c : Int) (xs : List Int) : Prop where
  dir : d = 1 ∨ d = -1
  car : 1 ≤ c ∧ c ≤ 4
  len : xs.length ≤ 16
  kind : ∀ x ∈ xs, kindB x = true
  taken : 1 ≤ sumF takenK xs ∧ sumF takenK xs ≤ 8
  made : 1 ≤ sumF madeK xs ∧ sumF madeK xs ≤ 8
end Go.Proofs.Ytplabnjdhkmmkaa
end
section
set_option linter.unusedSimpArgs false
set_option linter.unusedVariables false
namespace Go.Proofs.Ytplabnjdhkmmkaa
open Go.ChangeShapes Go.WideShapes Go.ChangeAt Go.RowKit
/-- an operation: Kind, Dir, From (Bed, At), To (Bed, At), Carrier, Rack -/
structure OpM where
  kind : Int
  dir : Int
  fb : Int
  fa : Int
  tb : Int
  ta : Int
  car : Int
  rack : Int
def OpM.cells (x : OpM) : List Value := [.int .i64 x.kind, .int .i64 x.dir, .int .i64 x.fb, .int .i64 x.fa, .int .i64 x.tb, .int .i64 x.ta, .int .i64 x.car, .int .i64 x.rack]
def OpM.ok (x : OpM) : Prop := I64 x.kind ∧ I64 x.dir ∧ I64 x.fb ∧ I64 x.fa ∧ I64 x.tb ∧ I64 x.ta ∧ I64 x.car ∧ I64 x.rack
theorem OpM.cells_length (x : OpM) : x.cells.length = 8 := rfl
abbrev OpM.val (x : OpM) : Value := .agg #[.int .i64 x.kind, .int .i64 x.dir, .int .i64 x.fb, .int .i64 x.fa, .int .i64 x.tb, .int .i64 x.ta, .int .i64 x.car, .int .i64 x.rack]
/-- a slice of operations that reads as the list xs -/
def Ops (w : World) (S : Nat → Prop) (v : Value) (xs : List OpM) : Prop := Raw w S 8 v xs.length (xs.flatMap OpM.cells) ∧ ∀ x ∈ xs, x.ok
section
variable {S T : Nat → Prop} {w w' : World} {v : Value} {xs : List OpM}
theorem Ops.keep (h : Ops w S v xs) (g : Chg T w w') (hd : ∀ b, b < w.heap.size → S b → ¬ T b) : Ops w' S v xs := ⟨h.1.keep g hd, h.2⟩
theorem Ops.up (h : Ops w S v xs) (g : Up w w') : Ops w' S v xs := ⟨h.1.up g, h.2⟩
theorem Ops.mono (h : Ops w S v xs) (hs : ∀ b, b < w.heap.size → S b → T b) : Ops w T v xs := ⟨h.1.mono hs, h.2⟩
theorem Ops.shape (h : Ops w S v xs) : ∃ A c, v = .slice A xs.length c ∧ xs.length ≤ c ∧ c ≤ 9223372036854775807 ∧ (A = none → c = 0) := h.1.shape
theorem Ops.nil (w : World) (S : Nat → Prop) (c : Nat) (A : Option Addr) (hc : c ≤ 9223372036854775807) (hA : A = none → c = 0 := by simp) : Ops w S (.slice A 0 c) [] := ⟨Raw.nil w S 8 c A hc hA, by simp⟩
/-- an element's cells -/
theorem Ops.at_ (h : Ops w S v xs) {i : Nat} (hi : i < xs.length) : ∃ b o c, v = .slice (some ⟨b, o, none⟩) xs.length c ∧ S b ∧ b < w.heap.size ∧
    ∀ j u, (xs[i].cells)[j]? = some u → w.cell? ⟨b, o + i * 8 + j, none⟩ = some u ∧ w.frozen? ⟨b, o + i * 8 + j, none⟩ = false := Raw.at_ OpM.cells_length h.1 hi
end
/-- the words under which the laws' walks know them -/
def MOps (w : World) (S : Nat → Prop) (v : Value) (xs : List OpM) (k : Int) : Prop := Raw w S 8 v xs.length (markCells k (xs.length * 8))
theorem MOps.keep {S T : Nat → Prop} {w w' : World} {v : Value} {xs : List OpM} {k : Int} (h : MOps w S v xs k) (g : Chg T w w') (hd : ∀ b, b < w.heap.size → S b → ¬ T b) : MOps w' S v xs k := Raw.keep h g hd
theorem MOps.up {S : Nat → Prop} {w w' : World} {v : Value} {xs : List OpM} {k : Int} (h : MOps w S v xs k) (g : Up w w') : MOps w' S v xs k := Raw.up h g
end Go.Proofs.Ytplabnjdhkmmkaa
end
section
set_option linter.unusedSimpArgs false
set_option linter.unusedVariables false
namespace Go.Proofs.Ytplabnjdhkmmkaa
open Go.ChangeShapes Go.WideShapes Go.ChangeAt Go.RowKit
def rackM (a b : Int) : List OpM := [⟨4, 0, 1, a, 2, a, 0, 0⟩, ⟨7, 0, 0, 0, 0, 0, 0, b - a⟩, ⟨4, 0, 2, a, 1, b, 0, 0⟩, ⟨7, 0, 0, 0, 0, 0, 0, 0⟩]
theorem rackM_ok {a b : Int} (ha : 0 ≤ a ∧ a ≤ 1000) (hb : 0 ≤ b ∧ b ≤ 1000) : ∀ x ∈ rackM a b, x.ok := by
  intro x hx
  simp only [rackM, List.mem_cons, List.not_mem_nil, or_false] at hx
  rcases hx with rfl | rfl | rfl | rfl <;> (unfold OpM.ok I64; simp only []; omega)
theorem rackOps_any (w : World) (a b : Int) (ha : 0 ≤ a ∧ a ≤ 1000) (hb : 0 ≤ b ∧ b ≤ 1000) :
    Calls Try.prog 61 #[.int .i64 a, .int .i64 b] w fun e w' => ∃ v, e = .returned v ∧ Ops w' (New w.heap.size w'.heap.size) v (rackM a b) ∧ Up w w' := by
  have hok := Lib.hid (rackM_ok ha hb)
  obtain ⟨ha0, ha1⟩ := ha
  obtain ⟨hb0, hb1⟩ := hb
  go_enter Try.func61, Try.ntmps61
  go_wp2
  go_ret
  refine ⟨_, rfl, ⟨Raw.of_block (heap_new_at (by simp)) rfl ⟨by simp, by simp⟩ rfl (by simp) (by omega), hok.out⟩, ((Chg.refl _ _).alloc _).alloc _⟩
end Go.Proofs.Ytplabnjdhkmmkaa
end
section
set_option linter.unusedSimpArgs false
set_option linter.unusedVariables false
namespace Go.Proofs.Ytplabnjdhkmmkaa
open Go.ChangeShapes Go.WideShapes Go.ChangeAt Go.RowKit
theorem isCarrier_yes (n : Int) (w : World) (h : 1 ≤ n ∧ n ≤ 4) :
    Calls Try.prog 29 #[.int .i64 n] w fun e w' => e = .returned (.bool true) ∧ w = w' := by
  go_enter Try.func29, Try.ntmps29
  go_wp2_with (first | (go_at_call 60; refine (within_yes _ _ _ _ ?_).mono ?_; (omega); rintro e w' ⟨rfl, rfl⟩) | (go_at_call 60; refine (within_no _ _ _ _ ?_).mono ?_; (omega); rintro e w' ⟨rfl, rfl⟩))
  go_ret
  exact ⟨rfl, rfl⟩
theorem isCarrier_no (n : Int) (w : World) (h : n < 1 ∨ 4 < n) :
    Calls Try.prog 29 #[.int .i64 n] w fun e w' => e = .returned (.bool false) ∧ w = w' := by
  go_enter Try.func29, Try.ntmps29
  go_wp2_with (first | (go_at_call 60; refine (within_yes _ _ _ _ ?_).mono ?_; (omega); rintro e w' ⟨rfl, rfl⟩) | (go_at_call 60; refine (within_no _ _ _ _ ?_).mono ?_; (omega); rintro e w' ⟨rfl, rfl⟩))
  go_ret
  exact ⟨rfl, rfl⟩
theorem l07Yarn_yes (n : Int) (w : World) (h : 1 ≤ n ∧ n ≤ 4) :
    Calls Try.prog 91 #[.int .i64 n] w fun e w' => e = .returned (.bool true) ∧ w = w' := by
  go_enter Try.func91, Try.ntmps91
  go_wp2_with (first | (go_at_call 64; refine (l00In_yes _ _ _ _ ?_).mono ?_; (omega); rintro e w' ⟨rfl, rfl⟩) | (go_at_call 64; refine (l00In_no _ _ _ _ ?_).mono ?_; (omega); rintro e w' ⟨rfl, rfl⟩))
  go_ret
  exact ⟨rfl, rfl⟩
theorem l07Yarn_no (n : Int) (w : World) (h : n < 1 ∨ 4 < n) :
    Calls Try.prog 91 #[.int .i64 n] w fun e w' => e = .returned (.bool false) ∧ w = w' := by
  go_enter Try.func91, Try.ntmps91
  go_wp2_with (first | (go_at_call 64; refine (l00In_yes _ _ _ _ ?_).mono ?_; (omega); rintro e w' ⟨rfl, rfl⟩) | (go_at_call 64; refine (l00In_no _ _ _ _ ?_).mono ?_; (omega); rintro e w' ⟨rfl, rfl⟩))
  go_ret
  exact ⟨rfl, rfl⟩
theorem l07Dir_yes (n : Int) (w : World) (h : n = 1 ∨ n = -1) :
    Calls Try.prog 89 #[.int .i64 n] w fun e w' => e = .returned (.bool true) ∧ w = w' := by
  rcases h with rfl | rfl
  all_goals
    go_enter Try.func89, Try.ntmps89
    go_wp2
    go_ret
    exact ⟨rfl, rfl⟩
theorem l07Dir_no (n : Int) (w : World) (h : n ≠ 1 ∧ n ≠ -1) :
    Calls Try.prog 89 #[.int .i64 n] w fun e w' => e = .returned (.bool false) ∧ w = w' := by
  have h1 : (n == 1) = false := by simpa using h.1
  have h2 : (n == -1) = false := by simpa using h.2
  clear h
  go_enter Try.func89, Try.ntmps89
  go_wp2
  go_ret
  exact ⟨rfl, rfl⟩
end Go.Proofs.Ytplabnjdhkmmkaa
end
section
set_option linter.unusedSimpArgs false
set_option linter.unusedVariables false
namespace Go.Proofs.Ytplabnjdhkmmkaa
open Go.ChangeShapes Go.WideShapes Go.ChangeAt Go.RowKit
end Go.Proofs.Ytplabnjdhkmmkaa
end
section
set_option linter.unusedSimpArgs false
set_option linter.unusedVariables false
namespace Go.Proofs.Ytplabnjdhkmmkaa
open Go.ChangeShapes Go.WideShapes Go.ChangeAt Go.RowKit
end Go.Proofs.Ytplabnjdhkmmkaa
end
section
set_option linter.unusedSimpArgs false
set_option linter.unusedVariables false
namespace Go.Proofs.Ytplabnjdhkmmkaa
open Go.ChangeShapes Go.WideShapes Go.ChangeAt Go.RowKit
def stk1B (k : Int) : Bool := inB k 1 4
def stkB (xs : List Int) : Bool := xs.all stk1B && decide (xs.length ≤ 8)
theorem stkB_bd {xs : List Int} (h : stkB xs = true) : ∀ x ∈ xs, 1 ≤ x ∧ x ≤ 4 := by
  unfold stkB at h; rw [Bool.and_eq_true] at h
  intro x hx
  have := List.all_eq_true.1 h.1 x hx
  unfold stk1B inB at this
  exact of_decide_eq_true this
end Go.Proofs.Ytplabnjdhkmmkaa
end
