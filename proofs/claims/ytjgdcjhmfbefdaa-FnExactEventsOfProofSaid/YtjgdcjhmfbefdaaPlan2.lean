/- The program's PlanMoves answers as the reference's, for all lists; its memory is its own. No condition. -/
import Derived.Test.YtjgdcjhmfbefdaaPlan
import Derived.StillTailTactics
namespace Go.Proofs.Ytjgdcjhmfbefdaa
open Go.ChangeShapes Go.WideShapes Go.ChangeAt Go.RowKit
def planCode (xs ys : List Int) : Int := if placesB false xs = true ∧ placesB true ys = true ∧ xs.length = ys.length then (if groupsB xs ys = true then 0 else 12) else 1
def planOut (xs ys : List Int) : List MoveM := if planCode xs ys = 0 then planM xs ys else []
theorem planCode_ok {xs ys : List Int} (h1 : placesB false xs = true) (h2 : placesB true ys = true) (h3 : xs.length = ys.length) (h4 : groupsB xs ys = true) : planCode xs ys = 0 := by unfold planCode; rw [if_pos ⟨h1, h2, h3⟩, if_pos h4]
theorem planCode_12 {xs ys : List Int} (h1 : placesB false xs = true) (h2 : placesB true ys = true) (h3 : xs.length = ys.length) (h4 : groupsB xs ys = false) : planCode xs ys = 12 := by unfold planCode; rw [if_pos ⟨h1, h2, h3⟩, if_neg (by simp [h4])]
theorem planCode_1 {xs ys : List Int} (h : placesB false xs = false ∨ placesB true ys = false ∨ xs.length ≠ ys.length) : planCode xs ys = 1 := by
  unfold planCode
  rw [if_neg]
  rintro ⟨h1, h2, h3⟩
  rcases h with h | h | h
  · simp [h1] at h
  · simp [h2] at h
  · exact h h3
theorem planOut_ok {xs ys : List Int} (h : planCode xs ys = 0) : planOut xs ys = planM xs ys := if_pos h
theorem planOut_no {xs ys : List Int} {c : Int} (h : planCode xs ys = c) (hc : c ≠ 0) : planOut xs ys = [] := if_neg (by rw [h]; exact hc)
theorem planOk_of {xs ys : List Int} (h1 : placesB false xs = true) (h2 : placesB true ys = true) (h3 : xs.length = ys.length) : PlanOk xs ys :=
  ⟨h3, places_short h1, fun i hi => places_in h1 hi, fun i hi => places_in h2 (by omega)⟩
theorem OwnMoves.upMade {w w1 : World} (h : Up w w1) : OwnMoves (w1.alloc (.cells #[] 92)) w.heap.size (.slice (some ⟨w1.heap.size, 0, none⟩) 0 0) [] := OwnMoves.made w1 _ h.size
theorem planM_len {xs ys : List Int} (h : xs.length ≤ 8) : (planM xs ys).length ≤ 384 := by
  unfold planM
  rw [List.length_append]
  have h1 := upTo_len xs ys xs.length
  have h2 := downTo_len xs ys xs.length
  omega
theorem ret_mi {v : Value} {a b : Int} (h : a = b) : Ending.returned (.tuple #[v, .int .i64 a]) = .returned (.tuple #[v, .int .i64 b]) := by rw [h]
set_option maxRecDepth 100000 in
set_option maxHeartbeats 16000000 in
theorem PlanMoves_any (w : World) (S T : Nat → Prop) (v u : Value) (xs ys : List Int) (h : Ints w S v xs) (h2 : Ints w T u ys) :
    Calls Try.prog 43 #[v, u] w fun e w' => ∃ v', e = .returned (.tuple #[v', .int .i64 (planCode xs ys)]) ∧ Moves w' (New w.heap.size w'.heap.size) v' (planOut xs ys) ∧ Up w w' := by
  obtain ⟨A, c, rfl, hlc, hcm, -⟩ := h.shape
  obtain ⟨A2, c2, rfl, hlc2, hcm2, -⟩ := h2.shape
  have H := Lib.hid h
  have H2 := Lib.hid h2
  clear h h2
  by_cases hp1 : placesB false xs = true
  rotate_left
  · have hp1' := Bool.eq_false_iff.2 hp1
    have HC := Lib.hid (planCode_1 (ys := ys) (.inl hp1'))
    have HP1 := Lib.hid hp1'
    clear hp1 hp1'
    rw [planOut_no HC.out (by omega), HC.out]
    go_enter Try.func43, Try.ntmps43
    go_wp2_with fail
    refine (ValidPlaces_any _ S _ xs H.out).mono ?_
    rintro e w1 ⟨rfl, rfl⟩
    rw [HP1.out]
    go_wp2
    go_ret2
    exact ⟨_, rfl, Moves.nil _ _ _ _ (by omega), Chg.refl _ _⟩
  by_cases hln : ys.length = xs.length
  rotate_left
  · have HC := Lib.hid (planCode_1 (xs := xs) (ys := ys) (.inr (.inr (fun h => hln h.symm))))
    have hne : ((ys.length : Int) != xs.length) = true := by
      rw [bne_iff_ne]
      intro h
      exact hln (by omega)
    have HP1 := Lib.hid hp1
    clear hp1 hln
    rw [planOut_no HC.out (by omega), HC.out]
    go_enter Try.func43, Try.ntmps43
    go_wp2_with fail
    refine (ValidPlaces_any _ S _ xs H.out).mono ?_
    rintro e w1 ⟨rfl, rfl⟩
    rw [HP1.out]
    go_wp2
    go_ret2
    exact ⟨_, rfl, Moves.nil _ _ _ _ (by omega), Chg.refl _ _⟩
  have hne : ((ys.length : Int) != xs.length) = false := by
    rw [bne_eq_false_iff_eq]
    omega
  have hs8 := places_short hp1
  have hy8 : ys.length ≤ 8 := by omega
  have hge : xs.length ≤ ys.length ∧ ys.length ≤ xs.length := by omega
  obtain ⟨hge1, hge2⟩ := hge
  have HLen := Lib.hid hln
  have HP1 := Lib.hid hp1
  clear hp1 hln
  go_enter Try.func43, Try.ntmps43
  go_wp2_with fail
  refine (ValidPlaces_any _ S _ xs H.out).mono ?_
  rintro e w1 ⟨rfl, rfl⟩
  rw [HP1.out]
  go_wp2
  go_loop [6, 7, 24] (fun _ _ i => ∃ j : Nat, j ≤ ys.length ∧ i = .int .i64 j ∧ Hid (placesTo true ys j)) (fun _ _ i => ys.length - (intOf i).toNat)
  case atStart => exact ⟨0, by omega, rfl, placesTo_zero _ _⟩
  case round =>
    obtain ⟨j, hj, rfl, hp⟩ := hrel
    by_cases hlt : j < ys.length
    · obtain ⟨b, o, rfl, hbx, hc⟩ := H2.out.ix (i := j) hlt
      have hcj := hc j hlt
      have ej := ix_eq hlt
      by_cases hin : 0 ≤ ix ys j ∧ ix ys j ≤ 23
      · by_cases h0 : 0 < j
        · obtain ⟨i, rfl⟩ : ∃ i, j = i + 1 := ⟨j - 1, by omega⟩
          have hci := hc i (by omega)
          have ei := ix_eq (show i < ys.length by omega)
          by_cases hlo : ix ys (i + 1) < ix ys i
          · have hB : placesB true ys = false := placesB_not (twice := true) hlt (by
              rintro ⟨_, _, h3⟩
              have := h3 (by omega)
              simp only [Nat.add_sub_cancel] at this
              omega)
            have HC := Lib.hid (planCode_1 (xs := xs) (ys := ys) (.inr (.inl hB)))
            clear hc ej ei hB
            go_wp2_with (first | (go_at_call 118; refine (isAt_yes _ _ ?_).mono ?_; (exact hin); rintro e w' ⟨rfl, rfl⟩))
            go_ret2
            exact ⟨_, ret_mi HC.out.symm, by rw [planOut_no HC.out (by omega)]; exact Moves.nil _ _ _ _ (by omega), Chg.refl _ _⟩
          · have hN := placesTo_succ (twice := true) (h := hlt) hp.out (by omega) (fun _ => by simp only [Nat.add_sub_cancel, true_and]; omega)
            have HN := Lib.hid hN
            clear hc ej ei hN
            go_wp2_with (first | (go_at_call 118; refine (isAt_yes _ _ ?_).mono ?_; (exact hin); rintro e w' ⟨rfl, rfl⟩))
            go_round
            case rel => exact ⟨i + 2, by omega, by go_num, HN⟩
            case measure => first | (simp [intOf]; done) | (simp [intOf]; omega)
        · obtain rfl : j = 0 := by omega
          rw [Nat.add_zero] at hcj
          have HN := Lib.hid (placesTo_succ (twice := true) (h := hlt) hp.out (by omega) (fun h => absurd h (by omega)))
          clear hc ej
          go_wp2_with (first | (go_at_call 118; refine (isAt_yes _ _ ?_).mono ?_; (exact hin); rintro e w' ⟨rfl, rfl⟩))
          go_round
          case rel => exact ⟨1, by omega, by go_num, HN⟩
          case measure => first | (simp [intOf]; done) | (simp [intOf]; omega)
      · have hB : placesB true ys = false := placesB_not (twice := true) hlt (by rintro ⟨h1, h2, _⟩; omega)
        have HC := Lib.hid (planCode_1 (xs := xs) (ys := ys) (.inr (.inl hB)))
        have hin' : ix ys j < 0 ∨ 23 < ix ys j := by omega
        clear hc ej hB
        go_wp2_with (first | (go_at_call 118; refine (isAt_no _ _ ?_).mono ?_; (exact hin'); rintro e w' ⟨rfl, rfl⟩))
        go_ret2
        exact ⟨_, ret_mi HC.out.symm, by rw [planOut_no HC.out (by omega)]; exact Moves.nil _ _ _ _ (by omega), Chg.refl _ _⟩
    · obtain rfl : j = ys.length := by omega
      have hp2 : placesB true ys = true := decide_eq_true ⟨hp.out, hy8⟩
      have HK := Lib.hid (planOk_of HP1.out hp2 HLen.out.symm)
      have HP2 := Lib.hid hp2
      clear hp2 hp
      go_wp2
      go_loopw [8, 48] (fun _ i wr => ∃ j : Nat, j ≤ ys.length ∧ i = .int .i64 j ∧ Hid (groupsTo xs ys j) ∧ Drawn w wr) (fun _ i _ => ys.length - (intOf i).toNat)
      case atStart => exact ⟨0, by omega, rfl, fun i hi => by omega, Drawn.refl _⟩
      case round =>
        obtain ⟨j, hj2, rfl, hp, hd⟩ := hrel
        by_cases hlt2 : j < ys.length
        · obtain ⟨b, o, rfl, hbx, hc⟩ := H.out.ix (i := j) (by omega)
          obtain ⟨b2, o2, rfl, hbx2, hc2⟩ := H2.out.ix (i := j) hlt2
          by_cases h0 : 0 < j
          · obtain ⟨i, rfl⟩ : ∃ i, j = i + 1 := ⟨j - 1, by omega⟩
            have f1 := hd.cell (hc (i + 1) (by omega))
            have f2 := hd.cell (hc2 (i + 1) hlt2)
            have f3 := hd.cell (hc2 i (by omega))
            have hxl : ((i : Int) + 1) < xs.length := by omega
            have hd0 : decide ((0 : Int) < (i : Int) + 1) = true := decide_eq_true (by omega)
            clear hc hc2
            by_cases he : ix ys (i + 1) = ix ys i
            · have hd1 : (ix ys (i + 1) == ix ys i) = true := by simpa using he
              by_cases hle : ix xs (i + 1) ≤ ix ys (i + 1)
              · have hd2 : decide (ix xs (i + 1) ≤ ix ys (i + 1)) = true := decide_eq_true hle
                have HC := Lib.hid (planCode_12 HP1.out HP2.out HLen.out.symm (groupsB_not (xs := xs) (j := i + 1) (by omega) hlt2 ⟨by simpa using he, hle⟩))
                clear he hle
                go_wp2
                go_quiet (fail)
                go_wp2
                go_ret2
                exact ⟨_, ret_mi HC.out.symm, by rw [planOut_no HC.out (by omega)]; exact Moves.nil _ _ _ _ (by omega), (hd.drewN _).up⟩
              · have hd2 : decide (ix xs (i + 1) ≤ ix ys (i + 1)) = false := decide_eq_false hle
                have HB := Lib.hid (groupsTo_succ hp.out (fun _ hh => hle hh.2))
                clear he hle
                go_wp2
                go_quiet (fail)
                go_wp2
                go_roundw
                case rel => exact ⟨i + 2, by omega, by go_num, HB, hd.drewN _⟩
                case measure => first | (simp [intOf]; done) | (simp [intOf]; omega)
            · have hd1 : (ix ys (i + 1) == ix ys i) = false := by simpa using he
              have HB := Lib.hid (groupsTo_succ hp.out (fun _ hh => he (by simpa using hh.1)))
              clear he
              go_wp2
              go_quiet (fail)
              go_wp2
              go_roundw
              case rel => exact ⟨i + 2, by omega, by go_num, HB, hd.drewN _⟩
              case measure => first | (simp [intOf]; done) | (simp [intOf]; omega)
          · obtain rfl : j = 0 := by omega
            have HB := Lib.hid (groupsTo_succ hp.out (fun h => absurd h (by omega)))
            clear hc hc2
            go_wp2
            go_quiet (fail)
            go_wp2
            go_roundw
            case rel => exact ⟨1, by omega, by go_num, HB, hd.drewN _⟩
            case measure => first | (simp [intOf]; done) | (simp [intOf]; omega)
        · have hgb : groupsB xs ys = true := decide_eq_true (fun i hi h0 hl => hp.out i (by omega) h0 hl)
          have HC := Lib.hid (planCode_ok HP1.out HP2.out HLen.out.symm hgb)
          have HU0 := Lib.hid hd.up
          clear hgb hp
          go_wp2
          go_loopw [9, 10] (fun v i wr => ∃ m : Nat, m ≤ xs.length ∧ i = .int .i64 ((xs.length : Int) - 1 - m) ∧ Hid (OwnMoves wr w.heap.size v (upTo xs ys m)) ∧ Hid (Up w wr)) (fun _ i _ => (intOf i + 1).toNat)
          case atStart => exact ⟨0, by omega, by simp, OwnMoves.upMade HU0.out, Chg.alloc HU0.out _⟩
          clear HU0 hd
          case round =>
            obtain ⟨m, hm, rfl, ho, hg⟩ := hrel
            by_cases hlt3 : m < xs.length
            · obtain ⟨i, hi⟩ : ∃ i : Nat, i = xs.length - 1 - m := ⟨_, rfl⟩
              have hiI : (xs.length : Int) - 1 - m = i := by omega
              have hil : i < xs.length := by omega
              have HI := Lib.hid hi
              rw [hiI]
              obtain ⟨b, o, rfl, hbx, hc0⟩ := H.out.ix (i := i) hil
              have hc := fun j hj => hg.out.cell (hc0 j hj) id
              obtain ⟨b2, o2, rfl, hbx2, hc20⟩ := H2.out.ix (i := i) (by omega)
              have hc2 := fun j hj => hg.out.cell (hc20 j hj) id
              have f1 := hc i hil
              have f2 := hc2 i (by omega)
              have hb1 := HK.out.2.2.1 i hil
              have hb2 := HK.out.2.2.2 i hil
              have HIm := Lib.hid hiI
              have hg0 : (0 : Int) ≤ i := by omega
              have hxl : (i : Int) < xs.length ∧ (i : Int) < ys.length := by omega
              obtain ⟨hxl1, hxl2⟩ := hxl
              clear hc hc2 hc0 hc20 hi hiI
              by_cases hup : ix xs i < ix ys i
              · have hd1 : decide (ix xs i < ix ys i) = true := decide_eq_true hup
                have HU := Lib.hid (show upAt xs ys i = stepsM (ix xs i) (ix ys i) from if_pos hup)
                clear hup
                go_wp2
                go_quiet (fail)
                go_wp2
                generalize hwz : wr.drewN nq = wz
                have e1 : wz.cell? ⟨b, o + i, none⟩ = some (.int .i64 (ix xs i)) := by rw [← hwz]; exact f1
                have e2 : wz.cell? ⟨b2, o2 + i, none⟩ = some (.int .i64 (ix ys i)) := by rw [← hwz]; exact f2
                have HOz := Lib.hid (show OwnMoves wz w.heap.size _ _ from by rw [← hwz]; exact ho.out.up ((Chg.refl Nowhere wr).drewN nq))
                have HGz := Lib.hid (show Up w wz from by rw [← hwz]; exact Chg.drewN hg.out nq)
                clear f1 f2 hwz ho hg
                go_still_tail 9, (by kernel_rfl)
                go_wp2_with fail
                refine (steps_any _ w.heap.size _ (upTo xs ys m) (ix xs i) (ix ys i) hb1 hb2 (OwnMoves.up HOz.out ((Chg.refl Nowhere wz).drew)) (by have := (Chg.drew HGz.out).size; exact this) (by
                  have h1 := upTo_len xs ys m
                  omega)).mono ?_
                rintro e w1 ⟨v1, rfl, k1, g1⟩
                have HO := Lib.hid k1
                have HG := Lib.hid (Chg.new (Chg.drew HGz.out) g1 (fun i hi => by omega))
                clear k1 g1 HOz HGz e1 e2
                go_wp2
                go_roundw
                case rel => exact ⟨m + 1, by omega, by have := HIm.out; rw [show ((i : Int) - 1) = (xs.length : Int) - 1 - ((m + 1 : Nat) : Int) by omega], by rw [upTo_succ, ← HI.out, HU.out]; exact HO.out, HG.out⟩
                case measure => first | (simp [intOf]; done) | (simp [intOf]; omega)
              · have hd1 : decide (ix xs i < ix ys i) = false := decide_eq_false hup
                have HU := Lib.hid (show upAt xs ys i = [] from if_neg hup)
                clear hup
                go_wp2
                go_quiet (fail)
                go_wp2
                go_roundw
                case rel => exact ⟨m + 1, by omega, by have := HIm.out; rw [show ((i : Int) - 1) = (xs.length : Int) - 1 - ((m + 1 : Nat) : Int) by omega], by rw [upTo_succ, ← HI.out, HU.out, List.append_nil]; exact ho.out.up ((Chg.refl Nowhere wr).drewN _), Chg.drewN hg.out _⟩
                case measure => first | (simp [intOf]; done) | (simp [intOf]; omega)
            · obtain rfl : m = xs.length := by omega
              have hng : ¬ (0 : Int) ≤ (xs.length : Int) - 1 - xs.length := by omega
              go_wp2
              go_loopw [9, 11, 106] (fun v _ i wr => ∃ j : Nat, j ≤ xs.length ∧ i = .int .i64 j ∧ Hid (OwnMoves wr w.heap.size v (upTo xs ys xs.length ++ downTo xs ys j)) ∧ Hid (Up w wr)) (fun _ _ i _ => xs.length - (intOf i).toNat)
              case atStart => exact ⟨0, by omega, rfl, by simpa [Hid, downTo] using ho, hg⟩
              clear ho hg hng
              case round =>
                obtain ⟨i, hi, rfl, ho, hg⟩ := hrel
                by_cases hil : i < xs.length
                · obtain ⟨b, o, rfl, hbx, hc0⟩ := H.out.ix (i := i) hil
                  have hc := fun j hj => hg.out.cell (hc0 j hj) id
                  obtain ⟨b2, o2, rfl, hbx2, hc20⟩ := H2.out.ix (i := i) (by omega)
                  have hc2 := fun j hj => hg.out.cell (hc20 j hj) id
                  have f1 := hc i hil
                  have f2 := hc2 i (by omega)
                  have hb1 := HK.out.2.2.1 i hil
                  have hb2 := HK.out.2.2.2 i hil
                  have hxl : (i : Int) < xs.length ∧ (i : Int) < ys.length := by omega
                  obtain ⟨hxl1, hxl2⟩ := hxl
                  clear hc hc2 hc0 hc20
                  by_cases hup : ix ys i < ix xs i
                  · have hd1 : decide (ix ys i < ix xs i) = true := decide_eq_true hup
                    have HU := Lib.hid (show downAt xs ys i = stepsM (ix xs i) (ix ys i) from if_pos hup)
                    clear hup
                    go_wp2
                    go_quiet (fail)
                    go_wp2
                    generalize hwz : wr.drewN nq = wz
                    have e1 : wz.cell? ⟨b, o + i, none⟩ = some (.int .i64 (ix xs i)) := by rw [← hwz]; exact f1
                    have e2 : wz.cell? ⟨b2, o2 + i, none⟩ = some (.int .i64 (ix ys i)) := by rw [← hwz]; exact f2
                    have HOz := Lib.hid (show OwnMoves wz w.heap.size _ _ from by rw [← hwz]; exact ho.out.up ((Chg.refl Nowhere wr).drewN nq))
                    have HGz := Lib.hid (show Up w wz from by rw [← hwz]; exact Chg.drewN hg.out nq)
                    clear f1 f2 hwz ho hg
                    go_still_tail 9, (by kernel_rfl)
                    go_wp2_with fail
                    refine (steps_any _ w.heap.size _ (upTo xs ys xs.length ++ downTo xs ys i) (ix xs i) (ix ys i) hb1 hb2 (OwnMoves.up HOz.out ((Chg.refl Nowhere wz).drew)) (by have := (Chg.drew HGz.out).size; exact this) (by
                      rw [List.length_append]
                      have h0 := upTo_len xs ys xs.length
                      have h1 := downTo_len xs ys i
                      omega)).mono ?_
                    rintro e w1 ⟨v1, rfl, k1, g1⟩
                    have HO := Lib.hid k1
                    have HG := Lib.hid (Chg.new (Chg.drew HGz.out) g1 (fun i hi => by omega))
                    clear k1 g1 HOz HGz e1 e2
                    go_wp2
                    go_roundw
                    case rel => exact ⟨i + 1, by omega, by go_num, by rw [downTo_succ, HU.out, ← List.append_assoc]; exact HO.out, HG.out⟩
                    case measure => first | (simp [intOf]; done) | (simp [intOf]; omega)
                  · have hd1 : decide (ix ys i < ix xs i) = false := decide_eq_false hup
                    have HU := Lib.hid (show downAt xs ys i = [] from if_neg hup)
                    clear hup
                    go_wp2
                    go_quiet (fail)
                    go_wp2
                    go_roundw
                    case rel => exact ⟨i + 1, by omega, by go_num, by rw [downTo_succ, HU.out, List.append_nil]; exact ho.out.up ((Chg.refl Nowhere wr).drewN _), Chg.drewN hg.out _⟩
                    case measure => first | (simp [intOf]; done) | (simp [intOf]; omega)
                · obtain rfl : i = xs.length := by omega
                  go_wp2
                  go_ret2
                  exact ⟨_, ret_mi HC.out.symm, by rw [planOut_ok HC.out]; exact ho.out.rd, hg.out⟩
end Go.Proofs.Ytjgdcjhmfbefdaa
