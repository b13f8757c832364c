/- StacksAfter of the reference: too thick or not; the whole. No condition. -/
import Derived.Test.YtnjfhpgmogopnaaStk4
import Derived.Deep.QuietTactic
set_option linter.unusedSimpArgs false
set_option linter.unusedVariables false
set_option maxRecDepth 100000
set_option maxHeartbeats 1000000
namespace Go.Proofs.Ytnjfhpgmogopnaa
open Go.ChangeShapes Go.WideShapes Go.ChangeAt Go.RowKit
def thickAt (st ks : List Int) (i : Nat) : Bool := decide ((ix ks i = 4 ∨ ix ks i = 5) ∧ 4 < ix st (posS ks i) + ix st (posS ks i + 1))
def thickTo (st ks : List Int) (j : Nat) : Bool := (List.range j).any (thickAt st ks)
theorem thickTo_succ (st ks : List Int) (j : Nat) : thickTo st ks (j + 1) = (thickTo st ks j || thickAt st ks j) := by
  unfold thickTo; rw [List.range_succ, List.any_append]; simp
theorem thickTo_true {st ks : List Int} {j n : Nat} (hj : j < n) (h : thickAt st ks j = true) : thickTo st ks n = true := by
  unfold thickTo
  exact List.any_eq_true.2 ⟨j, by simpa using hj, h⟩
theorem okAt_eq {st ks : List Int} (hs : stkB st = true) (hk : stB ks = true) (hsum : sumF takenK ks = st.length) {i : Nat} (hi : i < ks.length) : okAt st ks i = ((stepAt st ks i).all stk1B && !thickAt st ks i) := by
  have hkj := stB_kind hk _ (List.getElem_mem hi)
  have hp := posS_succ hi
  have hl := posS_le ks (i + 1)
  have ha : takenK ks[i] ≥ 1 → 1 ≤ ix st (posS ks i) ∧ ix st (posS ks i) ≤ 4 := fun h1 => by
    have : posS ks i < st.length := by omega
    rw [ix_eq this]
    exact stkB_bd hs _ (List.getElem_mem this)
  unfold okAt stepAt thickAt okS stepS
  rw [ix_eq hi]
  generalize ix st (posS ks i) = a at ha ⊢
  generalize ix st (posS ks i + 1) = b
  generalize ks[i] = k at hkj ha ⊢
  rcases kindB_cases hkj with rfl | rfl | rfl | rfl | rfl | rfl | rfl | rfl | rfl | rfl | rfl
  case inr.inr.inr.inr.inr.inl =>
    have := ha (by decide)
    rw [Bool.eq_iff_iff]
    simp [stk1B, inB]
    omega
  case inr.inr.inr.inr.inr.inr.inl =>
    have := ha (by decide)
    rw [Bool.eq_iff_iff]
    simp [stk1B, inB]
    omega
  all_goals (first | (simp [madeK, stk1B, inB]; done) | (rw [Bool.eq_iff_iff]; simp [madeK, stk1B, inB]; omega) | (rw [Bool.eq_iff_iff]; simp [madeK, stk1B, inB]))
theorem okTo_eq {st ks : List Int} (hs : stkB st = true) (hk : stB ks = true) (hsum : sumF takenK ks = st.length) : ∀ j, j ≤ ks.length → okTo st ks j = ((aftTo st ks j).all stk1B && !thickTo st ks j) := by
  intro j
  induction j with
  | zero => intro _; rfl
  | succ j ih =>
    intro hj
    rw [okTo_succ, aftTo_succ, thickTo_succ, List.all_append, ih (by omega), okAt_eq hs hk hsum (by omega)]
    cases (aftTo st ks j).all stk1B <;> cases (stepAt st ks j).all stk1B <;> cases thickTo st ks j <;> cases thickAt st ks j <;> rfl
theorem thick_all {st ks : List Int} (hs : stkB st = true) (hk : stB ks = true) (hsum : sumF takenK ks = st.length) : (okTo st ks ks.length && decide ((aftTo st ks ks.length).length ≤ 8)) = (stkB (aftTo st ks ks.length) && !thickTo st ks ks.length) := by
  rw [okTo_eq hs hk hsum _ (Nat.le_refl _)]
  unfold stkB
  cases (aftTo st ks ks.length).all stk1B <;> cases thickTo st ks ks.length <;> simp
theorem l14Thick_any (w : World) (S S2 : Nat → Prop) (v u : Value) (st ks : List Int) (h : Ints w S v st) (h2 : Ints w S2 u ks) (hs : stkB st = true) (hk : stB ks = true) (hsum : sumF takenK ks = st.length) :
    Calls Try.prog 276 #[v, u] w fun e w' => e = .returned (.bool (thickTo st ks ks.length)) ∧ Up w w' := by
  obtain ⟨A, c, rfl, hlc, hcm, -⟩ := h.shape
  obtain ⟨A2, c2, rfl, hlc2, hcm2, -⟩ := h2.shape
  have H := Lib.hid h
  have H2 := Lib.hid h2
  have HK := Lib.hid hk
  have HSB := Lib.hid (stkB_bd hs)
  have hks := stB_len hk
  have hst := stkB_len hs
  have HSUM := Lib.hid hsum
  clear h h2 hs hk hsum
  go_enter Try.func276, Try.ntmps276
  go_wp2
  go_loopw [5, 6] (fun a i wr => ∃ (j : Nat), j ≤ ks.length ∧ i = .int .i64 j ∧ a = .int .i64 (posS ks j) ∧ Hid (thickTo st ks j = false) ∧ Hid (Up w wr)) (fun _ i _ => ks.length - (intOf i).toNat)
  case atStart => exact ⟨0, by omega, rfl, rfl, rfl, Chg.refl _ _⟩
  case round =>
    obtain ⟨j, hj, rfl, rfl, hth, hu⟩ := hrel
    by_cases hlt : j < ks.length
    rotate_left
    · obtain rfl : j = ks.length := by omega
      go_wp2
      go_ret
      exact ⟨ret_bool hth.out.symm, hu.out⟩
    obtain ⟨b, o, rfl, -, hc⟩ := (H2.out.up hu.out).ix hlt
    have f1 := hc j hlt
    rw [ix_eq hlt] at f1
    have HKJ := Lib.hid (stB_kind HK.out _ (List.getElem_mem hlt))
    have HPS := Lib.hid (posS_succ hlt)
    have HPL := Lib.hid (posS_le ks (j + 1))
    obtain ⟨kd, HKD⟩ : ∃ kd, Hid (ks[j] = kd) := ⟨_, Lib.hid rfl⟩
    rw [HKD.out] at f1 HKJ HPS
    obtain ⟨tk, HTK⟩ : ∃ tk : Nat, Hid (takenK kd = tk) := ⟨(takenK kd).toNat, Lib.hid (by have := takenK_bd kd; omega)⟩
    have hpl : posS ks j + tk ≤ st.length := by have a := HPS.out; have b := HPL.out; have c := HSUM.out; have d := HTK.out; rw [d] at a; simp at a; omega
    have e9 : Hid (posS ks (j + 1) = posS ks j + tk) := Lib.hid (by rw [HPS.out, HTK.out]; simp)
    have y9 : IntKind.i64.wrap ((posS ks j : Int) + tk) = ((posS ks j + tk : Nat) : Int) := (IntWalk.i64_in _ (by omega)).trans (by omega)
    clear hc
    have next : thickAt st ks j = false → Hid (thickTo st ks (j + 1) = false) := fun h => Lib.hid (by rw [thickTo_succ, hth.out, h]; rfl)
    by_cases h4 : kd = 4
    · subst h4
      have ht2 : tk = 2 := by have h1 : takenK 4 = 2 := rfl; have h2 := HTK.out; omega
      obtain ⟨b2, o2, rfl, -, hc2⟩ := (H.out.up hu.out).ix (show posS ks j < st.length by omega)
      have f2 := hc2 (posS ks j) (by omega)
      have f3 := hc2 (posS ks j + 1) (by omega)
      have f3' := f3
      rw [← Nat.add_assoc] at f3
      have hx0 : 1 ≤ ix st (posS ks j) ∧ ix st (posS ks j) ≤ 4 := by rw [ix_eq (by omega)]; exact HSB.out _ (List.getElem_mem _)
      have hx1 : 1 ≤ ix st (posS ks j + 1) ∧ ix st (posS ks j + 1) ≤ 4 := by rw [ix_eq (by omega)]; exact HSB.out _ (List.getElem_mem _)
      have HTA : thickAt st ks j = decide (4 < ix st (posS ks j) + ix st (posS ks j + 1)) := by unfold thickAt; rw [ix_eq hlt, HKD.out]; simp
      have HTA := Lib.hid HTA
      generalize ix st (posS ks j) = a at f2 hx0 HTA
      generalize ix st (posS ks j + 1) = a2 at f3 f3' hx1 HTA
      have y1 : IntKind.i64.wrap (a + a2) = a + a2 := IntWalk.i64_in _ (by omega)
      have y2 : IntKind.i64.wrap ((posS ks j : Int) + 1) = (posS ks j : Int) + 1 := IntWalk.i64_in _ (by omega)
      have hp4 : 0 ≤ (posS ks j : Int) + 1 := by omega
      have hp5 : (posS ks j : Int) + 1 < (st.length : Int) := by omega
      have hp6 : (posS ks j : Int) < (st.length : Int) := by omega
      have hp7 : posS ks j < st.length := by omega
      have hp1 : posS ks j + 1 < st.length := by omega
      have hp2 : ((posS ks j + 1 : Nat) : Int) < (st.length : Int) := by omega
      have hp3 : ((posS ks j : Int) + 1).toNat = posS ks j + 1 := by omega
      clear hc2
      by_cases h9 : 4 < a + a2
      · have HV := Lib.hid (thickTo_true hlt (HTA.out.trans (decide_eq_true h9)))
        have t9 : decide (4 < a + a2) = true := decide_eq_true h9
        clear h9 next
        go_wp2
        go_quiet (fail)
        go_wp2
        go_ret
        exact ⟨ret_bool HV.out.symm, (by repeat (first | exact hu.out | apply Chg.drew | apply Chg.drewN))⟩
      · have HN := next (HTA.out.trans (decide_eq_false h9))
        have t9 : decide (4 < a + a2) = false := decide_eq_false h9
        clear h9 next
        go_wp2
        go_quiet (fail)
        go_wp2_with fail
        refine (sColumnsTaken_any _ _).mono ?_
        rintro e w4 ⟨rfl, g4⟩
        rw [takenOf_ok HKJ.out, HTK.out]
        have G4 := Lib.hid (Chg.trans hu.out (Chg.trans (by repeat (first | exact Chg.refl _ _ | apply Chg.drew | apply Chg.drewN | refine Chg.alloc ?_ _)) g4))
        clear g4
        go_wp2
        go_roundw
        case rel => exact ⟨j + 1, by omega, by go_num, by rw [e9.out]; first | rfl | go_num, HN.out, G4.out⟩
        case measure => first | (simp [intOf]; done) | (simp [intOf]; omega)
    by_cases h5 : kd = 5
    · subst h5
      have ht2 : tk = 2 := by have h1 : takenK 5 = 2 := rfl; have h2 := HTK.out; omega
      obtain ⟨b2, o2, rfl, -, hc2⟩ := (H.out.up hu.out).ix (show posS ks j < st.length by omega)
      have f2 := hc2 (posS ks j) (by omega)
      have f3 := hc2 (posS ks j + 1) (by omega)
      have f3' := f3
      rw [← Nat.add_assoc] at f3
      have hx0 : 1 ≤ ix st (posS ks j) ∧ ix st (posS ks j) ≤ 4 := by rw [ix_eq (by omega)]; exact HSB.out _ (List.getElem_mem _)
      have hx1 : 1 ≤ ix st (posS ks j + 1) ∧ ix st (posS ks j + 1) ≤ 4 := by rw [ix_eq (by omega)]; exact HSB.out _ (List.getElem_mem _)
      have HTA : thickAt st ks j = decide (4 < ix st (posS ks j) + ix st (posS ks j + 1)) := by unfold thickAt; rw [ix_eq hlt, HKD.out]; simp
      have HTA := Lib.hid HTA
      generalize ix st (posS ks j) = a at f2 hx0 HTA
      generalize ix st (posS ks j + 1) = a2 at f3 f3' hx1 HTA
      have y1 : IntKind.i64.wrap (a + a2) = a + a2 := IntWalk.i64_in _ (by omega)
      have y2 : IntKind.i64.wrap ((posS ks j : Int) + 1) = (posS ks j : Int) + 1 := IntWalk.i64_in _ (by omega)
      have hp4 : 0 ≤ (posS ks j : Int) + 1 := by omega
      have hp5 : (posS ks j : Int) + 1 < (st.length : Int) := by omega
      have hp6 : (posS ks j : Int) < (st.length : Int) := by omega
      have hp7 : posS ks j < st.length := by omega
      have hp1 : posS ks j + 1 < st.length := by omega
      have hp2 : ((posS ks j + 1 : Nat) : Int) < (st.length : Int) := by omega
      have hp3 : ((posS ks j : Int) + 1).toNat = posS ks j + 1 := by omega
      clear hc2
      by_cases h9 : 4 < a + a2
      · have HV := Lib.hid (thickTo_true hlt (HTA.out.trans (decide_eq_true h9)))
        have t9 : decide (4 < a + a2) = true := decide_eq_true h9
        clear h9 next
        go_wp2
        go_quiet (fail)
        go_wp2
        go_ret
        exact ⟨ret_bool HV.out.symm, (by repeat (first | exact hu.out | apply Chg.drew | apply Chg.drewN))⟩
      · have HN := next (HTA.out.trans (decide_eq_false h9))
        have t9 : decide (4 < a + a2) = false := decide_eq_false h9
        clear h9 next
        go_wp2
        go_quiet (fail)
        go_wp2_with fail
        refine (sColumnsTaken_any _ _).mono ?_
        rintro e w4 ⟨rfl, g4⟩
        rw [takenOf_ok HKJ.out, HTK.out]
        have G4 := Lib.hid (Chg.trans hu.out (Chg.trans (by repeat (first | exact Chg.refl _ _ | apply Chg.drew | apply Chg.drewN | refine Chg.alloc ?_ _)) g4))
        clear g4
        go_wp2
        go_roundw
        case rel => exact ⟨j + 1, by omega, by go_num, by rw [e9.out]; first | rfl | go_num, HN.out, G4.out⟩
        case measure => first | (simp [intOf]; done) | (simp [intOf]; omega)
    have HN := next (by unfold thickAt; rw [ix_eq hlt, HKD.out]; simp [h4, h5])
    have t4 : (kd == 4) = false := by simpa using h4
    have t5 : (kd == 5) = false := by simpa using h5
    clear next h4 h5
    go_wp2
    go_quiet (fail)
    go_wp2_with fail
    refine (sColumnsTaken_any _ _).mono ?_
    rintro e w4 ⟨rfl, g4⟩
    rw [takenOf_ok HKJ.out, HTK.out]
    have G4 := Lib.hid (Chg.trans hu.out (Chg.trans (by repeat (first | exact Chg.refl _ _ | apply Chg.drew | apply Chg.drewN | refine Chg.alloc ?_ _)) g4))
    clear g4
    go_wp2
    go_roundw
    case rel => exact ⟨j + 1, by omega, by go_num, by rw [e9.out]; first | rfl | go_num, HN.out, G4.out⟩
    case measure => first | (simp [intOf]; done) | (simp [intOf]; omega)
end Go.Proofs.Ytnjfhpgmogopnaa
