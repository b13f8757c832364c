/- ValidNormal by the program. No condition. -/
import Derived.Test.YtjgdcjhmfbefdaaPermN
set_option linter.unusedSimpArgs false
set_option linter.unusedVariables false
set_option maxRecDepth 100000
set_option maxHeartbeats 4000000
namespace Go.Proofs.Ytjgdcjhmfbefdaa
open Go.ChangeShapes Go.WideShapes Go.ChangeAt Go.RowKit
theorem ValidNormal_any (w : World) (M H L : Nat → Prop) (v : Value) (x : NormM) (h : NormV w M H L v x) :
    Calls Try.prog 93 #[v] w fun e w' => e = .returned (.bool (okN x)) ∧ Up w w' := by
  obtain ⟨A, c, rfl, h0, ⟨hlc, hcm⟩, h2, h3⟩ := h
  have UW := Lib.hid ((Chg.refl Nowhere w).alloc (.cells #[.int .i64 x.n, .int .i64 x.p, .slice A x.fs.length c] 100))
  have H0 := Lib.hid (h0.up UW.out)
  have Hf0 := Lib.hid (show (w.alloc (.cells #[.int .i64 x.n, .int .i64 x.p, .slice A x.fs.length c] 100)).cell? ⟨w.heap.size, 0, none⟩ = some (.int .i64 x.n) from cell_new _ _ _ _)
  have Hf1 := Lib.hid (show (w.alloc (.cells #[.int .i64 x.n, .int .i64 x.p, .slice A x.fs.length c] 100)).cell? ⟨w.heap.size, 1, none⟩ = some (.int .i64 x.p) from cell_new _ _ _ _)
  have Hf2 := Lib.hid (show (w.alloc (.cells #[.int .i64 x.n, .int .i64 x.p, .slice A x.fs.length c] 100)).cell? ⟨w.heap.size, 2, none⟩ = some (.slice A x.fs.length c) from cell_new _ _ _ _)
  clear h0 h2 h3
  cases hn : inB x.n 0 12 with
  | false =>
    have HN := Lib.hid hn
    have HB := Lib.hid (okN_n hn)
    clear hn
    go_enter Try.func93, Try.ntmps93
    go_wp2_with fail
    refine (callS (isStrands_any _ _) HN.out).mono ?_
    rintro e w' ⟨rfl, rfl⟩
    go_wp2
    go_ret
    exact ⟨ret_bool HB.out.symm, UW.out⟩
  | true =>
  cases hp : inB x.p (-100) 100 with
  | false =>
    have HN := Lib.hid hn
    have HP := Lib.hid hp
    have HB := Lib.hid (okN_p hp)
    clear hn hp
    go_enter Try.func93, Try.ntmps93
    go_wp2_with fail
    refine (callS (isStrands_any _ _) HN.out).mono ?_
    rintro e w' ⟨rfl, rfl⟩
    go_wp2_with fail
    refine (callS (within_any _ _ _ _) HP.out).mono ?_
    rintro e w' ⟨rfl, rfl⟩
    go_wp2
    go_ret
    exact ⟨ret_bool HB.out.symm, UW.out⟩
  | true =>
  have HN := Lib.hid hn
  have HP := Lib.hid hp
  clear hn hp
  by_cases hl : x.fs.length ≤ 100
  rotate_left
  · have HB := Lib.hid (okN_l hl)
    go_enter Try.func93, Try.ntmps93
    go_wp2_with fail
    refine (callS (isStrands_any _ _) HN.out).mono ?_
    rintro e w' ⟨rfl, rfl⟩
    go_wp2_with fail
    refine (callS (within_any _ _ _ _) HP.out).mono ?_
    rintro e w' ⟨rfl, rfl⟩
    go_wp2
    go_ret
    exact ⟨ret_bool HB.out.symm, UW.out⟩
  have HFIN : Hid (facTo x x.fs.length → okN x = (decide (2 ≤ x.n) || decide (x.p = 0))) := Lib.hid fun h => okN_all h HN.out HP.out hl
  go_enter Try.func93, Try.ntmps93
  go_wp2_with fail
  refine (callS (isStrands_any _ _) HN.out).mono ?_
  rintro e w' ⟨rfl, rfl⟩
  go_wp2_with fail
  refine (callS (within_any _ _ _ _) HP.out).mono ?_
  rintro e w' ⟨rfl, rfl⟩
  go_wp2
  go_loopw [3, 4, 24] (fun _ _ i wr => ∃ j : Nat, j ≤ x.fs.length ∧ i = .int .i64 j ∧ Hid (Up (w.alloc (.cells #[.int .i64 x.n, .int .i64 x.p, .slice A x.fs.length c] 100)) wr) ∧ Hid (facTo x j)) (fun _ _ i _ => x.fs.length - (intOf i).toNat)
  case atStart => exact ⟨0, by omega, rfl, Chg.refl _ _, facTo.start x⟩
  case round =>
    obtain ⟨j, hj, rfl, hu, hp⟩ := hrel
    have f0 := Chg.cell hu.out Hf0.out id
    have f1 := Chg.cell hu.out Hf1.out id
    have f2 := Chg.cell hu.out Hf2.out id
    clear Hf0 Hf1 Hf2
    have U0 : Hid (Up wr wr) := Lib.hid (Chg.refl _ _)
    by_cases hlt : j < x.fs.length
    · skip
      obtain ⟨b3, o3, c3', vs3, he3, -, -, -, hE3, hc3⟩ := (H0.out.up hu.out).at_ hlt
      obtain ⟨rfl, rfl⟩ : A = some ⟨b3, o3, none⟩ ∧ c = c3' := by simpa using he3
      obtain ⟨A3, k3, rfl, hv3, -⟩ := IntsE.val hE3
      have e0 := (hc3 0 _ rfl).1
      simp only [Nat.mul_one, Nat.add_zero] at e0
      have HV := Lib.hid hv3
      have He0 := Lib.hid e0
      clear hc3 hv3 he3
      have Hf1 := Lib.hid f1
      have Hf2 := Lib.hid f2
      have EF := Lib.hid (fac_eq hlt)
      by_cases hn : (x.fs[j].length : Int) = x.n
      rotate_left
      · have HB := Lib.hid (okN_fac hlt (facB_len (by rw [EF.out]; exact hn)))
        have hbn : ((x.fs[j].length : Int) != x.n) = true := by simpa using hn
        clear hn
        have Hf0 := Lib.hid f0
        cases hpm : permB x.fs[j] with
        | false =>
          have HPM := Lib.hid hpm
          clear hpm
          go_wp2_with fail
          refine (callB (ValidPermutation_any _ _ _ _ (HV.out.up (by repeat (first | exact Chg.refl _ _ | apply Chg.drew | apply Chg.drewN | refine Chg.alloc ?_ _)))) HPM.out).mono ?_
          rintro e w1 ⟨rfl, g1⟩
          have U1 := Lib.hid (Chg.trans U0.out (Chg.trans (by repeat (first | exact Chg.refl _ _ | apply Chg.drew | apply Chg.drewN | refine Chg.alloc ?_ _)) g1))
          clear g1 f0 f1 f2 e0
          have f0 := Chg.cell U1.out Hf0.out id
          have f1 := Chg.cell U1.out Hf1.out id
          have f2 := Chg.cell U1.out Hf2.out id
          have e0 := Chg.cell U1.out He0.out id
          go_wp2
          go_ret
          exact ⟨ret_bool HB.out.symm, Chg.trans UW.out (Chg.trans hu.out U1.out)⟩
        | true =>
          have HPM := Lib.hid hpm
          clear hpm
          go_wp2_with fail
          refine (callB (ValidPermutation_any _ _ _ _ (HV.out.up (by repeat (first | exact Chg.refl _ _ | apply Chg.drew | apply Chg.drewN | refine Chg.alloc ?_ _)))) HPM.out).mono ?_
          rintro e w1 ⟨rfl, g1⟩
          have U1 := Lib.hid (Chg.trans U0.out (Chg.trans (by repeat (first | exact Chg.refl _ _ | apply Chg.drew | apply Chg.drewN | refine Chg.alloc ?_ _)) g1))
          clear g1 f0 f1 f2 e0
          have f0 := Chg.cell U1.out Hf0.out id
          have f1 := Chg.cell U1.out Hf1.out id
          have f2 := Chg.cell U1.out Hf2.out id
          have e0 := Chg.cell U1.out He0.out id
          go_wp2
          go_ret
          exact ⟨ret_bool HB.out.symm, Chg.trans UW.out (Chg.trans hu.out U1.out)⟩
      rw [← hn] at f0
      have Hf0 := Lib.hid f0
      have HN := Lib.hid hn
      clear hn
      cases hpm : permB x.fs[j] with
      | false =>
        have HPM := Lib.hid hpm
        have HB := Lib.hid (okN_fac hlt (facB_perm (by rw [EF.out]; exact hpm)))
        clear hpm
        go_wp2_with fail
        refine (callB (ValidPermutation_any _ _ _ _ (HV.out.up (by repeat (first | exact Chg.refl _ _ | apply Chg.drew | apply Chg.drewN | refine Chg.alloc ?_ _)))) HPM.out).mono ?_
        rintro e w1 ⟨rfl, g1⟩
        have U1 := Lib.hid (Chg.trans U0.out (Chg.trans (by repeat (first | exact Chg.refl _ _ | apply Chg.drew | apply Chg.drewN | refine Chg.alloc ?_ _)) g1))
        clear g1 f0 f1 f2 e0
        have f0 := Chg.cell U1.out Hf0.out id
        have f1 := Chg.cell U1.out Hf1.out id
        have f2 := Chg.cell U1.out Hf2.out id
        have e0 := Chg.cell U1.out He0.out id
        go_wp2
        go_ret
        exact ⟨ret_bool HB.out.symm, Chg.trans UW.out (Chg.trans hu.out U1.out)⟩
      | true =>
        have HPM := Lib.hid hpm
        have hl12 := identM_len12 hpm
        clear hpm
        go_wp2_with fail
        refine (callB (ValidPermutation_any _ _ _ _ (HV.out.up (by repeat (first | exact Chg.refl _ _ | apply Chg.drew | apply Chg.drewN | refine Chg.alloc ?_ _)))) HPM.out).mono ?_
        rintro e w1 ⟨rfl, g1⟩
        have U1 := Lib.hid (Chg.trans U0.out (Chg.trans (by repeat (first | exact Chg.refl _ _ | apply Chg.drew | apply Chg.drewN | refine Chg.alloc ?_ _)) g1))
        clear g1 f0 f1 f2 e0
        have f0 := Chg.cell U1.out Hf0.out id
        have f1 := Chg.cell U1.out Hf1.out id
        have f2 := Chg.cell U1.out Hf2.out id
        have e0 := Chg.cell U1.out He0.out id
        go_wp2_with fail
        refine (identity_any _ x.fs[j].length hl12).mono ?_
        rintro e w2 ⟨v2, rfl, k2, g2⟩
        have K2 := Lib.hid k2
        clear k2
        have U2 := Lib.hid (Chg.trans U1.out (Chg.trans (by repeat (first | exact Chg.refl _ _ | apply Chg.drew | apply Chg.drewN | refine Chg.alloc ?_ _)) g2))
        clear g2 f0 f1 f2 e0
        have f0 := Chg.cell U2.out Hf0.out id
        have f1 := Chg.cell U2.out Hf1.out id
        have f2 := Chg.cell U2.out Hf2.out id
        have e0 := Chg.cell U2.out He0.out id
        cases hid : sameL x.fs[j] (identM x.fs[j].length) with
        | true =>
          have HS := Lib.hid hid
          have HB := Lib.hid (okN_fac hlt (facB_id (by rw [EF.out]; exact hid)))
          clear hid
          go_wp2_with fail
          refine (callB (equalInts_any _ _ _ _ _ _ _ (HV.out.up U2.out) (K2.out.up (by repeat (first | exact Chg.refl _ _ | apply Chg.drew | apply Chg.drewN | refine Chg.alloc ?_ _)))) HS.out).mono ?_
          rintro e w3 ⟨rfl, g3⟩
          have U3 := Lib.hid (Chg.trans U2.out (Chg.trans (by repeat (first | exact Chg.refl _ _ | apply Chg.drew | apply Chg.drewN | refine Chg.alloc ?_ _)) g3))
          clear g3 f0 f1 f2 e0
          have f0 := Chg.cell U3.out Hf0.out id
          have f1 := Chg.cell U3.out Hf1.out id
          have f2 := Chg.cell U3.out Hf2.out id
          have e0 := Chg.cell U3.out He0.out id
          go_wp2
          go_ret
          exact ⟨ret_bool HB.out.symm, Chg.trans UW.out (Chg.trans hu.out U3.out)⟩
        | false =>
          have HS := Lib.hid hid
          clear hid
          go_wp2_with fail
          refine (callB (equalInts_any _ _ _ _ _ _ _ (HV.out.up U2.out) (K2.out.up (by repeat (first | exact Chg.refl _ _ | apply Chg.drew | apply Chg.drewN | refine Chg.alloc ?_ _)))) HS.out).mono ?_
          rintro e w3 ⟨rfl, g3⟩
          have U3 := Lib.hid (Chg.trans U2.out (Chg.trans (by repeat (first | exact Chg.refl _ _ | apply Chg.drew | apply Chg.drewN | refine Chg.alloc ?_ _)) g3))
          clear g3 f0 f1 f2 e0
          have f0 := Chg.cell U3.out Hf0.out id
          have f1 := Chg.cell U3.out Hf1.out id
          have f2 := Chg.cell U3.out Hf2.out id
          have e0 := Chg.cell U3.out He0.out id
          go_wp2_with fail
          refine (halfTwist_any _ x.fs[j].length hl12).mono ?_
          rintro e w4 ⟨v4, rfl, k4, g4⟩
          have K4 := Lib.hid k4
          clear k4
          have U4 := Lib.hid (Chg.trans U3.out (Chg.trans (by repeat (first | exact Chg.refl _ _ | apply Chg.drew | apply Chg.drewN | refine Chg.alloc ?_ _)) g4))
          clear g4 f0 f1 f2 e0
          have f0 := Chg.cell U4.out Hf0.out id
          have f1 := Chg.cell U4.out Hf1.out id
          have f2 := Chg.cell U4.out Hf2.out id
          have e0 := Chg.cell U4.out He0.out id
          cases hid : sameL x.fs[j] (halfM x.fs[j].length) with
          | true =>
            have HT := Lib.hid hid
            have HB := Lib.hid (okN_fac hlt (facB_half (by rw [EF.out]; exact hid)))
            clear hid
            go_wp2_with fail
            refine (callB (equalInts_any _ _ _ _ _ _ _ (HV.out.up U4.out) (K4.out.up (by repeat (first | exact Chg.refl _ _ | apply Chg.drew | apply Chg.drewN | refine Chg.alloc ?_ _)))) HT.out).mono ?_
            rintro e w5 ⟨rfl, g5⟩
            have U5 := Lib.hid (Chg.trans U4.out (Chg.trans (by repeat (first | exact Chg.refl _ _ | apply Chg.drew | apply Chg.drewN | refine Chg.alloc ?_ _)) g5))
            clear g5 f0 f1 f2 e0
            have f0 := Chg.cell U5.out Hf0.out id
            have f1 := Chg.cell U5.out Hf1.out id
            have f2 := Chg.cell U5.out Hf2.out id
            have e0 := Chg.cell U5.out He0.out id
            go_wp2
            go_ret
            exact ⟨ret_bool HB.out.symm, Chg.trans UW.out (Chg.trans hu.out U5.out)⟩
          | false =>
            have HT := Lib.hid hid
            clear hid
            go_wp2_with fail
            refine (callB (equalInts_any _ _ _ _ _ _ _ (HV.out.up U4.out) (K4.out.up (by repeat (first | exact Chg.refl _ _ | apply Chg.drew | apply Chg.drewN | refine Chg.alloc ?_ _)))) HT.out).mono ?_
            rintro e w5 ⟨rfl, g5⟩
            have U5 := Lib.hid (Chg.trans U4.out (Chg.trans (by repeat (first | exact Chg.refl _ _ | apply Chg.drew | apply Chg.drewN | refine Chg.alloc ?_ _)) g5))
            clear g5 f0 f1 f2 e0
            have f0 := Chg.cell U5.out Hf0.out id
            have f1 := Chg.cell U5.out Hf1.out id
            have f2 := Chg.cell U5.out Hf2.out id
            have e0 := Chg.cell U5.out He0.out id
            have HR := Lib.hid (facB_rest (n := x.n) (fs := x.fs) (i := j) (by rw [EF.out]; exact HN.out) (by rw [EF.out]; exact HPM.out) (by rw [EF.out]; exact HS.out) (by rw [EF.out]; exact HT.out))
            by_cases h0 : j = 0
            · have HX := Lib.hid (hp.out.next (HR.out.trans (by rw [decide_eq_true h0]; rfl)))
              have hb0 : decide (0 < j) = false := decide_eq_false (by omega)
              go_wp2
              go_roundw
              case rel => exact ⟨j + 1, by omega, by go_num, Lib.hid (Chg.trans hu.out U5.out), HX.out⟩
              case measure => first | (simp [intOf]; done) | (simp [intOf]; omega)
            have hb0 : decide (0 < j) = true := decide_eq_true (by omega)
            have hw1 : IntKind.i64.wrap ((j : Int) - 1) = (j : Int) - 1 := IntWalk.i64_in _ (by omega)
            have hw2 : (j : Int) - 1 = ((j - 1 : Nat) : Int) := by omega
            have hlt1 : j - 1 < x.fs.length := by omega
            have HPP := Lib.hid (hp.out.perm (i := j - 1) (by omega))
            obtain ⟨b6, o6, c6', vs6, he6, -, -, -, hE6, hc6⟩ := (H0.out.up (Chg.trans hu.out U5.out)).at_ hlt1
            obtain ⟨⟨rfl, rfl⟩, rfl⟩ : (b3 = b6 ∧ o3 = o6) ∧ c = c6' := by simpa using he6
            obtain ⟨A6, k6, rfl, hv6, -⟩ := IntsE.val hE6
            have d0 := (hc6 0 _ rfl).1
            simp only [Nat.mul_one, Nat.add_zero] at d0
            have HV6 := Lib.hid hv6
            have EP := Lib.hid (fac_eq hlt1)
            clear hc6 hv6 he6
            rw [EP.out] at HPP
            have HR2 : Hid (facB x.n x.fs j = decide (extraM x.fs[j - 1] x.fs[j] = 0)) := Lib.hid (HR.out.trans (by rw [decide_eq_false h0, EF.out, EP.out]; rfl))
            by_cases hx : extraM x.fs[j - 1] x.fs[j] = 0
            · have HX := Lib.hid (hp.out.next (HR2.out.trans (decide_eq_true hx)))
              have HXX := Lib.hid hx
              clear hx
              go_wp2_with fail
              refine (callI (missing_any _ _ _ _ _ _ _ (HV6.out.up (by repeat (first | exact Chg.refl _ _ | apply Chg.drew | apply Chg.drewN | refine Chg.alloc ?_ _))) (HV.out.up (Chg.trans U5.out (by repeat (first | exact Chg.refl _ _ | apply Chg.drew | apply Chg.drewN | refine Chg.alloc ?_ _)))) HPP.out hl12) HXX.out).mono ?_
              rintro e w6 ⟨rfl, g6⟩
              have U6 := Lib.hid (Chg.trans U5.out (Chg.trans (by repeat (first | exact Chg.refl _ _ | apply Chg.drew | apply Chg.drewN | refine Chg.alloc ?_ _)) g6))
              clear g6 d0 f0 f1 f2 e0
              go_wp2
              go_roundw
              case rel => exact ⟨j + 1, by omega, by go_num, Lib.hid (Chg.trans hu.out U6.out), HX.out⟩
              case measure => first | (simp [intOf]; done) | (simp [intOf]; omega)
            · have HB := Lib.hid (okN_fac hlt (HR2.out.trans (decide_eq_false hx)))
              have hbx : (extraM x.fs[j - 1] x.fs[j] != 0) = true := by simpa using hx
              clear hx
              go_wp2_with fail
              refine (missing_any _ _ _ _ _ _ _ (HV6.out.up (by repeat (first | exact Chg.refl _ _ | apply Chg.drew | apply Chg.drewN | refine Chg.alloc ?_ _))) (HV.out.up (Chg.trans U5.out (by repeat (first | exact Chg.refl _ _ | apply Chg.drew | apply Chg.drewN | refine Chg.alloc ?_ _)))) HPP.out hl12).mono ?_
              rintro e w6 ⟨rfl, g6⟩
              have U6 := Lib.hid (Chg.trans U5.out (Chg.trans (by repeat (first | exact Chg.refl _ _ | apply Chg.drew | apply Chg.drewN | refine Chg.alloc ?_ _)) g6))
              clear g6 d0 f0 f1 f2 e0
              go_wp2
              go_ret
              exact ⟨ret_bool HB.out.symm, Chg.trans UW.out (Chg.trans hu.out U6.out)⟩
    · obtain rfl : j = x.fs.length := by omega
      have HB := Lib.hid (HFIN.out hp.out)
      by_cases h2 : 2 ≤ x.n
      · have HC := Lib.hid (show (decide (2 ≤ x.n) || decide (x.p = 0)) = true by rw [decide_eq_true h2]; rfl)
        go_wp2
        go_ret
        exact ⟨ret_bool (by rw [HB.out, HC.out]), Chg.trans UW.out hu.out⟩
      · have HC := Lib.hid (show (decide (2 ≤ x.n) || decide (x.p = 0)) = decide (x.p = 0) by rw [decide_eq_false h2]; rfl)
        by_cases h3 : x.p = 0
        · have hb : (x.p == 0) = true := by simpa using h3
          have HD := Lib.hid (decide_eq_true h3)
          clear h3
          go_wp2
          go_ret
          exact ⟨ret_bool (by rw [HB.out, HC.out, HD.out]), Chg.trans UW.out hu.out⟩
        · have hb : (x.p == 0) = false := by simpa using h3
          have HD := Lib.hid (decide_eq_false h3)
          clear h3
          go_wp2
          go_ret
          exact ⟨ret_bool (by rw [HB.out, HC.out, HD.out]), Chg.trans UW.out hu.out⟩
end Go.Proofs.Ytjgdcjhmfbefdaa
