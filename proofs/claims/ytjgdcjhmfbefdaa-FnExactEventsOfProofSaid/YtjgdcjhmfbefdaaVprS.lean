/- The reference's ValidProof. No condition. -/
import Derived.Test.YtjgdcjhmfbefdaaVprE
import Derived.Test.YtjgdcjhmfbefdaaEvW
import Derived.Test.YtjgdcjhmfbefdaaPermO
set_option linter.unusedSimpArgs false
set_option linter.unusedVariables false
set_option maxRecDepth 100000
set_option maxHeartbeats 8000000
namespace Go.Proofs.Ytjgdcjhmfbefdaa
open Go.ChangeShapes Go.WideShapes Go.ChangeAt Go.RowKit
theorem prStep_st {p : ProofM} {j : Nat} {n : Int} (h : stM (stsI p j) n = none) : prStep p (some n) j = none := by
  by_cases hc : prC p j n
  · rw [prStep_yes hc, h]
  · exact prStep_no hc
theorem prC_ok {p : ProofM} {j : Nat} {n : Int} (h : okN (formI p j) = false) : ¬ prC p j n := fun c => by have := c.1; rw [h] at this; cases this
theorem prC_n {p : ProofM} {j : Nat} {n : Int} (h : ¬ (formI p j).n = n) : ¬ prC p j n := fun c => h c.2.1
theorem prC_triv {p : ProofM} {j : Nat} {n : Int} (h : 0 < j ∧ (formI p j).p = 0 ∧ (formI p j).fs.length = 0) : ¬ prC p j n := fun c => c.2.2.1 h
theorem prC_long {p : ProofM} {j : Nat} {n : Int} (h : ¬ (stsI p j).length ≤ 2000) : ¬ prC p j n := fun c => h c.2.2.2.1
theorem prC_none {p : ProofM} {j : Nat} {n : Int} (h : j + 1 < p.forms.length ∧ (stsI p j).length = 0) : ¬ prC p j n := fun c => c.2.2.2.2.1 h
theorem prC_cross {p : ProofM} {j : Nat} {n : Int} (h : crossB (stsI p j) = true) : ¬ prC p j n := fun c => by have := c.2.2.2.2.2; rw [h] at this; cases this
theorem l26Ok_any (w : World) (M H L : Nat → Prop) (b o : Nat) (p : ProofM) (A0 A1 : Option Addr) (c0 c1 : Nat) (q0 : w.cell? ⟨b, o, none⟩ = some (.slice A0 p.forms.length c0)) (q1 : w.cell? ⟨b, o + 1, none⟩ = some (.slice A1 p.sts.length c1))
    (h0 : NormSV w M H L (.slice A0 p.forms.length c0) p.forms) (h1 : EvSV w M H L (.slice A1 p.sts.length c1) p.sts) (hl0 : p.forms.length ≤ c0) (hc0 : c0 ≤ 9223372036854775807) (hl1 : p.sts.length ≤ c1) (hc1 : c1 ≤ 9223372036854775807) :
    Calls Try.prog 92 #[.pointer (some ⟨b, o, none⟩)] w fun e w' => e = .returned (.bool (okP p)) ∧ Up w w' := by
  have H0 := Lib.hid h0
  have H1 := Lib.hid h1
  have Hq0 := Lib.hid q0
  have Hq1 := Lib.hid q1
  clear h0 h1
  by_cases hlen : p.forms.length = p.sts.length
  rotate_left
  · have hb : ((p.forms.length : Int) != p.sts.length) = true := by simp; omega
    have HB := Lib.hid (okP_len (p := p) (by omega))
    clear hlen
    go_enter Try.func92, Try.ntmps92
    go_wp2
    go_quiet (fail)
    go_wp2
    go_ret
    exact ⟨ret_bool HB.out.symm, (by repeat (first | exact Chg.refl _ _ | apply Chg.drew | apply Chg.drewN | refine Chg.alloc ?_ _))⟩
  have hb : ((p.forms.length : Int) != p.sts.length) = false := by simp; omega
  have HLEN := Lib.hid hlen
  clear hlen
  by_cases hin : 1 ≤ (p.forms.length : Int) ∧ (p.forms.length : Int) ≤ 60
  rotate_left
  · have HC := Lib.hid (show inB (p.forms.length : Int) 1 60 = false from decide_eq_false hin)
    have HB := Lib.hid (okP_len (p := p) (by omega))
    clear hin
    go_enter Try.func92, Try.ntmps92
    go_wp2
    go_quiet ((first | (go_at_call 68; exact quiet_left (callS (l00In_any _ _ _ _) HC.out))))
    go_wp2
    go_ret
    exact ⟨ret_bool HB.out.symm, (by repeat (first | exact Chg.refl _ _ | apply Chg.drew | apply Chg.drewN | refine Chg.alloc ?_ _))⟩
  have HC := Lib.hid (inB_yes hin)
  have HLL : Hid (1 ≤ p.forms.length ∧ p.forms.length ≤ 60 ∧ p.sts.length = p.forms.length) := Lib.hid (by have := HLEN.out; omega)
  clear hin
  go_enter Try.func92, Try.ntmps92
  go_wp2
  go_quiet ((first | (go_at_call 68; exact quiet_left (callS (l00In_any _ _ _ _) HC.out))))
  go_wp2
  clear q0 q1 hb
  go_loopw [3, 4] (fun s i wr => ∃ (j : Nat) (m : Int), j ≤ p.forms.length ∧ i = .int .i64 j ∧ s = .int .i64 m ∧ Hid (prTo p j = some m) ∧ Hid (Up w wr)) (fun _ i _ => p.forms.length - (intOf i).toNat)
  case atStart => exact ⟨0, 0, by omega, rfl, rfl, Lib.hid rfl, Lib.hid (by repeat (first | exact Chg.refl _ _ | apply Chg.drew | apply Chg.drewN | refine Chg.alloc ?_ _))⟩
  case round =>
    obtain ⟨j, m, hj, rfl, rfl, hs, hu⟩ := hrel
    have q0 := Chg.cell hu.out Hq0.out id
    have q1 := Chg.cell hu.out Hq1.out id
    clear Hq0 Hq1
    by_cases hlt : j < p.forms.length
    · skip
      have hltS : j < p.sts.length := by have := HLEN.out; omega
      obtain ⟨b3, o3, c3', vs3, he3, -, -, -, hE3, hc3⟩ := (H0.out.up hu.out).at_ hlt
      obtain ⟨rfl, rfl⟩ : A0 = some ⟨b3, o3, none⟩ ∧ c0 = c3' := by simpa using he3
      obtain ⟨A3, k3, rfl, hv3, ⟨hl3, hk3⟩, -, -⟩ := hE3
      have f0 := (hc3 0 _ rfl).1
      have f1 := (hc3 1 _ rfl).1
      have f2 := (hc3 2 _ rfl).1
      rw [Nat.add_zero] at f0
      have HV3 := Lib.hid hv3
      obtain ⟨b5, o5, c5', vs5, he5, -, -, -, hE5, hc5⟩ := (H1.out.up hu.out).at_ hltS
      obtain ⟨rfl, rfl⟩ : A1 = some ⟨b5, o5, none⟩ ∧ c1 = c5' := by simpa using he5
      obtain ⟨A5, k5, rfl, hv5, hl5, hk5⟩ := hE5
      have e0 := (hc5 0 _ rfl).1
      simp only [Nat.mul_one, Nat.add_zero] at e0
      have HV5 := Lib.hid hv5
      clear hc3 hv3 he3 hc5 hv5 he5
      have EF := Lib.hid (formI_eq hlt)
      have ES := Lib.hid (stsI_eq hltS)
      have U0 : Hid (Up wr wr) := Lib.hid (Chg.refl _ _)
      have Hq0 := Lib.hid q0
      have Hq1 := Lib.hid q1
      have Hf0 := Lib.hid f0
      have Hf1 := Lib.hid f1
      have Hf2 := Lib.hid f2
      have He0 := Lib.hid e0
      cases hok : okN p.forms[j] with
      | false =>
        have HK := Lib.hid hok
        have HB := Lib.hid (okP_stop hlt hs.out (prStep_no (prC_ok (by rw [EF.out]; exact hok))))
        clear hok
        go_wp2_with fail
        refine (callB (l04Ok_any _ M H L b3 (o3 + j * 3) p.forms[j] A3 k3 f0 f1 f2 (HV3.out.up (by repeat (first | exact Chg.refl _ _ | apply Chg.drew | apply Chg.drewN | refine Chg.alloc ?_ _))) hl3 hk3) HK.out).mono ?_
        rintro e w1 ⟨rfl, g1⟩
        have U1 := Lib.hid (Chg.trans U0.out (Chg.trans (by repeat (first | exact Chg.refl _ _ | apply Chg.drew | apply Chg.drewN | refine Chg.alloc ?_ _)) g1))
        clear g1 q0 q1 f0 f1 f2 e0
        have q0 := Chg.cell U1.out Hq0.out id
        have q1 := Chg.cell U1.out Hq1.out id
        have f0 := Chg.cell U1.out Hf0.out id
        have f1 := Chg.cell U1.out Hf1.out id
        have f2 := Chg.cell U1.out Hf2.out id
        have e0 := Chg.cell U1.out He0.out id
        go_wp2
        go_ret
        exact ⟨ret_bool HB.out.symm, Chg.trans hu.out U1.out⟩
      | true =>
      have HK := Lib.hid hok
      have HBD := Lib.hid (okN_bd hok)
      clear hok
      by_cases hn : p.forms[j].n = m
      rotate_left
      · have hbn : (p.forms[j].n != m) = true := by simpa using hn
        have HB := Lib.hid (okP_stop hlt hs.out (prStep_no (prC_n (by rw [EF.out]; exact hn))))
        clear hn
        go_wp2_with fail
        refine (callB (l04Ok_any _ M H L b3 (o3 + j * 3) p.forms[j] A3 k3 f0 f1 f2 (HV3.out.up (by repeat (first | exact Chg.refl _ _ | apply Chg.drew | apply Chg.drewN | refine Chg.alloc ?_ _))) hl3 hk3) HK.out).mono ?_
        rintro e w1 ⟨rfl, g1⟩
        have U1 := Lib.hid (Chg.trans U0.out (Chg.trans (by repeat (first | exact Chg.refl _ _ | apply Chg.drew | apply Chg.drewN | refine Chg.alloc ?_ _)) g1))
        clear g1 q0 q1 f0 f1 f2 e0
        have q0 := Chg.cell U1.out Hq0.out id
        have q1 := Chg.cell U1.out Hq1.out id
        have f0 := Chg.cell U1.out Hf0.out id
        have f1 := Chg.cell U1.out Hf1.out id
        have f2 := Chg.cell U1.out Hf2.out id
        have e0 := Chg.cell U1.out He0.out id
        go_wp2
        go_ret
        exact ⟨ret_bool HB.out.symm, Chg.trans hu.out U1.out⟩
      have hbn : (p.forms[j].n != m) = false := by simp [hn]
      have HM : Hid (0 ≤ m ∧ m ≤ 12) := Lib.hid (by have := HBD.out; omega)
      have HN := Lib.hid hn
      clear hn
      by_cases ht : 0 < j ∧ p.forms[j].p = 0 ∧ p.forms[j].fs.length = 0
      · have HB := Lib.hid (okP_stop hlt hs.out (prStep_no (prC_triv (by rw [EF.out]; exact ht))))
        have t0 : decide (0 < j) = true := decide_eq_true ht.1
        have t1 : (p.forms[j].p == 0) = true := by simp [ht.2.1]
        have t2 : ((p.forms[j].fs.length : Int) == 0) = true := by simp [ht.2.2]
        clear ht
        go_wp2_with fail
        refine (callB (l04Ok_any _ M H L b3 (o3 + j * 3) p.forms[j] A3 k3 f0 f1 f2 (HV3.out.up (by repeat (first | exact Chg.refl _ _ | apply Chg.drew | apply Chg.drewN | refine Chg.alloc ?_ _))) hl3 hk3) HK.out).mono ?_
        rintro e w1 ⟨rfl, g1⟩
        have U1 := Lib.hid (Chg.trans U0.out (Chg.trans (by repeat (first | exact Chg.refl _ _ | apply Chg.drew | apply Chg.drewN | refine Chg.alloc ?_ _)) g1))
        clear g1 q0 q1 f0 f1 f2 e0
        have q0 := Chg.cell U1.out Hq0.out id
        have q1 := Chg.cell U1.out Hq1.out id
        have f0 := Chg.cell U1.out Hf0.out id
        have f1 := Chg.cell U1.out Hf1.out id
        have f2 := Chg.cell U1.out Hf2.out id
        have e0 := Chg.cell U1.out He0.out id
        go_wp2
        go_ret
        exact ⟨ret_bool HB.out.symm, Chg.trans hu.out U1.out⟩
      have HT := Lib.hid ht
      have key : ∀ c : Bool, True := fun _ => trivial
      clear key
      by_cases hlg : p.sts[j].length ≤ 2000
      rotate_left
      · have HB := Lib.hid (okP_stop hlt hs.out (prStep_no (prC_long (by rw [ES.out]; exact hlg))))
        go_upto_region 8 with fail
        go_cut [84] (fun y wx => y = .bool true ∧ Hid (Up wr wx))
        case first =>
          rcases (show j = 0 ∨ (0 < j ∧ p.forms[j].p ≠ 0) ∨ (0 < j ∧ p.forms[j].p = 0 ∧ p.forms[j].fs.length ≠ 0) by omega) with h0 | ⟨h0, h1⟩ | ⟨h0, h1, h2⟩
          · have t0 : decide (0 < j) = false := decide_eq_false (by omega)
            have HJ := Lib.hid h0
            clear h0
            clear ht
            go_wp2_with fail
            refine (callB (l04Ok_any _ M H L b3 (o3 + j * 3) p.forms[j] A3 k3 f0 f1 f2 (HV3.out.up (by repeat (first | exact Chg.refl _ _ | apply Chg.drew | apply Chg.drewN | refine Chg.alloc ?_ _))) hl3 hk3) HK.out).mono ?_
            rintro e w1 ⟨rfl, g1⟩
            have U1 := Lib.hid (Chg.trans U0.out (Chg.trans (by repeat (first | exact Chg.refl _ _ | apply Chg.drew | apply Chg.drewN | refine Chg.alloc ?_ _)) g1))
            clear g1 q0 q1 f0 f1 f2 e0
            have q0 := Chg.cell U1.out Hq0.out id
            have q1 := Chg.cell U1.out Hq1.out id
            have f0 := Chg.cell U1.out Hf0.out id
            have f1 := Chg.cell U1.out Hf1.out id
            have f2 := Chg.cell U1.out Hf2.out id
            have e0 := Chg.cell U1.out He0.out id
            go_wp2
            go_meet
            exact ⟨by first | rfl | exact congrArg Value.bool (decide_eq_true (by omega)) | exact congrArg Value.bool (decide_eq_false (by omega)), U1⟩
          · have t0 : decide (0 < j) = true := decide_eq_true h0
            have t1 : (p.forms[j].p == 0) = false := by simpa using h1
            clear h0 h1
            clear ht
            go_wp2_with fail
            refine (callB (l04Ok_any _ M H L b3 (o3 + j * 3) p.forms[j] A3 k3 f0 f1 f2 (HV3.out.up (by repeat (first | exact Chg.refl _ _ | apply Chg.drew | apply Chg.drewN | refine Chg.alloc ?_ _))) hl3 hk3) HK.out).mono ?_
            rintro e w1 ⟨rfl, g1⟩
            have U1 := Lib.hid (Chg.trans U0.out (Chg.trans (by repeat (first | exact Chg.refl _ _ | apply Chg.drew | apply Chg.drewN | refine Chg.alloc ?_ _)) g1))
            clear g1 q0 q1 f0 f1 f2 e0
            have q0 := Chg.cell U1.out Hq0.out id
            have q1 := Chg.cell U1.out Hq1.out id
            have f0 := Chg.cell U1.out Hf0.out id
            have f1 := Chg.cell U1.out Hf1.out id
            have f2 := Chg.cell U1.out Hf2.out id
            have e0 := Chg.cell U1.out He0.out id
            go_wp2
            go_meet
            exact ⟨by first | rfl | exact congrArg Value.bool (decide_eq_true (by omega)) | exact congrArg Value.bool (decide_eq_false (by omega)), U1⟩
          · have t0 : decide (0 < j) = true := decide_eq_true h0
            have t1 : (p.forms[j].p == 0) = true := by simp [h1]
            have t2 : ((p.forms[j].fs.length : Int) == 0) = false := by simp; exact fun h => h2 (by rw [h]; rfl)
            clear h0 h1 h2
            clear ht
            go_wp2_with fail
            refine (callB (l04Ok_any _ M H L b3 (o3 + j * 3) p.forms[j] A3 k3 f0 f1 f2 (HV3.out.up (by repeat (first | exact Chg.refl _ _ | apply Chg.drew | apply Chg.drewN | refine Chg.alloc ?_ _))) hl3 hk3) HK.out).mono ?_
            rintro e w1 ⟨rfl, g1⟩
            have U1 := Lib.hid (Chg.trans U0.out (Chg.trans (by repeat (first | exact Chg.refl _ _ | apply Chg.drew | apply Chg.drewN | refine Chg.alloc ?_ _)) g1))
            clear g1 q0 q1 f0 f1 f2 e0
            have q0 := Chg.cell U1.out Hq0.out id
            have q1 := Chg.cell U1.out Hq1.out id
            have f0 := Chg.cell U1.out Hf0.out id
            have f1 := Chg.cell U1.out Hf1.out id
            have f2 := Chg.cell U1.out Hf2.out id
            have e0 := Chg.cell U1.out He0.out id
            go_wp2
            go_meet
            exact ⟨by first | rfl | exact congrArg Value.bool (decide_eq_true (by omega)) | exact congrArg Value.bool (decide_eq_false (by omega)), U1⟩
        case rest =>
        obtain ⟨rfl, U1⟩ := hcut
        clear ht q0 q1 f0 f1 f2 e0
        have q0 := Chg.cell U1.out Hq0.out id
        have q1 := Chg.cell U1.out Hq1.out id
        have f0 := Chg.cell U1.out Hf0.out id
        have f1 := Chg.cell U1.out Hf1.out id
        have f2 := Chg.cell U1.out Hf2.out id
        have e0 := Chg.cell U1.out He0.out id
        go_wp2
        go_ret
        exact ⟨ret_bool HB.out.symm, Chg.trans hu.out U1.out⟩
      go_upto_region 8 with fail
      go_cut [84] (fun y wx => y = .bool false ∧ Hid (Up wr wx))
      case first =>
        rcases (show j = 0 ∨ (0 < j ∧ p.forms[j].p ≠ 0) ∨ (0 < j ∧ p.forms[j].p = 0 ∧ p.forms[j].fs.length ≠ 0) by omega) with h0 | ⟨h0, h1⟩ | ⟨h0, h1, h2⟩
        · have t0 : decide (0 < j) = false := decide_eq_false (by omega)
          have HJ := Lib.hid h0
          clear h0
          clear ht
          go_wp2_with fail
          refine (callB (l04Ok_any _ M H L b3 (o3 + j * 3) p.forms[j] A3 k3 f0 f1 f2 (HV3.out.up (by repeat (first | exact Chg.refl _ _ | apply Chg.drew | apply Chg.drewN | refine Chg.alloc ?_ _))) hl3 hk3) HK.out).mono ?_
          rintro e w1 ⟨rfl, g1⟩
          have U1 := Lib.hid (Chg.trans U0.out (Chg.trans (by repeat (first | exact Chg.refl _ _ | apply Chg.drew | apply Chg.drewN | refine Chg.alloc ?_ _)) g1))
          clear g1 q0 q1 f0 f1 f2 e0
          have q0 := Chg.cell U1.out Hq0.out id
          have q1 := Chg.cell U1.out Hq1.out id
          have f0 := Chg.cell U1.out Hf0.out id
          have f1 := Chg.cell U1.out Hf1.out id
          have f2 := Chg.cell U1.out Hf2.out id
          have e0 := Chg.cell U1.out He0.out id
          go_wp2
          go_meet
          exact ⟨by first | rfl | exact congrArg Value.bool (decide_eq_true (by omega)) | exact congrArg Value.bool (decide_eq_false (by omega)), U1⟩
        · have t0 : decide (0 < j) = true := decide_eq_true h0
          have t1 : (p.forms[j].p == 0) = false := by simpa using h1
          clear h0 h1
          clear ht
          go_wp2_with fail
          refine (callB (l04Ok_any _ M H L b3 (o3 + j * 3) p.forms[j] A3 k3 f0 f1 f2 (HV3.out.up (by repeat (first | exact Chg.refl _ _ | apply Chg.drew | apply Chg.drewN | refine Chg.alloc ?_ _))) hl3 hk3) HK.out).mono ?_
          rintro e w1 ⟨rfl, g1⟩
          have U1 := Lib.hid (Chg.trans U0.out (Chg.trans (by repeat (first | exact Chg.refl _ _ | apply Chg.drew | apply Chg.drewN | refine Chg.alloc ?_ _)) g1))
          clear g1 q0 q1 f0 f1 f2 e0
          have q0 := Chg.cell U1.out Hq0.out id
          have q1 := Chg.cell U1.out Hq1.out id
          have f0 := Chg.cell U1.out Hf0.out id
          have f1 := Chg.cell U1.out Hf1.out id
          have f2 := Chg.cell U1.out Hf2.out id
          have e0 := Chg.cell U1.out He0.out id
          go_wp2
          go_meet
          exact ⟨by first | rfl | exact congrArg Value.bool (decide_eq_true (by omega)) | exact congrArg Value.bool (decide_eq_false (by omega)), U1⟩
        · have t0 : decide (0 < j) = true := decide_eq_true h0
          have t1 : (p.forms[j].p == 0) = true := by simp [h1]
          have t2 : ((p.forms[j].fs.length : Int) == 0) = false := by simp; exact fun h => h2 (by rw [h]; rfl)
          clear h0 h1 h2
          clear ht
          go_wp2_with fail
          refine (callB (l04Ok_any _ M H L b3 (o3 + j * 3) p.forms[j] A3 k3 f0 f1 f2 (HV3.out.up (by repeat (first | exact Chg.refl _ _ | apply Chg.drew | apply Chg.drewN | refine Chg.alloc ?_ _))) hl3 hk3) HK.out).mono ?_
          rintro e w1 ⟨rfl, g1⟩
          have U1 := Lib.hid (Chg.trans U0.out (Chg.trans (by repeat (first | exact Chg.refl _ _ | apply Chg.drew | apply Chg.drewN | refine Chg.alloc ?_ _)) g1))
          clear g1 q0 q1 f0 f1 f2 e0
          have q0 := Chg.cell U1.out Hq0.out id
          have q1 := Chg.cell U1.out Hq1.out id
          have f0 := Chg.cell U1.out Hf0.out id
          have f1 := Chg.cell U1.out Hf1.out id
          have f2 := Chg.cell U1.out Hf2.out id
          have e0 := Chg.cell U1.out He0.out id
          go_wp2
          go_meet
          exact ⟨by first | rfl | exact congrArg Value.bool (decide_eq_true (by omega)) | exact congrArg Value.bool (decide_eq_false (by omega)), U1⟩
      case rest =>
      obtain ⟨rfl, U1⟩ := hcut
      clear ht q0 q1 f0 f1 f2 e0
      have q0 := Chg.cell U1.out Hq0.out id
      have q1 := Chg.cell U1.out Hq1.out id
      have f0 := Chg.cell U1.out Hf0.out id
      have f1 := Chg.cell U1.out Hf1.out id
      have f2 := Chg.cell U1.out Hf2.out id
      have e0 := Chg.cell U1.out He0.out id
      by_cases hem : j + 1 < p.forms.length ∧ p.sts[j].length = 0
      · have HB := Lib.hid (okP_stop hlt hs.out (prStep_no (prC_none (by rw [ES.out]; exact hem))))
        have s0 : decide ((j : Int) + 1 < (p.forms.length : Int)) = true := decide_eq_true (by omega)
        have s1 : ((p.sts[j].length : Int) == 0) = true := by simp [hem.2]
        clear hem
        go_wp2
        go_ret
        exact ⟨ret_bool HB.out.symm, Chg.trans hu.out U1.out⟩
      have HEM := Lib.hid hem
      go_upto_region 10 with fail
      go_cut [103] (fun y wx => y = .bool false ∧ wc = wx)
      case first =>
        rcases (show ¬ j + 1 < p.forms.length ∨ (j + 1 < p.forms.length ∧ p.sts[j].length ≠ 0) by omega) with hz | ⟨hz, hz2⟩
        · have s0 : decide ((j : Int) + 1 < (p.forms.length : Int)) = false := decide_eq_false (by omega)
          clear hz hem
          go_wp2
          go_meet
          exact ⟨by first | rfl | rw [s1], rfl⟩
        · have s0 : decide ((j : Int) + 1 < (p.forms.length : Int)) = true := decide_eq_true (by omega)
          have s1 : ((p.sts[j].length : Int) == 0) = false := by simp; exact fun h => hz2 (by rw [h]; rfl)
          clear hz hz2 hem
          go_wp2
          go_meet
          exact ⟨by first | rfl | rw [s1], rfl⟩
      case rest =>
      obtain ⟨rfl, rfl⟩ := hcut
      clear hem
      go_wp2
      clear q0 q1 f0 f1 f2 e0
      go_loopw [3, 6] (fun s i wx => ∃ (t : Nat) (m' : Int), t ≤ p.sts[j].length ∧ i = .int .i64 t ∧ s = .int .i64 m' ∧ Hid (stM (p.sts[j].take t) m = some m') ∧ Hid (noCross p.sts[j] t) ∧ Hid (Up wc wx)) (fun _ i _ => p.sts[j].length - (intOf i).toNat)
      case atStart => exact ⟨0, m, by omega, rfl, rfl, Lib.hid (by simp [stM]), noCross.start _, Chg.refl _ _⟩
      have UB := Lib.hid (Chg.trans hu.out U1.out)
      have K5 := Lib.hid (HV5.out.up U1.out)
      skip
      have Kq0 := Chg.cell U1.out Hq0.out id
      have Jq0 := Lib.hid Kq0
      clear Kq0
      have Kq1 := Chg.cell U1.out Hq1.out id
      have Jq1 := Lib.hid Kq1
      clear Kq1
      have Ke0 := Chg.cell U1.out He0.out id
      have Je0 := Lib.hid Ke0
      clear Ke0
      clear hu
      case round =>
        obtain ⟨t, m', ht, rfl, rfl, hst, hnc, hu⟩ := hrel
        have HMM := Lib.hid (stM_bd HM.out hst.out)
        have q0 := Chg.cell hu.out Jq0.out id
        have q1 := Chg.cell hu.out Jq1.out id
        have e0 := Chg.cell hu.out Je0.out id
        by_cases hlt2 : t < p.sts[j].length
        · obtain ⟨b7, o7, c7', he7, -, -, hc7⟩ := (K5.out.up hu.out).at_ hlt2
          obtain ⟨rfl, rfl⟩ : A5 = some ⟨b7, o7, none⟩ ∧ k5 = c7' := by simpa using he7
          have d0 := (hc7 0 _ rfl).1
          have d1 := (hc7 1 _ rfl).1
          have d2 := (hc7 2 _ rfl).1
          have d3 := (hc7 3 _ rfl).1
          have d4 := (hc7 4 _ rfl).1
          have d5 := (hc7 5 _ rfl).1
          rw [Nat.add_zero] at d0
          clear hc7 he7
          have Hd0 := Lib.hid d0
          cases hev : decide (evP p.sts[j][t].kind p.sts[j][t].place p.sts[j][t].count p.sts[j][t].bed p.sts[j][t].car p.sts[j][t].dir m') with
          | false =>
            have HV := Lib.hid hev
            have HB := Lib.hid (okP_stop hlt hs.out (prStep_st (by rw [ES.out]; exact stM_stop hlt2 hst.out (stStep_no hev))))
            clear hev
            go_wp2_with fail
            refine (l10Event_any _ b7 (o7 + t * 6) p.sts[j][t].kind p.sts[j][t].place p.sts[j][t].count p.sts[j][t].bed p.sts[j][t].car p.sts[j][t].dir m' HMM.out d0 d1 d2 d3 d4 d5).mono ?_
            rintro e w2 ⟨mm, rfl, hmm, g2⟩
            rw [HV.out]
            clear q0 q1 e0 d0 d1 d2 d3 d4 d5
            have U2 := Lib.hid (Chg.trans hu.out (Chg.trans (by repeat (first | exact Chg.refl _ _ | apply Chg.drew | apply Chg.drewN | refine Chg.alloc ?_ _)) g2))
            have MM := Lib.hid hmm
            have q0 := Chg.cell U2.out Jq0.out id
            have q1 := Chg.cell U2.out Jq1.out id
            have e0 := Chg.cell U2.out Je0.out id
            have d0 := Chg.cell (Chg.trans (by repeat (first | exact Chg.refl _ _ | apply Chg.drew | apply Chg.drewN | refine Chg.alloc ?_ _)) g2) Hd0.out id
            clear g2 hmm
            go_wp2
            go_ret
            exact ⟨ret_bool HB.out.symm, Chg.trans UB.out U2.out⟩
          | true =>
          have HV := Lib.hid hev
          clear hev
          cases hk : (p.sts[j][t].kind == 1) with
          | true =>
            have HB := Lib.hid (okP_stop hlt hs.out (prStep_no (prC_cross (by rw [ES.out]; exact cross_at hlt2 hk))))
            go_wp2_with fail
            refine (l10Event_any _ b7 (o7 + t * 6) p.sts[j][t].kind p.sts[j][t].place p.sts[j][t].count p.sts[j][t].bed p.sts[j][t].car p.sts[j][t].dir m' HMM.out d0 d1 d2 d3 d4 d5).mono ?_
            rintro e w2 ⟨mm, rfl, hmm, g2⟩
            rw [HV.out]
            clear q0 q1 e0 d0 d1 d2 d3 d4 d5
            have U2 := Lib.hid (Chg.trans hu.out (Chg.trans (by repeat (first | exact Chg.refl _ _ | apply Chg.drew | apply Chg.drewN | refine Chg.alloc ?_ _)) g2))
            have MM := Lib.hid hmm
            have q0 := Chg.cell U2.out Jq0.out id
            have q1 := Chg.cell U2.out Jq1.out id
            have e0 := Chg.cell U2.out Je0.out id
            have d0 := Chg.cell (Chg.trans (by repeat (first | exact Chg.refl _ _ | apply Chg.drew | apply Chg.drewN | refine Chg.alloc ?_ _)) g2) Hd0.out id
            clear g2 hmm
            go_wp2
            go_ret
            exact ⟨ret_bool HB.out.symm, Chg.trans UB.out U2.out⟩
          | false =>
          have HNC := Lib.hid (hnc.out.next hlt2 hk)
          by_cases h12 : evAfter p.sts[j][t].kind p.sts[j][t].count m' ≤ 12
          · have HS := Lib.hid (show stM (p.sts[j].take (t + 1)) m = some (evAfter p.sts[j][t].kind p.sts[j][t].count m') by rw [stM_succ hlt2, hst.out]; exact stStep_yes HV.out h12)
            have H12 := Lib.hid h12
            clear h12
            go_wp2_with fail
            refine (l10Event_any _ b7 (o7 + t * 6) p.sts[j][t].kind p.sts[j][t].place p.sts[j][t].count p.sts[j][t].bed p.sts[j][t].car p.sts[j][t].dir m' HMM.out d0 d1 d2 d3 d4 d5).mono ?_
            rintro e w2 ⟨mm, rfl, hmm, g2⟩
            rw [HV.out]
            have h12 : mm ≤ 12 := by have h := H12.out; have e := hmm HV.out; omega
            have HS2 : Hid (stM (p.sts[j].take (t + 1)) m = some mm) := Lib.hid (by rw [hmm HV.out]; exact HS.out)
            clear q0 q1 e0 d0 d1 d2 d3 d4 d5
            have U2 := Lib.hid (Chg.trans hu.out (Chg.trans (by repeat (first | exact Chg.refl _ _ | apply Chg.drew | apply Chg.drewN | refine Chg.alloc ?_ _)) g2))
            have MM := Lib.hid hmm
            have q0 := Chg.cell U2.out Jq0.out id
            have q1 := Chg.cell U2.out Jq1.out id
            have e0 := Chg.cell U2.out Je0.out id
            have d0 := Chg.cell (Chg.trans (by repeat (first | exact Chg.refl _ _ | apply Chg.drew | apply Chg.drewN | refine Chg.alloc ?_ _)) g2) Hd0.out id
            clear g2 hmm
            go_wp2
            go_roundw
            case rel => exact ⟨t + 1, mm, by omega, by go_num, rfl, HS2, HNC, Lib.hid U2.out⟩
            case measure => first | (simp [intOf]; done) | (simp [intOf]; omega)
          · have HB := Lib.hid (okP_stop hlt hs.out (prStep_st (by rw [ES.out]; exact stM_stop hlt2 hst.out (stStep_big h12))))
            have H12 := Lib.hid h12
            clear h12
            go_wp2_with fail
            refine (l10Event_any _ b7 (o7 + t * 6) p.sts[j][t].kind p.sts[j][t].place p.sts[j][t].count p.sts[j][t].bed p.sts[j][t].car p.sts[j][t].dir m' HMM.out d0 d1 d2 d3 d4 d5).mono ?_
            rintro e w2 ⟨mm, rfl, hmm, g2⟩
            rw [HV.out]
            have h12 : ¬ mm ≤ 12 := by have h := H12.out; have e := hmm HV.out; omega
            clear q0 q1 e0 d0 d1 d2 d3 d4 d5
            have U2 := Lib.hid (Chg.trans hu.out (Chg.trans (by repeat (first | exact Chg.refl _ _ | apply Chg.drew | apply Chg.drewN | refine Chg.alloc ?_ _)) g2))
            have MM := Lib.hid hmm
            have q0 := Chg.cell U2.out Jq0.out id
            have q1 := Chg.cell U2.out Jq1.out id
            have e0 := Chg.cell U2.out Je0.out id
            have d0 := Chg.cell (Chg.trans (by repeat (first | exact Chg.refl _ _ | apply Chg.drew | apply Chg.drewN | refine Chg.alloc ?_ _)) g2) Hd0.out id
            clear g2 hmm
            go_wp2
            go_ret
            exact ⟨ret_bool HB.out.symm, Chg.trans UB.out U2.out⟩
        · obtain rfl : t = p.sts[j].length := by omega
          have HS := Lib.hid (show prTo p (j + 1) = some m' by rw [prTo_succ, hs.out, prStep_yes ⟨by rw [EF.out]; exact HK.out, by rw [EF.out]; exact HN.out, by rw [EF.out]; exact HT.out, by rw [ES.out]; exact hlg, by rw [ES.out]; exact HEM.out, by rw [ES.out]; exact hnc.out.all⟩, ES.out]; exact stM_all hst.out)
          go_wp2
          go_roundw
          case rel => exact ⟨j + 1, m', by omega, by go_num, rfl, HS, Lib.hid (Chg.trans UB.out hu.out)⟩
          case measure => first | (simp [intOf]; done) | (simp [intOf]; omega)
    · obtain rfl : j = p.forms.length := by omega
      have HB := Lib.hid (okP_all HLL.out hs.out)
      go_wp2
      go_ret
      exact ⟨ret_bool HB.out.symm, hu.out⟩
end Go.Proofs.Ytjgdcjhmfbefdaa
