/- The program's ValidProof. No condition. -/
import Derived.Test.YtjgdcjhmfbefdaaVprS
set_option linter.unusedSimpArgs false
set_option linter.unusedVariables false
set_option maxRecDepth 100000
set_option maxHeartbeats 4000000
namespace Go.Proofs.Ytjgdcjhmfbefdaa
open Go.ChangeShapes Go.WideShapes Go.ChangeAt Go.RowKit
theorem ValidProof_any (w : World) (M H L : Nat → Prop) (v : Value) (p : ProofM) (h : ProofV w M H L v p) :
    Calls Try.prog 27 #[v] w fun e w' => e = .returned (.bool (okP p)) ∧ Up w w' := by
  obtain ⟨A0, c0, A1, c1, rfl, h0, h1, ⟨hl0, hc0⟩, ⟨hl1, hc1⟩⟩ := h
  have UW := Lib.hid (show Up w (w.alloc (.cells #[.slice A0 p.forms.length c0, .slice A1 p.sts.length c1] 31)) from (Chg.refl Nowhere w).alloc _)
  have H0 := Lib.hid h0
  have H1 := Lib.hid h1
  have Hq0 := Lib.hid (show (w.alloc (.cells #[.slice A0 p.forms.length c0, .slice A1 p.sts.length c1] 31)).cell? ⟨w.heap.size, 0, none⟩ = some (.slice A0 p.forms.length c0) from cell_new _ _ _ _)
  have Hq1 := Lib.hid (show (w.alloc (.cells #[.slice A0 p.forms.length c0, .slice A1 p.sts.length c1] 31)).cell? ⟨w.heap.size, 1, none⟩ = some (.slice A1 p.sts.length c1) from cell_new _ _ _ _)
  clear h0 h1
  by_cases hl1' : p.forms.length < 1
  · have HB := Lib.hid (okP_len (p := p) (by omega))
    go_enter Try.func27, Try.ntmps27
    go_wp2
    go_ret
    exact ⟨ret_bool HB.out.symm, UW.out⟩
  by_cases hl2' : 60 < p.forms.length
  · have HB := Lib.hid (okP_len (p := p) (by omega))
    go_enter Try.func27, Try.ntmps27
    go_wp2
    go_ret
    exact ⟨ret_bool HB.out.symm, UW.out⟩
  by_cases hlen : p.forms.length = p.sts.length
  rotate_left
  · have hb : ((p.sts.length : Int) != p.forms.length) = true := by simp; omega
    have HB := Lib.hid (okP_len (p := p) (by omega))
    clear hlen
    go_enter Try.func27, Try.ntmps27
    go_wp2
    go_ret
    exact ⟨ret_bool HB.out.symm, UW.out⟩
  have hb : ((p.sts.length : Int) != p.forms.length) = false := by simp; omega
  have HLEN := Lib.hid hlen
  have HLL : Hid (1 ≤ p.forms.length ∧ p.forms.length ≤ 60 ∧ p.sts.length = p.forms.length) := Lib.hid (by omega)
  clear hlen
  go_enter Try.func27, Try.ntmps27
  go_wp2
  clear hb
  go_loopw [3, 31] (fun s i wr => ∃ (j : Nat) (m : Int), j ≤ p.forms.length ∧ i = .int .i64 j ∧ s = .int .i64 m ∧ Hid (prTo p j = some m) ∧ Hid (Up w wr) ∧ Hid (Up (w.alloc (.cells #[.slice A0 p.forms.length c0, .slice A1 p.sts.length c1] 31)) wr)) (fun _ i _ => p.forms.length - (intOf i).toNat)
  case atStart => exact ⟨0, 0, by omega, rfl, rfl, Lib.hid rfl, UW, Chg.refl _ _⟩
  case round =>
    obtain ⟨j, m, hj, rfl, rfl, hs, hu, hub⟩ := hrel
    have q0 := Chg.cell hub.out Hq0.out id
    have q1 := Chg.cell hub.out Hq1.out id
    clear Hq0 Hq1
    by_cases hlt : j < p.forms.length
    · skip
      have hltS : j < p.sts.length := by have := HLEN.out; omega
      obtain ⟨b3, o3, c3', vs3, he3, -, -, -, hE3, hc3⟩ := (H0.out.up hu.out).at_ hlt
      obtain ⟨rfl, rfl⟩ : A0 = some ⟨b3, o3, none⟩ ∧ c0 = c3' := by simpa using he3
      obtain ⟨A3, k3, rfl, hv3, ⟨hl3, hk3⟩, hi3, hi4⟩ := hE3
      have f0 := (hc3 0 _ rfl).1
      have f1 := (hc3 1 _ rfl).1
      have f2 := (hc3 2 _ rfl).1
      rw [Nat.add_zero] at f0
      have HV3 := Lib.hid hv3
      obtain ⟨b5, o5, c5', vs5, he5, -, -, -, hE5, hc5⟩ := (H1.out.up hu.out).at_ hltS
      obtain ⟨rfl, rfl⟩ : A1 = some ⟨b5, o5, none⟩ ∧ c1 = c5' := by simpa using he5
      obtain ⟨A5, k5, rfl, hv5, hl5, hk5⟩ := hE5
      have e0 := (hc5 0 _ rfl).1
      simp only [Nat.mul_one, Nat.add_zero] at e0
      have HV5 := Lib.hid hv5
      clear hc3 hv3 he3 hc5 hv5 he5
      have EF := Lib.hid (formI_eq hlt)
      have ES := Lib.hid (stsI_eq hltS)
      have HVV := Lib.hid (show NormV wr M H L (.agg #[.int .i64 p.forms[j].n, .int .i64 p.forms[j].p, .slice A3 p.forms[j].fs.length k3]) p.forms[j] from ⟨A3, k3, rfl, HV3.out, ⟨hl3, hk3⟩, hi3, hi4⟩)
      have UB := Lib.hid (show Up wr (wr.alloc (.cells #[.int .i64 p.forms[j].n, .int .i64 p.forms[j].p, .slice A3 p.forms[j].fs.length k3] 100)) from (Chg.refl Nowhere wr).alloc _)
      have U0 := Lib.hid (Chg.refl Nowhere (wr.alloc (.cells #[.int .i64 p.forms[j].n, .int .i64 p.forms[j].p, .slice A3 p.forms[j].fs.length k3] 100)))
      have HVW := Lib.hid (HVV.out.up UB.out)
      have e0' := Chg.cell UB.out e0 id
      clear e0
      have q0' := Chg.cell UB.out q0 id
      have q1' := Chg.cell UB.out q1 id
      clear q0 q1
      have q0 := q0'
      have q1 := q1'
      clear q0' q1'
      have g0 := (show ((wr.alloc (.cells #[.int .i64 p.forms[j].n, .int .i64 p.forms[j].p, .slice A3 p.forms[j].fs.length k3] 100))).cell? ⟨wr.heap.size, 0, none⟩ = some (.int .i64 p.forms[j].n) from cell_new _ _ _ _)
      have g1c := (show ((wr.alloc (.cells #[.int .i64 p.forms[j].n, .int .i64 p.forms[j].p, .slice A3 p.forms[j].fs.length k3] 100))).cell? ⟨wr.heap.size, 1, none⟩ = some (.int .i64 p.forms[j].p) from cell_new _ _ _ _)
      have g2c := (show ((wr.alloc (.cells #[.int .i64 p.forms[j].n, .int .i64 p.forms[j].p, .slice A3 p.forms[j].fs.length k3] 100))).cell? ⟨wr.heap.size, 2, none⟩ = some (.slice A3 p.forms[j].fs.length k3) from cell_new _ _ _ _)
      clear HVV
      have Hq0 := Lib.hid q0
      have Hq1 := Lib.hid q1
      have Hg0 := Lib.hid g0
      have Hg1c := Lib.hid g1c
      have Hg2c := Lib.hid g2c
      cases hok : okN p.forms[j] with
      | false =>
        have HK := Lib.hid hok
        have HB := Lib.hid (okP_stop hlt hs.out (prStep_no (prC_ok (by rw [EF.out]; exact hok))))
        clear hok
        go_wp2_with fail
        refine (callB (ValidNormal_any _ M H L _ p.forms[j] (HVW.out.up (by repeat (first | exact Chg.refl _ _ | apply Chg.drew | apply Chg.drewN | refine Chg.alloc ?_ _)))) HK.out).mono ?_
        rintro e w1 ⟨rfl, g1⟩
        have U1 := Lib.hid (Chg.trans U0.out (Chg.trans (by repeat (first | exact Chg.refl _ _ | apply Chg.drew | apply Chg.drewN | refine Chg.alloc ?_ _)) g1))
        clear g1 q0 q1 g0 g1c g2c f0 f1 f2 e0'
        have q0 := Chg.cell U1.out Hq0.out id
        have q1 := Chg.cell U1.out Hq1.out id
        have g0 := Chg.cell U1.out Hg0.out id
        have g1c := Chg.cell U1.out Hg1c.out id
        have g2c := Chg.cell U1.out Hg2c.out id
        skip
        skip
        skip
        skip
        go_wp2
        go_ret
        exact ⟨ret_bool HB.out.symm, Chg.trans hu.out (Chg.trans UB.out U1.out)⟩
      | true =>
      have HK := Lib.hid hok
      have HBD := Lib.hid (okN_bd hok)
      clear hok
      by_cases hn : p.forms[j].n = m
      rotate_left
      · have hbn : (p.forms[j].n != m) = true := by simpa using hn
        have HB := Lib.hid (okP_stop hlt hs.out (prStep_no (prC_n (by rw [EF.out]; exact hn))))
        clear hn
        go_wp2_with fail
        refine (callB (ValidNormal_any _ M H L _ p.forms[j] (HVW.out.up (by repeat (first | exact Chg.refl _ _ | apply Chg.drew | apply Chg.drewN | refine Chg.alloc ?_ _)))) HK.out).mono ?_
        rintro e w1 ⟨rfl, g1⟩
        have U1 := Lib.hid (Chg.trans U0.out (Chg.trans (by repeat (first | exact Chg.refl _ _ | apply Chg.drew | apply Chg.drewN | refine Chg.alloc ?_ _)) g1))
        clear g1 q0 q1 g0 g1c g2c f0 f1 f2 e0'
        have q0 := Chg.cell U1.out Hq0.out id
        have q1 := Chg.cell U1.out Hq1.out id
        have g0 := Chg.cell U1.out Hg0.out id
        have g1c := Chg.cell U1.out Hg1c.out id
        have g2c := Chg.cell U1.out Hg2c.out id
        skip
        skip
        skip
        skip
        go_wp2
        go_ret
        exact ⟨ret_bool HB.out.symm, Chg.trans hu.out (Chg.trans UB.out U1.out)⟩
      have hbn : (p.forms[j].n != m) = false := by simp [hn]
      have HM : Hid (0 ≤ m ∧ m ≤ 12) := Lib.hid (by have := HBD.out; omega)
      have HN := Lib.hid hn
      clear hn
      by_cases ht : 0 < j ∧ p.forms[j].p = 0 ∧ p.forms[j].fs.length = 0
      · have HB := Lib.hid (okP_stop hlt hs.out (prStep_no (prC_triv (by rw [EF.out]; exact ht))))
        have t0 : decide (0 < j) = true := decide_eq_true ht.1
        have t1 : (p.forms[j].p == 0) = true := by simp [ht.2.1]
        have t2 : ((p.forms[j].fs.length : Int) == 0) = true := by simp [ht.2.2]
        clear ht
        go_wp2_with fail
        refine (callB (ValidNormal_any _ M H L _ p.forms[j] (HVW.out.up (by repeat (first | exact Chg.refl _ _ | apply Chg.drew | apply Chg.drewN | refine Chg.alloc ?_ _)))) HK.out).mono ?_
        rintro e w1 ⟨rfl, g1⟩
        have U1 := Lib.hid (Chg.trans U0.out (Chg.trans (by repeat (first | exact Chg.refl _ _ | apply Chg.drew | apply Chg.drewN | refine Chg.alloc ?_ _)) g1))
        clear g1 q0 q1 g0 g1c g2c f0 f1 f2 e0'
        have q0 := Chg.cell U1.out Hq0.out id
        have q1 := Chg.cell U1.out Hq1.out id
        have g0 := Chg.cell U1.out Hg0.out id
        have g1c := Chg.cell U1.out Hg1c.out id
        have g2c := Chg.cell U1.out Hg2c.out id
        skip
        skip
        skip
        skip
        go_wp2
        go_ret
        exact ⟨ret_bool HB.out.symm, Chg.trans hu.out (Chg.trans UB.out U1.out)⟩
      have HT := Lib.hid ht
      have key : ∀ c : Bool, True := fun _ => trivial
      clear key
      go_upto_region 8 with fail
      go_cut [64] (fun y wx => y = .bool false ∧ Hid (Up (wr.alloc (.cells #[.int .i64 p.forms[j].n, .int .i64 p.forms[j].p, .slice A3 p.forms[j].fs.length k3] 100)) wx))
      case first =>
        rcases (show j = 0 ∨ (0 < j ∧ p.forms[j].p ≠ 0) ∨ (0 < j ∧ p.forms[j].p = 0 ∧ p.forms[j].fs.length ≠ 0) by omega) with h0 | ⟨h0, h1⟩ | ⟨h0, h1, h2⟩
        · have t0 : decide (0 < j) = false := decide_eq_false (by omega)
          have HJ := Lib.hid h0
          clear h0
          clear ht
          go_wp2_with fail
          refine (callB (ValidNormal_any _ M H L _ p.forms[j] (HVW.out.up (by repeat (first | exact Chg.refl _ _ | apply Chg.drew | apply Chg.drewN | refine Chg.alloc ?_ _)))) HK.out).mono ?_
          rintro e w1 ⟨rfl, g1⟩
          have U1 := Lib.hid (Chg.trans U0.out (Chg.trans (by repeat (first | exact Chg.refl _ _ | apply Chg.drew | apply Chg.drewN | refine Chg.alloc ?_ _)) g1))
          clear g1 q0 q1 g0 g1c g2c f0 f1 f2 e0'
          have q0 := Chg.cell U1.out Hq0.out id
          have q1 := Chg.cell U1.out Hq1.out id
          have g0 := Chg.cell U1.out Hg0.out id
          have g1c := Chg.cell U1.out Hg1c.out id
          have g2c := Chg.cell U1.out Hg2c.out id
          skip
          skip
          skip
          skip
          go_wp2
          go_meet
          exact ⟨by first | rfl | exact congrArg Value.bool (decide_eq_true (by omega)) | exact congrArg Value.bool (decide_eq_false (by omega)), U1⟩
        · have t0 : decide (0 < j) = true := decide_eq_true h0
          have t1 : (p.forms[j].p == 0) = false := by simpa using h1
          clear h0 h1
          clear ht
          go_wp2_with fail
          refine (callB (ValidNormal_any _ M H L _ p.forms[j] (HVW.out.up (by repeat (first | exact Chg.refl _ _ | apply Chg.drew | apply Chg.drewN | refine Chg.alloc ?_ _)))) HK.out).mono ?_
          rintro e w1 ⟨rfl, g1⟩
          have U1 := Lib.hid (Chg.trans U0.out (Chg.trans (by repeat (first | exact Chg.refl _ _ | apply Chg.drew | apply Chg.drewN | refine Chg.alloc ?_ _)) g1))
          clear g1 q0 q1 g0 g1c g2c f0 f1 f2 e0'
          have q0 := Chg.cell U1.out Hq0.out id
          have q1 := Chg.cell U1.out Hq1.out id
          have g0 := Chg.cell U1.out Hg0.out id
          have g1c := Chg.cell U1.out Hg1c.out id
          have g2c := Chg.cell U1.out Hg2c.out id
          skip
          skip
          skip
          skip
          go_wp2
          go_meet
          exact ⟨by first | rfl | exact congrArg Value.bool (decide_eq_true (by omega)) | exact congrArg Value.bool (decide_eq_false (by omega)), U1⟩
        · have t0 : decide (0 < j) = true := decide_eq_true h0
          have t1 : (p.forms[j].p == 0) = true := by simp [h1]
          have t2 : ((p.forms[j].fs.length : Int) == 0) = false := by simp; exact fun h => h2 (by rw [h]; rfl)
          clear h0 h1 h2
          clear ht
          go_wp2_with fail
          refine (callB (ValidNormal_any _ M H L _ p.forms[j] (HVW.out.up (by repeat (first | exact Chg.refl _ _ | apply Chg.drew | apply Chg.drewN | refine Chg.alloc ?_ _)))) HK.out).mono ?_
          rintro e w1 ⟨rfl, g1⟩
          have U1 := Lib.hid (Chg.trans U0.out (Chg.trans (by repeat (first | exact Chg.refl _ _ | apply Chg.drew | apply Chg.drewN | refine Chg.alloc ?_ _)) g1))
          clear g1 q0 q1 g0 g1c g2c f0 f1 f2 e0'
          have q0 := Chg.cell U1.out Hq0.out id
          have q1 := Chg.cell U1.out Hq1.out id
          have g0 := Chg.cell U1.out Hg0.out id
          have g1c := Chg.cell U1.out Hg1c.out id
          have g2c := Chg.cell U1.out Hg2c.out id
          skip
          skip
          skip
          skip
          go_wp2
          go_meet
          exact ⟨by first | rfl | exact congrArg Value.bool (decide_eq_true (by omega)) | exact congrArg Value.bool (decide_eq_false (by omega)), U1⟩
      case rest =>
      obtain ⟨rfl, U1⟩ := hcut
      clear ht q0 q1 g0 g1c g2c f0 f1 f2 e0'
      have q0 := Chg.cell U1.out Hq0.out id
      have q1 := Chg.cell U1.out Hq1.out id
      have g0 := Chg.cell U1.out Hg0.out id
      have g1c := Chg.cell U1.out Hg1c.out id
      have g2c := Chg.cell U1.out Hg2c.out id
      skip
      skip
      skip
      skip
      have hlen1 : (0 : Int) ≤ (p.forms.length : Int) - 1 := by omega
      by_cases hlg : p.sts[j].length ≤ 2000
      rotate_left
      · have HB := Lib.hid (okP_stop hlt hs.out (prStep_no (prC_long (by rw [ES.out]; exact hlg))))
        go_wp2
        go_ret
        exact ⟨ret_bool HB.out.symm, Chg.trans hu.out (Chg.trans UB.out U1.out)⟩
      by_cases hem : j + 1 < p.forms.length ∧ p.sts[j].length = 0
      · have HB := Lib.hid (okP_stop hlt hs.out (prStep_no (prC_none (by rw [ES.out]; exact hem))))
        have s0 : decide ((j : Int) < (p.forms.length : Int) - 1) = true := decide_eq_true (by omega)
        have s1 : ((p.sts[j].length : Int) == 0) = true := by simp [hem.2]
        clear hem
        go_wp2
        go_ret
        exact ⟨ret_bool HB.out.symm, Chg.trans hu.out (Chg.trans UB.out U1.out)⟩
      have HEM := Lib.hid hem
      go_upto_region 10 with fail
      go_cut [84] (fun y wx => y = .bool (crossB p.sts[j]) ∧ Hid (Up wc wx))
      case first =>
        rcases (show p.sts[j].length ≠ 0 ∨ (¬ j + 1 < p.forms.length ∧ p.sts[j].length = 0) by omega) with hz | ⟨hz, hz2⟩
        · have s1 : ((p.sts[j].length : Int) == 0) = false := by simp; exact fun h => hz (by rw [h]; rfl)
          clear hz hem
          go_wp2_with fail
          refine (crossHas_any _ _ _ p.sts[j] (HV5.out.up (Chg.trans UB.out (Chg.trans U1.out (by repeat (first | exact Chg.refl _ _ | apply Chg.drew | apply Chg.drewN | refine Chg.alloc ?_ _)))))).mono ?_
          rintro e w2 ⟨rfl, g2⟩
          have G2 := Lib.hid (Chg.trans (by repeat (first | exact Chg.refl _ _ | apply Chg.drew | apply Chg.drewN | refine Chg.alloc ?_ _)) g2)
          clear g2
          go_wp2
          go_meet
          exact ⟨by first | rfl | (rw [show decide (2000 < (p.sts[j].length : Int)) = false from decide_eq_false (by omega)]; rfl), G2⟩
        · have s0 : decide ((j : Int) < (p.forms.length : Int) - 1) = false := decide_eq_false (by omega)
          have s1 : ((p.sts[j].length : Int) == 0) = true := by simp [hz2]
          clear hz hz2 hem
          go_wp2_with fail
          refine (crossHas_any _ _ _ p.sts[j] (HV5.out.up (Chg.trans UB.out (Chg.trans U1.out (by repeat (first | exact Chg.refl _ _ | apply Chg.drew | apply Chg.drewN | refine Chg.alloc ?_ _)))))).mono ?_
          rintro e w2 ⟨rfl, g2⟩
          have G2 := Lib.hid (Chg.trans (by repeat (first | exact Chg.refl _ _ | apply Chg.drew | apply Chg.drewN | refine Chg.alloc ?_ _)) g2)
          clear g2
          go_wp2
          go_meet
          exact ⟨by first | rfl | (rw [show decide (2000 < (p.sts[j].length : Int)) = false from decide_eq_false (by omega)]; rfl), G2⟩
      case rest =>
      obtain ⟨rfl, U2⟩ := hcut
      clear hem q0 q1 g0 g1c g2c
      have U3 := Lib.hid (Chg.trans U1.out U2.out)
      cases hcr : crossB p.sts[j] with
      | true =>
        have HB := Lib.hid (okP_stop hlt hs.out (prStep_no (prC_cross (by rw [ES.out]; exact hcr))))
        clear hcr
        go_wp2
        go_ret
        exact ⟨ret_bool HB.out.symm, Chg.trans hu.out (Chg.trans UB.out U3.out)⟩
      | false =>
      have HCR := Lib.hid hcr
      clear hcr
      have HPC := Lib.hid (show prC p j m from ⟨by rw [EF.out]; exact HK.out, by rw [EF.out]; exact HN.out, by rw [EF.out]; exact HT.out, by rw [ES.out]; exact hlg, by rw [ES.out]; exact HEM.out, by rw [ES.out]; exact HCR.out⟩)
      cases hst : stM p.sts[j] m with
      | none =>
        have HS := Lib.hid hst
        have HB := Lib.hid (okP_stop hlt hs.out (prStep_st (by rw [ES.out]; exact hst)))
        clear hst
        go_wp2_with fail
        refine (strandsAfter_any _ _ _ p.sts[j] m HM.out (HV5.out.up (Chg.trans UB.out (Chg.trans U3.out (by repeat (first | exact Chg.refl _ _ | apply Chg.drew | apply Chg.drewN | refine Chg.alloc ?_ _)))))).mono ?_
        rintro e w3 ⟨rfl, g3⟩
        have U4 := Lib.hid (Chg.trans U3.out (Chg.trans (by repeat (first | exact Chg.refl _ _ | apply Chg.drew | apply Chg.drewN | refine Chg.alloc ?_ _)) g3))
        clear g3
        rw [HS.out]
        unfold stV
        go_wp2
        go_ret
        exact ⟨ret_bool HB.out.symm, Chg.trans hu.out (Chg.trans UB.out U4.out)⟩
      | some m2 =>
      have HS := Lib.hid hst
      have HS2 := Lib.hid (show prTo p (j + 1) = some m2 by rw [prTo_succ, hs.out, prStep_yes HPC.out, ES.out]; exact hst)
      clear hst
      go_wp2_with fail
      refine (strandsAfter_any _ _ _ p.sts[j] m HM.out (HV5.out.up (Chg.trans UB.out (Chg.trans U3.out (by repeat (first | exact Chg.refl _ _ | apply Chg.drew | apply Chg.drewN | refine Chg.alloc ?_ _)))))).mono ?_
      rintro e w3 ⟨rfl, g3⟩
      have U4 := Lib.hid (Chg.trans U3.out (Chg.trans (by repeat (first | exact Chg.refl _ _ | apply Chg.drew | apply Chg.drewN | refine Chg.alloc ?_ _)) g3))
      clear g3
      rw [HS.out]
      unfold stV
      go_wp2
      go_roundw
      case rel => exact ⟨j + 1, m2, by omega, by go_num, rfl, HS2, Lib.hid (Chg.trans hu.out (Chg.trans UB.out U4.out)), Lib.hid (Chg.trans hub.out (Chg.trans UB.out U4.out))⟩
      case measure => first | (simp [intOf]; done) | (simp [intOf]; omega)
    · obtain rfl : j = p.forms.length := by omega
      have HB := Lib.hid (okP_all HLL.out hs.out)
      go_wp2
      go_ret
      exact ⟨ret_bool HB.out.symm, hu.out⟩
theorem sValidProof_any (w : World) (M H L : Nat → Prop) (v : Value) (p : ProofM) (h : ProofV w M H L v p) :
    Calls Try.prog 26 #[v] w fun e w' => e = .returned (.bool (okP p)) ∧ Up w w' := by
  obtain ⟨A0, c0, A1, c1, rfl, h0, h1, ⟨hl0, hc0⟩, ⟨hl1, hc1⟩⟩ := h
  have UW := Lib.hid (show Up w (w.alloc (.cells #[.slice A0 p.forms.length c0, .slice A1 p.sts.length c1] 31)) from (Chg.refl Nowhere w).alloc _)
  have H0 := Lib.hid (h0.up UW.out)
  have H1 := Lib.hid (h1.up UW.out)
  have Hq0 := Lib.hid (show (w.alloc (.cells #[.slice A0 p.forms.length c0, .slice A1 p.sts.length c1] 31)).cell? ⟨w.heap.size, 0, none⟩ = some (.slice A0 p.forms.length c0) from cell_new _ _ _ _)
  have Hq1 := Lib.hid (show (w.alloc (.cells #[.slice A0 p.forms.length c0, .slice A1 p.sts.length c1] 31)).cell? ⟨w.heap.size, 1, none⟩ = some (.slice A1 p.sts.length c1) from cell_new _ _ _ _)
  clear h0 h1
  go_enter Try.func26, Try.ntmps26
  go_wp2_with fail
  refine (l26Ok_any _ M H L w.heap.size 0 p A0 A1 c0 c1 Hq0.out Hq1.out H0.out H1.out hl0 hc0 hl1 hc1).mono ?_
  rintro e w1 ⟨rfl, g1⟩
  have G1 := Lib.hid (Chg.trans UW.out g1)
  clear g1
  go_wp2
  go_ret
  exact ⟨rfl, G1.out⟩
end Go.Proofs.Ytjgdcjhmfbefdaa
