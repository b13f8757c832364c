/- Machines: IsAtRest on both sides. No condition. -/
import Derived.Test.YtobgbnpgledabaaMacT
import Derived.Test.YtobgbnpgledabaaNdl
import Derived.Test.YtobgbnpgledabaaQA1
set_option linter.unusedSimpArgs false
set_option linter.unusedVariables false
set_option maxRecDepth 100000
set_option maxHeartbeats 4000000
namespace Go.Proofs.Ytobgbnpgledabaa
open Go.ChangeShapes Go.WideShapes Go.ChangeAt Go.RowKit
def ndsTo (k : Nat) : List Int := (List.range k).map fun i : Nat => (2 * i + 1 : Int)
theorem ndsTo_succ (k : Nat) : ndsTo (k + 1) = ndsTo k ++ [(2 * k + 1 : Int)] := by simp [ndsTo, List.range_succ]
theorem ndsTo_length (k : Nat) : (ndsTo k).length = k := by simp [ndsTo]
theorem ndOf (c : Int) (w : World) (h : 0 ≤ c ∧ c ≤ 7) :
    Calls Try.prog 114 #[.int .i64 c] w fun e w' => e = .returned (.tuple #[.int .i64 (2 * c + 1), .bool true]) ∧ w = w' := by
  obtain ⟨h0, h1⟩ := h
  go_enter Try.func114, Try.ntmps114
  go_wp2_with (first | (go_at_call 50; refine (l00In_yes _ _ _ _ ?_).mono ?_; (omega); rintro e w' ⟨rfl, rfl⟩) | (go_at_call 167; refine (l20Needle_any _ _ ?_).mono ?_; (omega); rintro e w' ⟨rfl, rfl⟩))
  go_ret2
  exact ⟨rfl, rfl⟩
set_option maxHeartbeats 1000000 in
theorem l24Needles_any (w : World) (k : Nat) (hk : k ≤ 8) :
    Calls Try.prog 51 #[.int .i64 k] w fun e w' => ∃ v, e = .returned v ∧ Ints w' (New w.heap.size w'.heap.size) v (ndsTo k) ∧ Up w w' := by
  go_enter Try.func51, Try.ntmps51
  go_wp2
  go_loopw [3, 4, 5, 6] (fun v i _ _ wr => ∃ j : Nat, j ≤ k ∧ i = .int .i64 j ∧ Hid (OwnI wr w.heap.size v (ndsTo j)) ∧ Hid (Up w wr)) (fun _ i _ _ _ => k - (intOf i).toNat)
  case atStart => exact ⟨0, by omega, rfl, OwnI.made w _ (Nat.le_refl _), (Chg.refl _ _).alloc _⟩
  case round =>
    obtain ⟨j, hj, rfl, ho, hg⟩ := hrel
    by_cases hlt : j < k
    · have hsz := hg.out.size
      have hl := ndsTo_length j
      have hL : (ndsTo j).length ≤ 1099511627776 := by omega
      have hI : I64 (2 * j + 1) := by unfold I64; omega
      have HL := Lib.hid hL
      have HI := Lib.hid hI
      clear hl hL hI
      go_wp2_with (first | (go_at_call 114; refine (ndOf _ _ ?_).mono ?_; (omega); rintro e w' ⟨rfl, rfl⟩) | (at_builtin; refine wp_append_int rfl _ _ rfl w.heap.size _ (ndsTo j) rfl (ho.out.alloc _) wr.heap.size (2 * j + 1) rfl (cell_new _ _ _ _) HI.out HL.out ?_ ?_; (simp; omega); intro v' w1 ho1 _ hg1; have HO := Lib.hid ho1; have HG := Lib.hid hg1; clear ho1 hg1))
      go_roundw
      case rel => exact ⟨j + 1, by omega, by go_num, by rw [ndsTo_succ]; exact HO.out, Chg.new (hg.out.alloc _) HG.out (fun i hi => by omega)⟩
      case measure => simp [intOf]; omega
    · obtain rfl : j = k := by omega
      go_wp2
      go_ret
      exact ⟨_, rfl, ho.out.ints, hg.out⟩
theorem mem_ndsTo {k : Nat} {x : Int} : x ∈ ndsTo k ↔ ∃ c : Nat, c < k ∧ x = 2 * c + 1 := by
  unfold ndsTo
  rw [List.mem_map]
  constructor
  · rintro ⟨c, hc, rfl⟩
    exact ⟨c, List.mem_range.1 hc, rfl⟩
  · rintro ⟨c, hc, rfl⟩
    exact ⟨c, List.mem_range.2 hc, rfl⟩
/-- whether a needle is one of the first n columns -/
def colB (i n : Nat) : Bool := decide (i % 2 = 1 ∧ i / 2 < n)
theorem colB_mem (i n : Nat) : decide ((i : Int) ∈ ndsTo n) = colB i n := by
  unfold colB
  rw [decide_eq_decide, mem_ndsTo]
  constructor
  · rintro ⟨c, hc, h⟩
    omega
  · rintro ⟨h1, h2⟩
    exact ⟨i / 2, h2, by omega⟩
def restAt (p : MacM) (n i : Nat) : Bool := decide ((p.bk.getD i []).length = 0) && (decide (0 < (p.fr.getD i []).length) == colB i n)
def lastB (p : MacM) (n : Int) : Bool := decide (n = 0 ∨ 2 * (n - 1) + 1 < p.wd)
def restB (p : MacM) (n : Int) : Bool := okMac p && inB n 0 8 && decide (p.rk = 0) && lastB p n && allB (restAt p n.toNat) p.wd.toNat
theorem rest_ok {p : MacM} {n : Int} (h : okMac p = false) : restB p n = false := by simp [restB, h]
theorem rest_n {p : MacM} {n : Int} (h : inB n 0 8 = false) : restB p n = false := by simp [restB, h]
theorem rest_rk {p : MacM} {n : Int} (h : ¬ p.rk = 0) : restB p n = false := by unfold restB; rw [decide_eq_false h]; simp
theorem rest_last {p : MacM} {n : Int} (h : lastB p n = false) : restB p n = false := by simp [restB, h]
theorem rest_at {p : MacM} {n : Int} {i : Nat} (hi : i < p.wd.toNat) (h : restAt p n.toNat i = false) : restB p n = false := by unfold restB; rw [all_no hi h]; simp
theorem rest_all {p : MacM} {n : Int} (h1 : okMac p = true) (h2 : inB n 0 8 = true) (h3 : p.rk = 0) (h4 : AllTo (restAt p n.toNat) p.wd.toNat) : restB p n = lastB p n := by
  unfold restB
  rw [h1, h2, decide_eq_true h3, h4.all]
  simp
theorem okMac_headB {p : MacM} (h : okMac p = true) : headB p = true := by
  cases hb : headB p with
  | false => rw [okMac_head hb] at h; cases h
  | true => rfl
theorem restAt_bk {p : MacM} {n i : Nat} (hi : i < p.bk.length) (h : ¬ p.bk[i].length = 0) : restAt p n i = false := by unfold restAt; rw [getD_eq hi, decide_eq_false h]; rfl
theorem restAt_fr {p : MacM} {n i : Nat} (hi : i < p.bk.length) (hj : i < p.fr.length) (h : p.bk[i].length = 0) : restAt p n i = (decide (0 < p.fr[i].length) == colB i n) := by unfold restAt; rw [getD_eq hi, getD_eq hj, decide_eq_true h]; rfl
theorem colB_cols {j k : Nat} (hk : k ≤ 8) : colB j k = (colOk j && decide (colOf j < k)) := by
  unfold colB colOk colOf
  by_cases h : (1 : Int) ≤ j ∧ (j : Int) ≤ 15 ∧ (j : Int) % 2 = 1
  · rw [decide_eq_true h, if_pos h, Bool.true_and, decide_eq_decide]
    omega
  · rw [decide_eq_false h, Bool.false_and]
    exact decide_eq_false (by omega)
theorem sIsAtRest_A (w : World) (S : Nat → Prop) (v : Value) (p : MacM) (h : MacA w S v p) (n : Int) :
    Calls Try.prog 9 #[v, .int .i64 n] w fun e w' => e = .returned (.bool (restB p n)) ∧ Up w w' := by
  have HM := Lib.hid (show MacV w S S S v p from h)
  obtain ⟨A0, c0, A1, c1, A2, c2, A3, c3, A4, c4, rfl, h0, h1, h2, h3, h4, hl0, hl1, hl2, hl3, hl4, hi0, hi1⟩ := h
  have UB := Lib.hid ((Chg.refl Nowhere w).alloc (.cells #[.int .i64 p.wd, .int .i64 p.rk, .slice A0 p.fr.length c0, .slice A1 p.bk.length c1, .slice A2 p.cs.length c2, .slice A3 p.ls.length c3, .slice A4 p.dr.length c4] 33))
  have H0 := Lib.hid (h0.up UB.out)
  have H1 := Lib.hid (h1.up UB.out)
  have H2 := Lib.hid (h2.up UB.out)
  have H3 := Lib.hid (h3.up UB.out)
  have H4 := Lib.hid (h4.up UB.out)
  have HM2 := Lib.hid (HM.out.up UB.out)
  clear h0 h1 h2 h3 h4 HM
  have Q0 := Lib.hid (show (w.alloc (.cells #[.int .i64 p.wd, .int .i64 p.rk, .slice A0 p.fr.length c0, .slice A1 p.bk.length c1, .slice A2 p.cs.length c2, .slice A3 p.ls.length c3, .slice A4 p.dr.length c4] 33)).cell? ⟨w.heap.size, 0, none⟩ = some (.int .i64 p.wd) from cell_new _ _ _ _)
  have Q1 := Lib.hid (show (w.alloc (.cells #[.int .i64 p.wd, .int .i64 p.rk, .slice A0 p.fr.length c0, .slice A1 p.bk.length c1, .slice A2 p.cs.length c2, .slice A3 p.ls.length c3, .slice A4 p.dr.length c4] 33)).cell? ⟨w.heap.size, 1, none⟩ = some (.int .i64 p.rk) from cell_new _ _ _ _)
  have Q2 := Lib.hid (show (w.alloc (.cells #[.int .i64 p.wd, .int .i64 p.rk, .slice A0 p.fr.length c0, .slice A1 p.bk.length c1, .slice A2 p.cs.length c2, .slice A3 p.ls.length c3, .slice A4 p.dr.length c4] 33)).cell? ⟨w.heap.size, 2, none⟩ = some (.slice A0 p.fr.length c0) from cell_new _ _ _ _)
  have Q3 := Lib.hid (show (w.alloc (.cells #[.int .i64 p.wd, .int .i64 p.rk, .slice A0 p.fr.length c0, .slice A1 p.bk.length c1, .slice A2 p.cs.length c2, .slice A3 p.ls.length c3, .slice A4 p.dr.length c4] 33)).cell? ⟨w.heap.size, 3, none⟩ = some (.slice A1 p.bk.length c1) from cell_new _ _ _ _)
  have Q4 := Lib.hid (show (w.alloc (.cells #[.int .i64 p.wd, .int .i64 p.rk, .slice A0 p.fr.length c0, .slice A1 p.bk.length c1, .slice A2 p.cs.length c2, .slice A3 p.ls.length c3, .slice A4 p.dr.length c4] 33)).cell? ⟨w.heap.size, 4, none⟩ = some (.slice A2 p.cs.length c2) from cell_new _ _ _ _)
  have Q5 := Lib.hid (show (w.alloc (.cells #[.int .i64 p.wd, .int .i64 p.rk, .slice A0 p.fr.length c0, .slice A1 p.bk.length c1, .slice A2 p.cs.length c2, .slice A3 p.ls.length c3, .slice A4 p.dr.length c4] 33)).cell? ⟨w.heap.size, 5, none⟩ = some (.slice A3 p.ls.length c3) from cell_new _ _ _ _)
  have Q6 := Lib.hid (show (w.alloc (.cells #[.int .i64 p.wd, .int .i64 p.rk, .slice A0 p.fr.length c0, .slice A1 p.bk.length c1, .slice A2 p.cs.length c2, .slice A3 p.ls.length c3, .slice A4 p.dr.length c4] 33)).cell? ⟨w.heap.size, 6, none⟩ = some (.slice A4 p.dr.length c4) from cell_new _ _ _ _)
  have HZB := Lib.hid (show (w.alloc (.cells #[.int .i64 p.wd, .int .i64 p.rk, .slice A0 p.fr.length c0, .slice A1 p.bk.length c1, .slice A2 p.cs.length c2, .slice A3 p.ls.length c3, .slice A4 p.dr.length c4] 33)).heap.size = w.heap.size + 1 by simp)
  generalize hwb : w.alloc (.cells #[.int .i64 p.wd, .int .i64 p.rk, .slice A0 p.fr.length c0, .slice A1 p.bk.length c1, .slice A2 p.cs.length c2, .slice A3 p.ls.length c3, .slice A4 p.dr.length c4] 33) = wb at UB H0 H1 H2 H3 H4 Q0 Q1 Q2 Q3 Q4 Q5 Q6 HZB HM2
  have hbm : w.heap.size < wb.heap.size := by have := HZB.out; omega
  have HOKC : ∀ bb, okMac p = bb → Calls Try.prog 49 #[.pointer (some ⟨w.heap.size, 0, none⟩)] wb fun e w' => e = .returned (.bool bb) ∧ Up wb w' := fun bb hbb => callB (l07Ok_any wb S S S w.heap.size p A0 A1 A2 A3 A4 c0 c1 c2 c3 c4 Q0.out Q1.out Q2.out Q3.out Q4.out Q5.out Q6.out H0.out H1.out H2.out H3.out H4.out hl4) hbb
  cases hok : okMac p with
  | false =>
    have HB := Lib.hid (rest_ok (n := n) hok)
    have HO := Lib.hid (HOKC false hok)
    clear hok HOKC
    go_enter Try.func9, Try.ntmps9
    go_wp2_with fail
    refine HO.out.mono ?_
    rintro e w1 ⟨rfl, g1⟩
    have U1 := Lib.hid g1
    clear g1 HO
    go_wp2
    go_ret
    exact ⟨ret_bool HB.out.symm, Chg.trans UB.out (Chg.trans U1.out (by repeat (first | exact Chg.refl _ _ | apply Chg.drew | apply Chg.drewN | refine Chg.alloc ?_ _)))⟩
  | true =>
  have HOK := Lib.hid hok
  have HHD := Lib.hid (headB_yes (okMac_headB hok))
  cases hn : inB n 0 8 with
  | false =>
    have HB := Lib.hid (rest_n (p := p) hn)
    have HN := Lib.hid hn
    clear hn
    have HO := Lib.hid (HOKC true hok)
    clear hok HOKC
    go_enter Try.func9, Try.ntmps9
    go_wp2_with fail
    refine HO.out.mono ?_
    rintro e w1 ⟨rfl, g1⟩
    have U1 := Lib.hid g1
    clear g1 HO
    go_wp2_with fail
    refine (callS (l00In_any _ _ _ _) HN.out).mono ?_
    rintro e w' ⟨rfl, rfl⟩
    go_wp2
    go_ret
    exact ⟨ret_bool HB.out.symm, Chg.trans UB.out (Chg.trans U1.out (by repeat (first | exact Chg.refl _ _ | apply Chg.drew | apply Chg.drewN | refine Chg.alloc ?_ _)))⟩
  | true =>
  have HN := Lib.hid hn
  have HNB := Lib.hid (of_decide_eq_true hn)
  clear hn
  by_cases hr : p.rk = 0
  rotate_left
  · have HB := Lib.hid (rest_rk (n := n) hr)
    have er : (p.rk != 0) = true := by rw [bne_iff_ne]; exact hr
    clear hr
    have HO := Lib.hid (HOKC true hok)
    clear hok HOKC
    go_enter Try.func9, Try.ntmps9
    go_wp2_with fail
    refine HO.out.mono ?_
    rintro e w1 ⟨rfl, g1⟩
    have U1 := Lib.hid g1
    clear g1 HO
    have q1 := Chg.cell U1.out Q1.out id
    go_wp2_with fail
    refine (callS (l00In_any _ _ _ _) HN.out).mono ?_
    rintro e w' ⟨rfl, rfl⟩
    go_wp2
    go_ret
    exact ⟨ret_bool HB.out.symm, Chg.trans UB.out (Chg.trans U1.out (by repeat (first | exact Chg.refl _ _ | apply Chg.drew | apply Chg.drewN | refine Chg.alloc ?_ _)))⟩
  have er : (p.rk != 0) = false := by simp [hr]
  have HR := Lib.hid hr
  clear hr
  have HO := Lib.hid (HOKC true hok)
  clear hok HOKC
  go_enter Try.func9, Try.ntmps9
  go_wp2_with fail
  refine HO.out.mono ?_
  rintro e w1 ⟨rfl, g1⟩
  have U1 := Lib.hid g1
  clear g1 HO
  have q1 := Chg.cell U1.out Q1.out id
  go_wp2_with fail
  refine (callS (l00In_any _ _ _ _) HN.out).mono ?_
  rintro e w' ⟨rfl, rfl⟩
  obtain ⟨k, hk⟩ : ∃ k : Nat, n = k := ⟨n.toNat, by have := HNB.out; omega⟩
  subst hk
  have HK := Lib.hid (show k ≤ 8 by have := HNB.out; omega)
  go_wp2_with fail
  refine (l24Needles_any _ k HK.out).mono ?_
  rintro e w2 ⟨v2, rfl, k2, g2⟩
  have U2 := Lib.hid (show Up wb w2 from Chg.trans U1.out (Chg.trans (by repeat (first | exact Chg.refl _ _ | apply Chg.drew | apply Chg.drewN | refine Chg.alloc ?_ _)) g2))
  have hkl := ndsTo_length k
  obtain ⟨A9, c9, rfl, h9, h10, -⟩ := k2.shape
  have K2 := Lib.hid k2
  clear k2 g2 q1 U1
  rw [hkl]
  have HKL := Lib.hid hkl
  clear hkl
  have q0 := Chg.cell U2.out Q0.out id
  have hwd := HHD.out.1
  go_wp2
  clear q0
  go_loopw [6] (fun i wx => ∃ j : Nat, (j : Int) ≤ p.wd ∧ i = .int .i64 j ∧ Hid (Up w2 wx) ∧ Hid (AllTo (restAt p k) j)) (fun i _ => p.wd.toNat - (intOf i).toNat)
  case atStart => exact ⟨0, by omega, rfl, (by repeat (first | exact Chg.refl _ _ | apply Chg.drew | apply Chg.drewN | refine Chg.alloc ?_ _)), AllTo.start _⟩
  case round =>
    obtain ⟨j, hj, rfl, hu, hall⟩ := hrel
    have U3 := Lib.hid (Chg.trans U2.out hu.out)
    have q0 := Chg.cell U3.out Q0.out id
    by_cases hlt : (j : Int) < p.wd
    · have hjf : j < p.fr.length := by have := HHD.out.2.2.1; omega
      have hjb : j < p.bk.length := by have := HHD.out.2.2.2.1; omega
      obtain ⟨b3, o3, c3', vs3, he3, -, -, -, hE3, hc3⟩ := (H1.out.up U3.out).at_ hjb
      obtain ⟨rfl, rfl⟩ : A1 = some ⟨b3, o3, none⟩ ∧ c1 = c3' := by simpa using he3
      obtain ⟨A7, k7, rfl, -, -, -⟩ := hE3.val
      have e1 := (hc3 0 _ rfl).1
      simp only [Nat.mul_one, Nat.add_zero] at e1
      clear hc3 he3 hE3
      obtain ⟨b4, o4, c4', vs4, he4, -, -, -, hE4, hc4⟩ := (H0.out.up U3.out).at_ hjf
      obtain ⟨rfl, rfl⟩ : A0 = some ⟨b4, o4, none⟩ ∧ c0 = c4' := by simpa using he4
      obtain ⟨A8, k8, rfl, -, -, -⟩ := hE4.val
      have e2 := (hc4 0 _ rfl).1
      simp only [Nat.mul_one, Nat.add_zero] at e2
      clear hc4 he4 hE4
      have q2 := Chg.cell U3.out Q2.out id
      have q3 := Chg.cell U3.out Q3.out id
      have i1 : (j : Int) < (p.bk.length : Int) := by omega
      have i2 : (j : Int) < (p.fr.length : Int) := by omega
      by_cases hb : p.bk[j].length = 0
      rotate_left
      · have HB := Lib.hid (rest_at (p := p) (n := (k : Int)) (i := j) (by omega) (restAt_bk hjb hb))
        have t0 : decide (0 < p.bk[j].length) = true := decide_eq_true (by omega)
        clear hb
        go_wp2
        have g0 := up_cell q2
        have g1 := up_cell q3
        have g2 := up_cell e1
        have g3 := up_cell e2
        refine wp_region_up (by kernel_rfl) (by kernel_rfl) ?_
        repeat (go_big_quiet_step (fail))
        refine wpQuiet_nil ?_
        rintro w4 ⟨u0, hu0⟩
        have gu := hu0 ▸ u0.up
        clear hu0 u0 g0 g1 g2 g3
        have U1 := Lib.hid (show Up wb w4 from Chg.trans U3.out (Chg.trans (by repeat (first | exact Chg.refl _ _ | apply Chg.drew | apply Chg.drewN | refine Chg.alloc ?_ _)) gu))
        have U24 := Lib.hid (show Up w2 w4 from Chg.trans hu.out (Chg.trans (by repeat (first | exact Chg.refl _ _ | apply Chg.drew | apply Chg.drewN | refine Chg.alloc ?_ _)) gu))
        clear gu
        go_wp2
        go_ret
        exact ⟨ret_bool HB.out.symm, Chg.trans UB.out (Chg.trans U1.out (by repeat (first | exact Chg.refl _ _ | apply Chg.drew | apply Chg.drewN | refine Chg.alloc ?_ _)))⟩
      have t0 : decide (0 < p.bk[j].length) = false := decide_eq_false (by omega)
      have HRA := Lib.hid (restAt_fr (n := k) hjb hjf hb)
      clear hb
      have HHC : ∀ bb, colB j k = bb → ∀ u : UpOf wr, Calls Try.prog 52 #[.slice A9 k c9, .int .i64 j] u.wd fun e w'' => e = .returned (.bool bb) ∧ ∃ u' : UpOf wr, w'' = u'.wd := fun bb hbb u => calls_up_same (callS (has_any _ _ _ (ndsTo k) _ (by have := K2.out.up (Chg.trans hu.out u.up); rwa [HKL.out] at this)) ((colB_mem j k).trans hbb))
      by_cases hf : 0 < p.fr[j].length
      · have t1 : decide (0 < p.fr[j].length) = true := decide_eq_true (by omega)
        have HRA := Lib.hid (HRA.out.trans (by rw [decide_eq_true hf]))
        clear hf
        cases hcb : colB j k with
        | true =>
          have HHAS := HHC true hcb
          have HX := Lib.hid (HRA.out.trans (by rw [hcb]))
          clear hcb HHC
          have HNX := Lib.hid (show restAt p k j = true from HX.out.trans rfl)
          go_wp2
          have g0 := up_cell q2
          have g1 := up_cell q3
          have g2 := up_cell e1
          have g3 := up_cell e2
          refine wp_region_up (by kernel_rfl) (by kernel_rfl) ?_
          repeat (go_big_quiet_step ((first | (go_at_call 52; exact HHAS _))))
          refine wpQuiet_nil ?_
          rintro w4 ⟨u0, hu0⟩
          have gu := hu0 ▸ u0.up
          clear hu0 u0 g0 g1 g2 g3
          have U1 := Lib.hid (show Up wb w4 from Chg.trans U3.out (Chg.trans (by repeat (first | exact Chg.refl _ _ | apply Chg.drew | apply Chg.drewN | refine Chg.alloc ?_ _)) gu))
          have U24 := Lib.hid (show Up w2 w4 from Chg.trans hu.out (Chg.trans (by repeat (first | exact Chg.refl _ _ | apply Chg.drew | apply Chg.drewN | refine Chg.alloc ?_ _)) gu))
          clear gu
          go_wp2
          go_roundw
          case rel => exact ⟨j + 1, by omega, by go_num, U24, Lib.hid (hall.out.next HNX.out)⟩
          case measure => first | (simp [intOf]; done) | (simp [intOf]; omega)
        | false =>
          have HHAS := HHC false hcb
          have HX := Lib.hid (HRA.out.trans (by rw [hcb]))
          clear hcb HHC
          have HB := Lib.hid (rest_at (p := p) (n := (k : Int)) (i := j) (by omega) (show restAt p k j = false from HX.out.trans rfl))
          go_wp2
          have g0 := up_cell q2
          have g1 := up_cell q3
          have g2 := up_cell e1
          have g3 := up_cell e2
          refine wp_region_up (by kernel_rfl) (by kernel_rfl) ?_
          repeat (go_big_quiet_step ((first | (go_at_call 52; exact HHAS _))))
          refine wpQuiet_nil ?_
          rintro w4 ⟨u0, hu0⟩
          have gu := hu0 ▸ u0.up
          clear hu0 u0 g0 g1 g2 g3
          have U1 := Lib.hid (show Up wb w4 from Chg.trans U3.out (Chg.trans (by repeat (first | exact Chg.refl _ _ | apply Chg.drew | apply Chg.drewN | refine Chg.alloc ?_ _)) gu))
          have U24 := Lib.hid (show Up w2 w4 from Chg.trans hu.out (Chg.trans (by repeat (first | exact Chg.refl _ _ | apply Chg.drew | apply Chg.drewN | refine Chg.alloc ?_ _)) gu))
          clear gu
          go_wp2
          go_ret
          exact ⟨ret_bool HB.out.symm, Chg.trans UB.out (Chg.trans U1.out (by repeat (first | exact Chg.refl _ _ | apply Chg.drew | apply Chg.drewN | refine Chg.alloc ?_ _)))⟩
      skip
      · have t1 : decide (0 < p.fr[j].length) = false := decide_eq_false (by omega)
        have HRA := Lib.hid (HRA.out.trans (by rw [decide_eq_false hf]))
        clear hf
        cases hcb : colB j k with
        | true =>
          have HHAS := HHC true hcb
          have HX := Lib.hid (HRA.out.trans (by rw [hcb]))
          clear hcb HHC
          have HB := Lib.hid (rest_at (p := p) (n := (k : Int)) (i := j) (by omega) (show restAt p k j = false from HX.out.trans rfl))
          go_wp2
          have g0 := up_cell q2
          have g1 := up_cell q3
          have g2 := up_cell e1
          have g3 := up_cell e2
          refine wp_region_up (by kernel_rfl) (by kernel_rfl) ?_
          repeat (go_big_quiet_step ((first | (go_at_call 52; exact HHAS _))))
          refine wpQuiet_nil ?_
          rintro w4 ⟨u0, hu0⟩
          have gu := hu0 ▸ u0.up
          clear hu0 u0 g0 g1 g2 g3
          have U1 := Lib.hid (show Up wb w4 from Chg.trans U3.out (Chg.trans (by repeat (first | exact Chg.refl _ _ | apply Chg.drew | apply Chg.drewN | refine Chg.alloc ?_ _)) gu))
          have U24 := Lib.hid (show Up w2 w4 from Chg.trans hu.out (Chg.trans (by repeat (first | exact Chg.refl _ _ | apply Chg.drew | apply Chg.drewN | refine Chg.alloc ?_ _)) gu))
          clear gu
          go_wp2
          go_ret
          exact ⟨ret_bool HB.out.symm, Chg.trans UB.out (Chg.trans U1.out (by repeat (first | exact Chg.refl _ _ | apply Chg.drew | apply Chg.drewN | refine Chg.alloc ?_ _)))⟩
        | false =>
          have HHAS := HHC false hcb
          have HX := Lib.hid (HRA.out.trans (by rw [hcb]))
          clear hcb HHC
          have HNX := Lib.hid (show restAt p k j = true from HX.out.trans rfl)
          go_wp2
          have g0 := up_cell q2
          have g1 := up_cell q3
          have g2 := up_cell e1
          have g3 := up_cell e2
          refine wp_region_up (by kernel_rfl) (by kernel_rfl) ?_
          repeat (go_big_quiet_step ((first | (go_at_call 52; exact HHAS _))))
          refine wpQuiet_nil ?_
          rintro w4 ⟨u0, hu0⟩
          have gu := hu0 ▸ u0.up
          clear hu0 u0 g0 g1 g2 g3
          have U1 := Lib.hid (show Up wb w4 from Chg.trans U3.out (Chg.trans (by repeat (first | exact Chg.refl _ _ | apply Chg.drew | apply Chg.drewN | refine Chg.alloc ?_ _)) gu))
          have U24 := Lib.hid (show Up w2 w4 from Chg.trans hu.out (Chg.trans (by repeat (first | exact Chg.refl _ _ | apply Chg.drew | apply Chg.drewN | refine Chg.alloc ?_ _)) gu))
          clear gu
          go_wp2
          go_roundw
          case rel => exact ⟨j + 1, by omega, by go_num, U24, Lib.hid (hall.out.next HNX.out)⟩
          case measure => first | (simp [intOf]; done) | (simp [intOf]; omega)
    · have hje : j = p.wd.toNat := by omega
      have HRES := Lib.hid (rest_all (n := (k : Int)) HOK.out HN.out HR.out (by rw [← hje]; exact hall.out))
      clear hje hall
      by_cases h0 : k = 0
      · subst h0
        have HB := Lib.hid (HRES.out.trans (show lastB p ((0 : Nat) : Int) = true from decide_eq_true (.inl rfl)))
        go_wp2_with fail
        go_quiet (fail)
        go_wp2
        go_ret
        exact ⟨ret_bool HB.out.symm, Chg.trans UB.out (Chg.trans U3.out (by repeat (first | exact Chg.refl _ _ | apply Chg.drew | apply Chg.drewN | refine Chg.alloc ?_ _)))⟩
      obtain ⟨m, rfl⟩ : ∃ m, k = m + 1 := ⟨k - 1, by omega⟩
      have hk8 := HK.out
      have HLB := Lib.hid (show lastB p ((m + 1 : Nat) : Int) = decide (2 * (m : Int) + 1 < p.wd) by unfold lastB; rw [decide_eq_decide]; omega)
      obtain ⟨b5, o5, hA9, -, hc5⟩ := (show Ints wr _ (.slice A9 (ndsTo (m + 1)).length c9) _ from K2.out.up hu.out).ix (i := m) (by rw [HKL.out]; omega)
      subst hA9
      have f5 := hc5 m (by rw [HKL.out]; omega)
      rw [show ix (ndsTo (m + 1)) m = 2 * (m : Int) + 1 by rw [ix_eq (by rw [HKL.out]; omega)]; simp [ndsTo]] at f5
      have e0 : (((m : Int) + 1) == 0) = false := by rw [beq_eq_false_iff_ne]; omega
      have w1 : IntKind.i64.wrap ((m : Int) + 1 - 1) = m := by rw [show (m : Int) + 1 - 1 = m by omega]; exact IntWalk.i64_in _ (by omega)
      have i2 : (m : Int) < (m : Int) + 1 := by omega
      clear hc5 h0
      by_cases hx : 2 * (m : Int) + 1 < p.wd
      · have t1 : decide (2 * (m : Int) + 1 < p.wd) = true := decide_eq_true hx
        have HB := Lib.hid (HRES.out.trans (HLB.out.trans t1))
        clear hx
        go_wp2_with fail
        go_quiet (fail)
        go_wp2
        go_ret
        exact ⟨ret_bool HB.out.symm, Chg.trans UB.out (Chg.trans U3.out (by repeat (first | exact Chg.refl _ _ | apply Chg.drew | apply Chg.drewN | refine Chg.alloc ?_ _)))⟩
      · have t1 : decide (2 * (m : Int) + 1 < p.wd) = false := decide_eq_false hx
        have HB := Lib.hid (HRES.out.trans (HLB.out.trans t1))
        clear hx
        go_wp2_with fail
        go_quiet (fail)
        go_wp2
        go_ret
        exact ⟨ret_bool HB.out.symm, Chg.trans UB.out (Chg.trans U3.out (by repeat (first | exact Chg.refl _ _ | apply Chg.drew | apply Chg.drewN | refine Chg.alloc ?_ _)))⟩
theorem pIsAtRest_A (w : World) (S : Nat → Prop) (v : Value) (p : MacM) (h : MacA w S v p) (n : Int) :
    Calls Try.prog 11 #[v, .int .i64 n] w fun e w' => e = .returned (.bool (restB p n)) ∧ Up w w' := by
  have HM := Lib.hid (show MacV w S S S v p from h)
  obtain ⟨A0, c0, A1, c1, A2, c2, A3, c3, A4, c4, rfl, h0, h1, h2, h3, h4, hl0, hl1, hl2, hl3, hl4, hi0, hi1⟩ := h
  have UB := Lib.hid ((Chg.refl Nowhere w).alloc (.cells #[.int .i64 p.wd, .int .i64 p.rk, .slice A0 p.fr.length c0, .slice A1 p.bk.length c1, .slice A2 p.cs.length c2, .slice A3 p.ls.length c3, .slice A4 p.dr.length c4] 33))
  have H0 := Lib.hid (h0.up UB.out)
  have H1 := Lib.hid (h1.up UB.out)
  have H2 := Lib.hid (h2.up UB.out)
  have H3 := Lib.hid (h3.up UB.out)
  have H4 := Lib.hid (h4.up UB.out)
  have HM2 := Lib.hid (HM.out.up UB.out)
  clear h0 h1 h2 h3 h4 HM
  have Q0 := Lib.hid (show (w.alloc (.cells #[.int .i64 p.wd, .int .i64 p.rk, .slice A0 p.fr.length c0, .slice A1 p.bk.length c1, .slice A2 p.cs.length c2, .slice A3 p.ls.length c3, .slice A4 p.dr.length c4] 33)).cell? ⟨w.heap.size, 0, none⟩ = some (.int .i64 p.wd) from cell_new _ _ _ _)
  have Q1 := Lib.hid (show (w.alloc (.cells #[.int .i64 p.wd, .int .i64 p.rk, .slice A0 p.fr.length c0, .slice A1 p.bk.length c1, .slice A2 p.cs.length c2, .slice A3 p.ls.length c3, .slice A4 p.dr.length c4] 33)).cell? ⟨w.heap.size, 1, none⟩ = some (.int .i64 p.rk) from cell_new _ _ _ _)
  have Q2 := Lib.hid (show (w.alloc (.cells #[.int .i64 p.wd, .int .i64 p.rk, .slice A0 p.fr.length c0, .slice A1 p.bk.length c1, .slice A2 p.cs.length c2, .slice A3 p.ls.length c3, .slice A4 p.dr.length c4] 33)).cell? ⟨w.heap.size, 2, none⟩ = some (.slice A0 p.fr.length c0) from cell_new _ _ _ _)
  have Q3 := Lib.hid (show (w.alloc (.cells #[.int .i64 p.wd, .int .i64 p.rk, .slice A0 p.fr.length c0, .slice A1 p.bk.length c1, .slice A2 p.cs.length c2, .slice A3 p.ls.length c3, .slice A4 p.dr.length c4] 33)).cell? ⟨w.heap.size, 3, none⟩ = some (.slice A1 p.bk.length c1) from cell_new _ _ _ _)
  have Q4 := Lib.hid (show (w.alloc (.cells #[.int .i64 p.wd, .int .i64 p.rk, .slice A0 p.fr.length c0, .slice A1 p.bk.length c1, .slice A2 p.cs.length c2, .slice A3 p.ls.length c3, .slice A4 p.dr.length c4] 33)).cell? ⟨w.heap.size, 4, none⟩ = some (.slice A2 p.cs.length c2) from cell_new _ _ _ _)
  have Q5 := Lib.hid (show (w.alloc (.cells #[.int .i64 p.wd, .int .i64 p.rk, .slice A0 p.fr.length c0, .slice A1 p.bk.length c1, .slice A2 p.cs.length c2, .slice A3 p.ls.length c3, .slice A4 p.dr.length c4] 33)).cell? ⟨w.heap.size, 5, none⟩ = some (.slice A3 p.ls.length c3) from cell_new _ _ _ _)
  have Q6 := Lib.hid (show (w.alloc (.cells #[.int .i64 p.wd, .int .i64 p.rk, .slice A0 p.fr.length c0, .slice A1 p.bk.length c1, .slice A2 p.cs.length c2, .slice A3 p.ls.length c3, .slice A4 p.dr.length c4] 33)).cell? ⟨w.heap.size, 6, none⟩ = some (.slice A4 p.dr.length c4) from cell_new _ _ _ _)
  have HZB := Lib.hid (show (w.alloc (.cells #[.int .i64 p.wd, .int .i64 p.rk, .slice A0 p.fr.length c0, .slice A1 p.bk.length c1, .slice A2 p.cs.length c2, .slice A3 p.ls.length c3, .slice A4 p.dr.length c4] 33)).heap.size = w.heap.size + 1 by simp)
  generalize hwb : w.alloc (.cells #[.int .i64 p.wd, .int .i64 p.rk, .slice A0 p.fr.length c0, .slice A1 p.bk.length c1, .slice A2 p.cs.length c2, .slice A3 p.ls.length c3, .slice A4 p.dr.length c4] 33) = wb at UB H0 H1 H2 H3 H4 Q0 Q1 Q2 Q3 Q4 Q5 Q6 HZB HM2
  have hbm : w.heap.size < wb.heap.size := by have := HZB.out; omega
  have HVM : ∀ bb, okMac p = bb → ∀ u : UpOf wb, Calls Try.prog 57 #[(.agg #[.int .i64 p.wd, .int .i64 p.rk, .slice A0 p.fr.length c0, .slice A1 p.bk.length c1, .slice A2 p.cs.length c2, .slice A3 p.ls.length c3, .slice A4 p.dr.length c4])] u.wd fun e w'' => e = .returned (.bool bb) ∧ ∃ u' : UpOf wb, w'' = u'.wd := fun bb hbb u => calls_up (callB (ValidMachine_any u.wd S S S _ p (HM2.out.up u.up)) hbb)
  cases hok : okMac p with
  | false =>
    have HB := Lib.hid (rest_ok (n := n) hok)
    have HV := HVM false hok
    clear hok HVM
    have q0 := Q0.out
    have q1 := Q1.out
    have q2 := Q2.out
    have q3 := Q3.out
    have q4 := Q4.out
    have q5 := Q5.out
    have q6 := Q6.out
    go_enter Try.func11, Try.ntmps11
    go_wp2
    have g0 := up_cell q0
    have g1 := up_cell q1
    have g2 := up_cell q2
    have g3 := up_cell q3
    have g4 := up_cell q4
    have g5 := up_cell q5
    have g6 := up_cell q6
    clear q0 q1 q2 q3 q4 q5 q6
    refine wp_region_up (by kernel_rfl) (by kernel_rfl) ?_
    repeat (go_big_quiet_step ((first | (go_at_call 57; exact HV _))))
    refine wpQuiet_nil ?_
    rintro w1 ⟨u0, hu0⟩
    have gu := hu0 ▸ u0.up
    clear hu0 u0 g0 g1 g2 g3 g4 g5 g6 HV
    have U1 := Lib.hid (show Up wb w1 from Chg.trans (by repeat (first | exact Chg.refl _ _ | apply Chg.drew | apply Chg.drewN | refine Chg.alloc ?_ _)) gu)
    clear gu
    go_wp2
    go_ret
    exact ⟨ret_bool HB.out.symm, Chg.trans UB.out (Chg.trans U1.out (by repeat (first | exact Chg.refl _ _ | apply Chg.drew | apply Chg.drewN | refine Chg.alloc ?_ _)))⟩
  | true =>
  have HOK := Lib.hid hok
  have HHD := Lib.hid (headB_yes (okMac_headB hok))
  cases hn : inB n 0 8 with
  | false =>
    have HB := Lib.hid (rest_n (p := p) hn)
    have HN := Lib.hid hn
    clear hn
    have HV := HVM true hok
    clear hok HVM
    have q0 := Q0.out
    have q1 := Q1.out
    have q2 := Q2.out
    have q3 := Q3.out
    have q4 := Q4.out
    have q5 := Q5.out
    have q6 := Q6.out
    go_enter Try.func11, Try.ntmps11
    go_wp2
    have g0 := up_cell q0
    have g1 := up_cell q1
    have g2 := up_cell q2
    have g3 := up_cell q3
    have g4 := up_cell q4
    have g5 := up_cell q5
    have g6 := up_cell q6
    clear q0 q1 q2 q3 q4 q5 q6
    refine wp_region_up (by kernel_rfl) (by kernel_rfl) ?_
    repeat (go_big_quiet_step ((first | (go_at_call 57; exact HV _) | (go_at_call 58; exact calls_up_same (callS (within_any _ _ _ _) HN.out)))))
    refine wpQuiet_nil ?_
    rintro w1 ⟨u0, hu0⟩
    have gu := hu0 ▸ u0.up
    clear hu0 u0 g0 g1 g2 g3 g4 g5 g6 HV
    have U1 := Lib.hid (show Up wb w1 from Chg.trans (by repeat (first | exact Chg.refl _ _ | apply Chg.drew | apply Chg.drewN | refine Chg.alloc ?_ _)) gu)
    clear gu
    go_wp2
    go_ret
    exact ⟨ret_bool HB.out.symm, Chg.trans UB.out (Chg.trans U1.out (by repeat (first | exact Chg.refl _ _ | apply Chg.drew | apply Chg.drewN | refine Chg.alloc ?_ _)))⟩
  | true =>
  have HN := Lib.hid hn
  have HNB := Lib.hid (of_decide_eq_true hn)
  clear hn
  by_cases hr : p.rk = 0
  rotate_left
  · have HB := Lib.hid (rest_rk (n := n) hr)
    have er : (p.rk != 0) = true := by rw [bne_iff_ne]; exact hr
    clear hr
    have HV := HVM true hok
    clear hok HVM
    have q0 := Q0.out
    have q1 := Q1.out
    have q2 := Q2.out
    have q3 := Q3.out
    have q4 := Q4.out
    have q5 := Q5.out
    have q6 := Q6.out
    go_enter Try.func11, Try.ntmps11
    go_wp2
    have g0 := up_cell q0
    have g1 := up_cell q1
    have g2 := up_cell q2
    have g3 := up_cell q3
    have g4 := up_cell q4
    have g5 := up_cell q5
    have g6 := up_cell q6
    clear q0 q1 q2 q3 q4 q5 q6
    refine wp_region_up (by kernel_rfl) (by kernel_rfl) ?_
    repeat (go_big_quiet_step ((first | (go_at_call 57; exact HV _) | (go_at_call 58; exact calls_up_same (callS (within_any _ _ _ _) HN.out)))))
    refine wpQuiet_nil ?_
    rintro w1 ⟨u0, hu0⟩
    have gu := hu0 ▸ u0.up
    clear hu0 u0 g0 g1 g2 g3 g4 g5 g6 HV
    have U1 := Lib.hid (show Up wb w1 from Chg.trans (by repeat (first | exact Chg.refl _ _ | apply Chg.drew | apply Chg.drewN | refine Chg.alloc ?_ _)) gu)
    clear gu
    go_wp2
    go_ret
    exact ⟨ret_bool HB.out.symm, Chg.trans UB.out (Chg.trans U1.out (by repeat (first | exact Chg.refl _ _ | apply Chg.drew | apply Chg.drewN | refine Chg.alloc ?_ _)))⟩
  have er : (p.rk != 0) = false := by simp [hr]
  have HR := Lib.hid hr
  clear hr
  obtain ⟨k, hk⟩ : ∃ k : Nat, n = k := ⟨n.toNat, by have := HNB.out; omega⟩
  subst hk
  have HK := Lib.hid (show k ≤ 8 by have := HNB.out; omega)
  have key : lastB p (k : Int) = true → ∀ w1 : World, Hid (Up wb w1) → True := fun _ _ _ => trivial
  clear key
  by_cases h0 : k = 0
  · subst h0
    have HLT := Lib.hid (show lastB p ((0 : Nat) : Int) = true from decide_eq_true (.inl rfl))
    obtain ⟨k, hk0⟩ : ∃ k : Nat, k = 0 := ⟨0, rfl⟩
    have hok := hok
    have HV := HVM true hok
    clear hok HVM
    have q0 := Q0.out
    have q1 := Q1.out
    have q2 := Q2.out
    have q3 := Q3.out
    have q4 := Q4.out
    have q5 := Q5.out
    have q6 := Q6.out
    go_enter Try.func11, Try.ntmps11
    go_wp2
    have g0 := up_cell q0
    have g1 := up_cell q1
    have g2 := up_cell q2
    have g3 := up_cell q3
    have g4 := up_cell q4
    have g5 := up_cell q5
    have g6 := up_cell q6
    clear q0 q1 q2 q3 q4 q5 q6
    refine wp_region_up (by kernel_rfl) (by kernel_rfl) ?_
    repeat (go_big_quiet_step ((first | (go_at_call 57; exact HV _) | (go_at_call 58; exact calls_up_same (callS (within_any _ _ _ _) HN.out)))))
    refine wpQuiet_nil ?_
    rintro w1 ⟨u0, hu0⟩
    have gu := hu0 ▸ u0.up
    clear hu0 u0 g0 g1 g2 g3 g4 g5 g6 HV
    have U1 := Lib.hid (show Up wb w1 from Chg.trans (by repeat (first | exact Chg.refl _ _ | apply Chg.drew | apply Chg.drewN | refine Chg.alloc ?_ _)) gu)
    clear gu
    subst hk0
    have HRES := Lib.hid (fun h => (rest_all (p := p) (n := ((0 : Nat) : Int)) HOK.out HN.out HR.out h).trans HLT.out)
    have q0 := Chg.cell U1.out Q0.out id
    have hwd := HHD.out.1
    go_wp2
    clear q0
    go_loopw [5, 6, 7, 35] (fun _ _ _ i wx => ∃ j : Nat, (j : Int) ≤ p.wd ∧ i = .int .i64 j ∧ Hid (Up w1 wx) ∧ Hid (AllTo (restAt p 0) j)) (fun _ _ _ i _ => p.wd.toNat - (intOf i).toNat)
    case atStart => exact ⟨0, by omega, rfl, (by repeat (first | exact Chg.refl _ _ | apply Chg.drew | apply Chg.drewN | refine Chg.alloc ?_ _)), AllTo.start _⟩
    case round =>
      obtain ⟨j, hj, rfl, hu, hall⟩ := hrel
      have U3 := Lib.hid (Chg.trans U1.out hu.out)
      by_cases hlt : (j : Int) < p.wd
      · have hjf : j < p.fr.length := by have := HHD.out.2.2.1; omega
        have hjb : j < p.bk.length := by have := HHD.out.2.2.2.1; omega
        obtain ⟨b3, o3, c3', vs3, he3, -, -, -, hE3, hc3⟩ := (H1.out.up U3.out).at_ hjb
        obtain ⟨rfl, rfl⟩ : A1 = some ⟨b3, o3, none⟩ ∧ c1 = c3' := by simpa using he3
        obtain ⟨A7, k7, rfl, -, -, -⟩ := hE3.val
        have e1 := (hc3 0 _ rfl).1
        simp only [Nat.mul_one, Nat.add_zero] at e1
        clear hc3 he3 hE3
        obtain ⟨b4, o4, c4', vs4, he4, -, -, -, hE4, hc4⟩ := (H0.out.up U3.out).at_ hjf
        obtain ⟨rfl, rfl⟩ : A0 = some ⟨b4, o4, none⟩ ∧ c0 = c4' := by simpa using he4
        obtain ⟨A8, k8, rfl, -, -, -⟩ := hE4.val
        have e2 := (hc4 0 _ rfl).1
        simp only [Nat.mul_one, Nat.add_zero] at e2
        clear hc4 he4 hE4
        have q2 := Chg.cell U3.out Q2.out id
        have q3 := Chg.cell U3.out Q3.out id
        have i1 : (j : Int) < (p.bk.length : Int) := by omega
        have i2 : (j : Int) < (p.fr.length : Int) := by omega
        have HRK := HK.out
        have HCN : ∀ bb, colOk j = bb → Calls Try.prog 60 #[.int .i64 j] wr fun e w' => e = .returned (.tuple #[.int .i64 (colOf j), .bool bb]) ∧ wr = w' := fun bb hbb => (fnExactColumnOfNeedle.implColumn j wr (by unfold I64; omega)).mono fun e w' ⟨h1, h2⟩ => ⟨by rw [h1, hbb], h2⟩
        by_cases hb : p.bk[j].length = 0
        rotate_left
        · have HB := Lib.hid (rest_at (p := p) (n := ((0 : Nat) : Int)) (i := j) (by omega) (restAt_bk hjb hb))
          have t0 : decide (0 < p.bk[j].length) = true := decide_eq_true (by omega)
          clear hb
          cases hcb : colOk j with
          | true =>
            have hcc := HCN true hcb
            clear hcb HCN
            go_wp2_with fail
            refine hcc.mono ?_
            rintro e w' ⟨rfl, rfl⟩
            clear hcc
            go_wp2
            go_ret
            exact ⟨ret_bool HB.out.symm, Chg.trans UB.out (Chg.trans U3.out (by repeat (first | exact Chg.refl _ _ | apply Chg.drew | apply Chg.drewN | refine Chg.alloc ?_ _)))⟩
          | false =>
            have hcc := HCN false hcb
            clear hcb HCN
            go_wp2_with fail
            refine hcc.mono ?_
            rintro e w' ⟨rfl, rfl⟩
            clear hcc
            go_wp2
            go_ret
            exact ⟨ret_bool HB.out.symm, Chg.trans UB.out (Chg.trans U3.out (by repeat (first | exact Chg.refl _ _ | apply Chg.drew | apply Chg.drewN | refine Chg.alloc ?_ _)))⟩
        have t0 : decide (0 < p.bk[j].length) = false := decide_eq_false (by omega)
        have HRA := Lib.hid (restAt_fr (n := 0) hjb hjf hb)
        clear hb
        by_cases hf : 0 < p.fr[j].length
        · have t1 : decide (0 < p.fr[j].length) = true := decide_eq_true (by omega)
          have HRA := Lib.hid (HRA.out.trans (by rw [decide_eq_true hf]))
          clear hf
          cases hcb : colOk j with
          | false =>
            have HX := Lib.hid (HRA.out.trans (by rw [colB_cols HRK, hcb]))
            have HB := Lib.hid (rest_at (p := p) (n := ((0 : Nat) : Int)) (i := j) (by omega) (show restAt p 0 j = false from HX.out.trans rfl))
            have hcc := HCN false hcb
            clear hcb HCN
            go_wp2_with fail
            refine hcc.mono ?_
            rintro e w' ⟨rfl, rfl⟩
            clear hcc
            go_wp2
            go_ret
            exact ⟨ret_bool HB.out.symm, Chg.trans UB.out (Chg.trans U3.out (by repeat (first | exact Chg.refl _ _ | apply Chg.drew | apply Chg.drewN | refine Chg.alloc ?_ _)))⟩
          | true =>
          by_cases hlc : colOf j < (0 : Int)
          · have t2 : decide (colOf j < (0 : Int)) = true := decide_eq_true hlc
            have HX := Lib.hid (HRA.out.trans (by rw [colB_cols HRK, hcb, show decide (colOf (j : Int) < ((0 : Nat) : Int)) = true from decide_eq_true (by simpa using hlc)]))
            clear hlc
            have HNX := Lib.hid (show restAt p 0 j = true from HX.out.trans rfl)
            have hcc := HCN true hcb
            clear hcb HCN
            go_wp2_with fail
            refine hcc.mono ?_
            rintro e w' ⟨rfl, rfl⟩
            clear hcc
            go_wp2
            go_roundw
            case rel => first | exact ⟨j + 1, by omega, by go_num, hu, Lib.hid (hall.out.next HNX.out)⟩ | ((repeat apply Exists.intro); exact ⟨⟨j + 1, by omega, by go_num, hu, Lib.hid (hall.out.next HNX.out)⟩, rfl⟩)
            case measure => first | (simp [intOf]; done) | (simp [intOf]; omega)
          · have t2 : decide (colOf j < (0 : Int)) = false := decide_eq_false hlc
            have HX := Lib.hid (HRA.out.trans (by rw [colB_cols HRK, hcb, show decide (colOf (j : Int) < ((0 : Nat) : Int)) = false from decide_eq_false (by simpa using hlc)]))
            clear hlc
            have HB := Lib.hid (rest_at (p := p) (n := ((0 : Nat) : Int)) (i := j) (by omega) (show restAt p 0 j = false from HX.out.trans rfl))
            have hcc := HCN true hcb
            clear hcb HCN
            go_wp2_with fail
            refine hcc.mono ?_
            rintro e w' ⟨rfl, rfl⟩
            clear hcc
            go_wp2
            go_ret
            exact ⟨ret_bool HB.out.symm, Chg.trans UB.out (Chg.trans U3.out (by repeat (first | exact Chg.refl _ _ | apply Chg.drew | apply Chg.drewN | refine Chg.alloc ?_ _)))⟩
        skip
        · have t1 : decide (0 < p.fr[j].length) = false := decide_eq_false (by omega)
          have HRA := Lib.hid (HRA.out.trans (by rw [decide_eq_false hf]))
          clear hf
          cases hcb : colOk j with
          | false =>
            have HX := Lib.hid (HRA.out.trans (by rw [colB_cols HRK, hcb]))
            have HNX := Lib.hid (show restAt p 0 j = true from HX.out.trans rfl)
            have hcc := HCN false hcb
            clear hcb HCN
            go_wp2_with fail
            refine hcc.mono ?_
            rintro e w' ⟨rfl, rfl⟩
            clear hcc
            go_wp2
            go_roundw
            case rel => first | exact ⟨j + 1, by omega, by go_num, hu, Lib.hid (hall.out.next HNX.out)⟩ | ((repeat apply Exists.intro); exact ⟨⟨j + 1, by omega, by go_num, hu, Lib.hid (hall.out.next HNX.out)⟩, rfl⟩)
            case measure => first | (simp [intOf]; done) | (simp [intOf]; omega)
          | true =>
          by_cases hlc : colOf j < (0 : Int)
          · have t2 : decide (colOf j < (0 : Int)) = true := decide_eq_true hlc
            have HX := Lib.hid (HRA.out.trans (by rw [colB_cols HRK, hcb, show decide (colOf (j : Int) < ((0 : Nat) : Int)) = true from decide_eq_true (by simpa using hlc)]))
            clear hlc
            have HB := Lib.hid (rest_at (p := p) (n := ((0 : Nat) : Int)) (i := j) (by omega) (show restAt p 0 j = false from HX.out.trans rfl))
            have hcc := HCN true hcb
            clear hcb HCN
            go_wp2_with fail
            refine hcc.mono ?_
            rintro e w' ⟨rfl, rfl⟩
            clear hcc
            go_wp2
            go_ret
            exact ⟨ret_bool HB.out.symm, Chg.trans UB.out (Chg.trans U3.out (by repeat (first | exact Chg.refl _ _ | apply Chg.drew | apply Chg.drewN | refine Chg.alloc ?_ _)))⟩
          · have t2 : decide (colOf j < (0 : Int)) = false := decide_eq_false hlc
            have HX := Lib.hid (HRA.out.trans (by rw [colB_cols HRK, hcb, show decide (colOf (j : Int) < ((0 : Nat) : Int)) = false from decide_eq_false (by simpa using hlc)]))
            clear hlc
            have HNX := Lib.hid (show restAt p 0 j = true from HX.out.trans rfl)
            have hcc := HCN true hcb
            clear hcb HCN
            go_wp2_with fail
            refine hcc.mono ?_
            rintro e w' ⟨rfl, rfl⟩
            clear hcc
            go_wp2
            go_roundw
            case rel => first | exact ⟨j + 1, by omega, by go_num, hu, Lib.hid (hall.out.next HNX.out)⟩ | ((repeat apply Exists.intro); exact ⟨⟨j + 1, by omega, by go_num, hu, Lib.hid (hall.out.next HNX.out)⟩, rfl⟩)
            case measure => first | (simp [intOf]; done) | (simp [intOf]; omega)
      · have hje : j = p.wd.toNat := by omega
        have HB := Lib.hid (HRES.out (by rw [← hje]; exact hall.out))
        clear hje hall
        go_wp2
        go_ret
        exact ⟨ret_bool HB.out.symm, Chg.trans UB.out (Chg.trans U3.out (by repeat (first | exact Chg.refl _ _ | apply Chg.drew | apply Chg.drewN | refine Chg.alloc ?_ _)))⟩
  obtain ⟨m, rfl⟩ : ∃ m, k = m + 1 := ⟨k - 1, by omega⟩
  have hk8 := HK.out
  have HLB := Lib.hid (show lastB p ((m + 1 : Nat) : Int) = decide (2 * (m : Int) + 1 < p.wd) by unfold lastB; rw [decide_eq_decide]; omega)
  have w1' : IntKind.i64.wrap ((m : Int) + 1 - 1) = m := by rw [show (m : Int) + 1 - 1 = m by omega]; exact IntWalk.i64_in _ (by omega)
  have t9 : decide ((0 : Int) < (m : Int) + 1) = true := decide_eq_true (by omega)
  by_cases hx : 2 * (m : Int) + 1 < p.wd
  rotate_left
  · have t1 : decide (p.wd ≤ 2 * (m : Int) + 1) = true := decide_eq_true (by omega)
    have HB := Lib.hid (rest_last (n := ((m + 1 : Nat) : Int)) (HLB.out.trans (decide_eq_false hx)))
    clear hx h0
    have HV := HVM true hok
    clear hok HVM
    have q0 := Q0.out
    have q1 := Q1.out
    have q2 := Q2.out
    have q3 := Q3.out
    have q4 := Q4.out
    have q5 := Q5.out
    have q6 := Q6.out
    go_enter Try.func11, Try.ntmps11
    go_wp2
    have g0 := up_cell q0
    have g1 := up_cell q1
    have g2 := up_cell q2
    have g3 := up_cell q3
    have g4 := up_cell q4
    have g5 := up_cell q5
    have g6 := up_cell q6
    clear q0 q1 q2 q3 q4 q5 q6
    refine wp_region_up (by kernel_rfl) (by kernel_rfl) ?_
    repeat (go_big_quiet_step ((first | (go_at_call 57; exact HV _) | (go_at_call 58; exact calls_up_same (callS (within_any _ _ _ _) HN.out)) | (go_at_call 59; exact calls_up_same (needleOf_any _ _ ⟨by omega, by omega⟩)))))
    refine wpQuiet_nil ?_
    rintro w1 ⟨u0, hu0⟩
    have gu := hu0 ▸ u0.up
    clear hu0 u0 g0 g1 g2 g3 g4 g5 g6 HV
    have U1 := Lib.hid (show Up wb w1 from Chg.trans (by repeat (first | exact Chg.refl _ _ | apply Chg.drew | apply Chg.drewN | refine Chg.alloc ?_ _)) gu)
    clear gu
    go_wp2
    go_ret
    exact ⟨ret_bool HB.out.symm, Chg.trans UB.out (Chg.trans U1.out (by repeat (first | exact Chg.refl _ _ | apply Chg.drew | apply Chg.drewN | refine Chg.alloc ?_ _)))⟩
  have t1 : decide (p.wd ≤ 2 * (m : Int) + 1) = false := decide_eq_false (by omega)
  have HLT := Lib.hid (HLB.out.trans (decide_eq_true hx))
  clear hx h0
  have HV := HVM true hok
  clear hok HVM
  have q0 := Q0.out
  have q1 := Q1.out
  have q2 := Q2.out
  have q3 := Q3.out
  have q4 := Q4.out
  have q5 := Q5.out
  have q6 := Q6.out
  go_enter Try.func11, Try.ntmps11
  go_wp2
  have g0 := up_cell q0
  have g1 := up_cell q1
  have g2 := up_cell q2
  have g3 := up_cell q3
  have g4 := up_cell q4
  have g5 := up_cell q5
  have g6 := up_cell q6
  clear q0 q1 q2 q3 q4 q5 q6
  refine wp_region_up (by kernel_rfl) (by kernel_rfl) ?_
  repeat (go_big_quiet_step ((first | (go_at_call 57; exact HV _) | (go_at_call 58; exact calls_up_same (callS (within_any _ _ _ _) HN.out)) | (go_at_call 59; exact calls_up_same (needleOf_any _ _ ⟨by omega, by omega⟩)))))
  refine wpQuiet_nil ?_
  rintro w1 ⟨u0, hu0⟩
  have gu := hu0 ▸ u0.up
  clear hu0 u0 g0 g1 g2 g3 g4 g5 g6 HV
  have U1 := Lib.hid (show Up wb w1 from Chg.trans (by repeat (first | exact Chg.refl _ _ | apply Chg.drew | apply Chg.drewN | refine Chg.alloc ?_ _)) gu)
  clear gu
  have HRES := Lib.hid (fun h => (rest_all (p := p) (n := ((m + 1 : Nat) : Int)) HOK.out HN.out HR.out h).trans HLT.out)
  have q0 := Chg.cell U1.out Q0.out id
  have hwd := HHD.out.1
  go_wp2
  clear q0
  go_loopw [5, 6, 7, 35] (fun _ _ _ i wx => ∃ j : Nat, (j : Int) ≤ p.wd ∧ i = .int .i64 j ∧ Hid (Up w1 wx) ∧ Hid (AllTo (restAt p (m + 1)) j)) (fun _ _ _ i _ => p.wd.toNat - (intOf i).toNat)
  case atStart => exact ⟨0, by omega, rfl, (by repeat (first | exact Chg.refl _ _ | apply Chg.drew | apply Chg.drewN | refine Chg.alloc ?_ _)), AllTo.start _⟩
  case round =>
    obtain ⟨j, hj, rfl, hu, hall⟩ := hrel
    have U3 := Lib.hid (Chg.trans U1.out hu.out)
    by_cases hlt : (j : Int) < p.wd
    · have hjf : j < p.fr.length := by have := HHD.out.2.2.1; omega
      have hjb : j < p.bk.length := by have := HHD.out.2.2.2.1; omega
      obtain ⟨b3, o3, c3', vs3, he3, -, -, -, hE3, hc3⟩ := (H1.out.up U3.out).at_ hjb
      obtain ⟨rfl, rfl⟩ : A1 = some ⟨b3, o3, none⟩ ∧ c1 = c3' := by simpa using he3
      obtain ⟨A7, k7, rfl, -, -, -⟩ := hE3.val
      have e1 := (hc3 0 _ rfl).1
      simp only [Nat.mul_one, Nat.add_zero] at e1
      clear hc3 he3 hE3
      obtain ⟨b4, o4, c4', vs4, he4, -, -, -, hE4, hc4⟩ := (H0.out.up U3.out).at_ hjf
      obtain ⟨rfl, rfl⟩ : A0 = some ⟨b4, o4, none⟩ ∧ c0 = c4' := by simpa using he4
      obtain ⟨A8, k8, rfl, -, -, -⟩ := hE4.val
      have e2 := (hc4 0 _ rfl).1
      simp only [Nat.mul_one, Nat.add_zero] at e2
      clear hc4 he4 hE4
      have q2 := Chg.cell U3.out Q2.out id
      have q3 := Chg.cell U3.out Q3.out id
      have i1 : (j : Int) < (p.bk.length : Int) := by omega
      have i2 : (j : Int) < (p.fr.length : Int) := by omega
      have HRK := HK.out
      have HCN : ∀ bb, colOk j = bb → Calls Try.prog 60 #[.int .i64 j] wr fun e w' => e = .returned (.tuple #[.int .i64 (colOf j), .bool bb]) ∧ wr = w' := fun bb hbb => (fnExactColumnOfNeedle.implColumn j wr (by unfold I64; omega)).mono fun e w' ⟨h1, h2⟩ => ⟨by rw [h1, hbb], h2⟩
      by_cases hb : p.bk[j].length = 0
      rotate_left
      · have HB := Lib.hid (rest_at (p := p) (n := ((m + 1 : Nat) : Int)) (i := j) (by omega) (restAt_bk hjb hb))
        have t0 : decide (0 < p.bk[j].length) = true := decide_eq_true (by omega)
        clear hb
        cases hcb : colOk j with
        | true =>
          have hcc := HCN true hcb
          clear hcb HCN
          go_wp2_with fail
          refine hcc.mono ?_
          rintro e w' ⟨rfl, rfl⟩
          clear hcc
          go_wp2
          go_ret
          exact ⟨ret_bool HB.out.symm, Chg.trans UB.out (Chg.trans U3.out (by repeat (first | exact Chg.refl _ _ | apply Chg.drew | apply Chg.drewN | refine Chg.alloc ?_ _)))⟩
        | false =>
          have hcc := HCN false hcb
          clear hcb HCN
          go_wp2_with fail
          refine hcc.mono ?_
          rintro e w' ⟨rfl, rfl⟩
          clear hcc
          go_wp2
          go_ret
          exact ⟨ret_bool HB.out.symm, Chg.trans UB.out (Chg.trans U3.out (by repeat (first | exact Chg.refl _ _ | apply Chg.drew | apply Chg.drewN | refine Chg.alloc ?_ _)))⟩
      have t0 : decide (0 < p.bk[j].length) = false := decide_eq_false (by omega)
      have HRA := Lib.hid (restAt_fr (n := m + 1) hjb hjf hb)
      clear hb
      by_cases hf : 0 < p.fr[j].length
      · have t1 : decide (0 < p.fr[j].length) = true := decide_eq_true (by omega)
        have HRA := Lib.hid (HRA.out.trans (by rw [decide_eq_true hf]))
        clear hf
        cases hcb : colOk j with
        | false =>
          have HX := Lib.hid (HRA.out.trans (by rw [colB_cols HRK, hcb]))
          have HB := Lib.hid (rest_at (p := p) (n := ((m + 1 : Nat) : Int)) (i := j) (by omega) (show restAt p (m + 1) j = false from HX.out.trans rfl))
          have hcc := HCN false hcb
          clear hcb HCN
          go_wp2_with fail
          refine hcc.mono ?_
          rintro e w' ⟨rfl, rfl⟩
          clear hcc
          go_wp2
          go_ret
          exact ⟨ret_bool HB.out.symm, Chg.trans UB.out (Chg.trans U3.out (by repeat (first | exact Chg.refl _ _ | apply Chg.drew | apply Chg.drewN | refine Chg.alloc ?_ _)))⟩
        | true =>
        by_cases hlc : colOf j < (m : Int) + 1
        · have t2 : decide (colOf j < (m : Int) + 1) = true := decide_eq_true hlc
          have HX := Lib.hid (HRA.out.trans (by rw [colB_cols HRK, hcb, show decide (colOf (j : Int) < ((m + 1 : Nat) : Int)) = true from decide_eq_true (by simpa using hlc)]))
          clear hlc
          have HNX := Lib.hid (show restAt p (m + 1) j = true from HX.out.trans rfl)
          have hcc := HCN true hcb
          clear hcb HCN
          go_wp2_with fail
          refine hcc.mono ?_
          rintro e w' ⟨rfl, rfl⟩
          clear hcc
          go_wp2
          go_roundw
          case rel => first | exact ⟨j + 1, by omega, by go_num, hu, Lib.hid (hall.out.next HNX.out)⟩ | ((repeat apply Exists.intro); exact ⟨⟨j + 1, by omega, by go_num, hu, Lib.hid (hall.out.next HNX.out)⟩, rfl⟩)
          case measure => first | (simp [intOf]; done) | (simp [intOf]; omega)
        · have t2 : decide (colOf j < (m : Int) + 1) = false := decide_eq_false hlc
          have HX := Lib.hid (HRA.out.trans (by rw [colB_cols HRK, hcb, show decide (colOf (j : Int) < ((m + 1 : Nat) : Int)) = false from decide_eq_false (by simpa using hlc)]))
          clear hlc
          have HB := Lib.hid (rest_at (p := p) (n := ((m + 1 : Nat) : Int)) (i := j) (by omega) (show restAt p (m + 1) j = false from HX.out.trans rfl))
          have hcc := HCN true hcb
          clear hcb HCN
          go_wp2_with fail
          refine hcc.mono ?_
          rintro e w' ⟨rfl, rfl⟩
          clear hcc
          go_wp2
          go_ret
          exact ⟨ret_bool HB.out.symm, Chg.trans UB.out (Chg.trans U3.out (by repeat (first | exact Chg.refl _ _ | apply Chg.drew | apply Chg.drewN | refine Chg.alloc ?_ _)))⟩
      skip
      · have t1 : decide (0 < p.fr[j].length) = false := decide_eq_false (by omega)
        have HRA := Lib.hid (HRA.out.trans (by rw [decide_eq_false hf]))
        clear hf
        cases hcb : colOk j with
        | false =>
          have HX := Lib.hid (HRA.out.trans (by rw [colB_cols HRK, hcb]))
          have HNX := Lib.hid (show restAt p (m + 1) j = true from HX.out.trans rfl)
          have hcc := HCN false hcb
          clear hcb HCN
          go_wp2_with fail
          refine hcc.mono ?_
          rintro e w' ⟨rfl, rfl⟩
          clear hcc
          go_wp2
          go_roundw
          case rel => first | exact ⟨j + 1, by omega, by go_num, hu, Lib.hid (hall.out.next HNX.out)⟩ | ((repeat apply Exists.intro); exact ⟨⟨j + 1, by omega, by go_num, hu, Lib.hid (hall.out.next HNX.out)⟩, rfl⟩)
          case measure => first | (simp [intOf]; done) | (simp [intOf]; omega)
        | true =>
        by_cases hlc : colOf j < (m : Int) + 1
        · have t2 : decide (colOf j < (m : Int) + 1) = true := decide_eq_true hlc
          have HX := Lib.hid (HRA.out.trans (by rw [colB_cols HRK, hcb, show decide (colOf (j : Int) < ((m + 1 : Nat) : Int)) = true from decide_eq_true (by simpa using hlc)]))
          clear hlc
          have HB := Lib.hid (rest_at (p := p) (n := ((m + 1 : Nat) : Int)) (i := j) (by omega) (show restAt p (m + 1) j = false from HX.out.trans rfl))
          have hcc := HCN true hcb
          clear hcb HCN
          go_wp2_with fail
          refine hcc.mono ?_
          rintro e w' ⟨rfl, rfl⟩
          clear hcc
          go_wp2
          go_ret
          exact ⟨ret_bool HB.out.symm, Chg.trans UB.out (Chg.trans U3.out (by repeat (first | exact Chg.refl _ _ | apply Chg.drew | apply Chg.drewN | refine Chg.alloc ?_ _)))⟩
        · have t2 : decide (colOf j < (m : Int) + 1) = false := decide_eq_false hlc
          have HX := Lib.hid (HRA.out.trans (by rw [colB_cols HRK, hcb, show decide (colOf (j : Int) < ((m + 1 : Nat) : Int)) = false from decide_eq_false (by simpa using hlc)]))
          clear hlc
          have HNX := Lib.hid (show restAt p (m + 1) j = true from HX.out.trans rfl)
          have hcc := HCN true hcb
          clear hcb HCN
          go_wp2_with fail
          refine hcc.mono ?_
          rintro e w' ⟨rfl, rfl⟩
          clear hcc
          go_wp2
          go_roundw
          case rel => first | exact ⟨j + 1, by omega, by go_num, hu, Lib.hid (hall.out.next HNX.out)⟩ | ((repeat apply Exists.intro); exact ⟨⟨j + 1, by omega, by go_num, hu, Lib.hid (hall.out.next HNX.out)⟩, rfl⟩)
          case measure => first | (simp [intOf]; done) | (simp [intOf]; omega)
    · have hje : j = p.wd.toNat := by omega
      have HB := Lib.hid (HRES.out (by rw [← hje]; exact hall.out))
      clear hje hall
      go_wp2
      go_ret
      exact ⟨ret_bool HB.out.symm, Chg.trans UB.out (Chg.trans U3.out (by repeat (first | exact Chg.refl _ _ | apply Chg.drew | apply Chg.drewN | refine Chg.alloc ?_ _)))⟩
end Go.Proofs.Ytobgbnpgledabaa
