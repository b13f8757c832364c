/- Machines: the program's ValidMachine. No condition. -/
import Derived.Test.YtchfjglofmphfaaMacY
import Derived.Test.YtchfjglofmphfaaRB11
set_option linter.unusedSimpArgs false
set_option linter.unusedVariables false
set_option maxRecDepth 100000
set_option maxHeartbeats 4000000
namespace Go.Proofs.Ytchfjglofmphfaa
open Go.ChangeShapes Go.WideShapes Go.ChangeAt Go.RowKit
def lst2 (p : MacM) : List (List Int) := p.fr ++ p.bk
theorem lst2_eq (p : MacM) : ([p.fr, p.bk] : List (List (List Int))).flatten = lst2 p := by simp [lst2]
theorem few_no {xss : List (List Int)} {j : Nat} (hj : j < xss.length) (h : ¬ xss[j].length ≤ 4) : fewB xss = false := all_no hj (by rw [getD_eq hj]; exact decide_eq_false h)
theorem few_all {xss : List (List Int)} (h : ∀ i (hi : i < xss.length), xss[i].length ≤ 4) : fewB xss = true := AllTo.all fun i hi => by rw [getD_eq hi]; exact decide_eq_true (h i hi)
theorem few2_no {p : MacM} {j : Nat} (hj : j < (lst2 p).length) (h : ¬ (lst2 p)[j].length ≤ 4) : okMac p = false := by
  unfold lst2 at hj h
  rw [List.length_append] at hj
  by_cases c : j < p.fr.length
  · rw [List.getElem_append_left c] at h
    exact okMac_fr (few_no c h)
  · rw [List.getElem_append_right (by omega)] at h
    exact okMac_bk (few_no (by omega) h)
theorem few2_all {p : MacM} (h : ∀ i (hi : i < (lst2 p).length), (lst2 p)[i].length ≤ 4) : fewB p.fr = true ∧ fewB p.bk = true := by
  unfold lst2 at h
  refine ⟨few_all fun i hi => ?_, few_all fun i hi => ?_⟩
  · have := h i (by rw [List.length_append]; omega)
    rwa [List.getElem_append_left hi] at this
  · have := h (p.fr.length + i) (by rw [List.length_append]; omega)
    rw [List.getElem_append_right (by omega)] at this
    simpa using this
theorem headB_wd {p : MacM} (h : inB p.wd 1 24 = false) : headB p = false := by simp [headB, h]
theorem headB_rk {p : MacM} (h : rackB p.rk = false) : headB p = false := by simp [headB, h]
theorem headB_fr {p : MacM} (h : ¬ (p.fr.length : Int) = p.wd) : headB p = false := by unfold headB; rw [decide_eq_false h]; simp
theorem headB_bk {p : MacM} (h : ¬ (p.bk.length : Int) = p.wd) : headB p = false := by unfold headB; rw [decide_eq_false h]; simp
theorem headB_cs {p : MacM} (h : ¬ p.cs.length = 4) : headB p = false := by unfold headB; rw [decide_eq_false h]; simp
theorem headB_ls {p : MacM} (h : ¬ p.ls.length ≤ 300) : headB p = false := by unfold headB; rw [decide_eq_false h]; simp
theorem headB_all {p : MacM} (h1 : inB p.wd 1 24 = true) (h2 : rackB p.rk = true) (h3 : (p.fr.length : Int) = p.wd) (h4 : (p.bk.length : Int) = p.wd) (h5 : p.cs.length = 4) (h6 : p.ls.length ≤ 300) : headB p = true := by
  unfold headB
  rw [h1, h2, decide_eq_true h3, decide_eq_true h4, decide_eq_true h5, decide_eq_true h6]
  rfl
theorem carOk_pos {c : CarM} {wd : Int} (h : inB c.pos (-3) (wd + 3) = false) : carOkB c wd = false := by unfold carOkB; rw [h]; rfl
theorem carOk_out {c : CarM} {wd : Int} (h : c.isin = false) (h2 : ¬ c.pos = 0) : carOkB c wd = false := by unfold carOkB; rw [h, decide_eq_false h2]; simp
theorem carOk_in {c : CarM} {wd : Int} (h : inB c.pos (-3) (wd + 3) = true) (h2 : c.isin = true) : carOkB c wd = true := by unfold carOkB; rw [h, h2]; rfl
theorem carOk_zero {c : CarM} {wd : Int} (h : inB c.pos (-3) (wd + 3) = true) (h2 : c.pos = 0) : carOkB c wd = true := by unfold carOkB; rw [h, decide_eq_true h2]; simp
theorem ValidMachine_any (w : World) (M H L : Nat → Prop) (v : Value) (p : MacM) (h : MacV w M H L v p) :
    Calls Try.prog 54 #[v] w fun e w' => e = .returned (.bool (okMac p)) ∧ Up w w' := by
  obtain ⟨A0, c0, A1, c1, A2, c2, A3, c3, A4, c4, rfl, h0, h1, h2, h3, h4, hl0, hl1, hl2, hl3, hl4, hi0, hi1⟩ := h
  have UB := Lib.hid ((Chg.refl Nowhere w).alloc (.cells #[.int .i64 p.wd, .int .i64 p.rk, .slice A0 p.fr.length c0, .slice A1 p.bk.length c1, .slice A2 p.cs.length c2, .slice A3 p.ls.length c3, .slice A4 p.dr.length c4] 35))
  have H0 := Lib.hid (h0.up UB.out)
  have H1 := Lib.hid (h1.up UB.out)
  have H2 := Lib.hid (h2.up UB.out)
  have H3 := Lib.hid (h3.up UB.out)
  have H4 := Lib.hid (h4.up UB.out)
  clear h0 h1 h2 h3 h4
  have Q0 := Lib.hid (show (w.alloc (.cells #[.int .i64 p.wd, .int .i64 p.rk, .slice A0 p.fr.length c0, .slice A1 p.bk.length c1, .slice A2 p.cs.length c2, .slice A3 p.ls.length c3, .slice A4 p.dr.length c4] 35)).cell? ⟨w.heap.size, 0, none⟩ = some (.int .i64 p.wd) from cell_new _ _ _ _)
  have Q1 := Lib.hid (show (w.alloc (.cells #[.int .i64 p.wd, .int .i64 p.rk, .slice A0 p.fr.length c0, .slice A1 p.bk.length c1, .slice A2 p.cs.length c2, .slice A3 p.ls.length c3, .slice A4 p.dr.length c4] 35)).cell? ⟨w.heap.size, 1, none⟩ = some (.int .i64 p.rk) from cell_new _ _ _ _)
  have Q2 := Lib.hid (show (w.alloc (.cells #[.int .i64 p.wd, .int .i64 p.rk, .slice A0 p.fr.length c0, .slice A1 p.bk.length c1, .slice A2 p.cs.length c2, .slice A3 p.ls.length c3, .slice A4 p.dr.length c4] 35)).cell? ⟨w.heap.size, 2, none⟩ = some (.slice A0 p.fr.length c0) from cell_new _ _ _ _)
  have Q3 := Lib.hid (show (w.alloc (.cells #[.int .i64 p.wd, .int .i64 p.rk, .slice A0 p.fr.length c0, .slice A1 p.bk.length c1, .slice A2 p.cs.length c2, .slice A3 p.ls.length c3, .slice A4 p.dr.length c4] 35)).cell? ⟨w.heap.size, 3, none⟩ = some (.slice A1 p.bk.length c1) from cell_new _ _ _ _)
  have Q4 := Lib.hid (show (w.alloc (.cells #[.int .i64 p.wd, .int .i64 p.rk, .slice A0 p.fr.length c0, .slice A1 p.bk.length c1, .slice A2 p.cs.length c2, .slice A3 p.ls.length c3, .slice A4 p.dr.length c4] 35)).cell? ⟨w.heap.size, 4, none⟩ = some (.slice A2 p.cs.length c2) from cell_new _ _ _ _)
  have Q5 := Lib.hid (show (w.alloc (.cells #[.int .i64 p.wd, .int .i64 p.rk, .slice A0 p.fr.length c0, .slice A1 p.bk.length c1, .slice A2 p.cs.length c2, .slice A3 p.ls.length c3, .slice A4 p.dr.length c4] 35)).cell? ⟨w.heap.size, 5, none⟩ = some (.slice A3 p.ls.length c3) from cell_new _ _ _ _)
  have Q6 := Lib.hid (show (w.alloc (.cells #[.int .i64 p.wd, .int .i64 p.rk, .slice A0 p.fr.length c0, .slice A1 p.bk.length c1, .slice A2 p.cs.length c2, .slice A3 p.ls.length c3, .slice A4 p.dr.length c4] 35)).cell? ⟨w.heap.size, 6, none⟩ = some (.slice A4 p.dr.length c4) from cell_new _ _ _ _)
  have HZB := Lib.hid (show (w.alloc (.cells #[.int .i64 p.wd, .int .i64 p.rk, .slice A0 p.fr.length c0, .slice A1 p.bk.length c1, .slice A2 p.cs.length c2, .slice A3 p.ls.length c3, .slice A4 p.dr.length c4] 35)).heap.size = w.heap.size + 1 by simp)
  generalize hwb : w.alloc (.cells #[.int .i64 p.wd, .int .i64 p.rk, .slice A0 p.fr.length c0, .slice A1 p.bk.length c1, .slice A2 p.cs.length c2, .slice A3 p.ls.length c3, .slice A4 p.dr.length c4] 35) = wb at UB H0 H1 H2 H3 H4 Q0 Q1 Q2 Q3 Q4 Q5 Q6 HZB
  have hbm : w.heap.size < wb.heap.size := by have := HZB.out; omega
  cases hw : inB p.wd 1 24 with
  | false =>
    have HB := Lib.hid (okMac_head (headB_wd hw))
    have HW := Lib.hid hw
    clear hw
    have q0 := Q0.out
    have q1 := Q1.out
    have q2 := Q2.out
    have q3 := Q3.out
    have q4 := Q4.out
    have q5 := Q5.out
    have q6 := Q6.out
    go_enter Try.func54, Try.ntmps54
    go_wp2_with fail
    refine (callS (within_any _ _ _ _) HW.out).mono ?_
    rintro e w' ⟨rfl, rfl⟩
    go_wp2
    go_ret
    exact ⟨ret_bool HB.out.symm, Chg.trans UB.out (by repeat (first | exact Chg.refl _ _ | apply Chg.drew | apply Chg.drewN | refine Chg.alloc ?_ _))⟩
  | true =>
  have HW := Lib.hid hw
  have HWD := Lib.hid (of_decide_eq_true hw)
  clear hw
  cases hr : rackB p.rk with
  | false =>
    have HB := Lib.hid (okMac_head (headB_rk hr))
    have HR := Lib.hid hr
    clear hr
    have q0 := Q0.out
    have q1 := Q1.out
    have q2 := Q2.out
    have q3 := Q3.out
    have q4 := Q4.out
    have q5 := Q5.out
    have q6 := Q6.out
    go_enter Try.func54, Try.ntmps54
    go_wp2_with fail
    refine (callS (within_any _ _ _ _) HW.out).mono ?_
    rintro e w' ⟨rfl, rfl⟩
    go_wp2_with fail
    refine (callS (isRack_any _ _) HR.out).mono ?_
    rintro e w' ⟨rfl, rfl⟩
    go_wp2
    go_ret
    exact ⟨ret_bool HB.out.symm, Chg.trans UB.out (by repeat (first | exact Chg.refl _ _ | apply Chg.drew | apply Chg.drewN | refine Chg.alloc ?_ _))⟩
  | true =>
  have HR := Lib.hid hr
  clear hr
  by_cases hf : (p.fr.length : Int) = p.wd
  rotate_left
  · have HB := Lib.hid (okMac_head (headB_fr hf))
    have ef : ((p.fr.length : Int) != p.wd) = true := by rw [bne_iff_ne]; omega
    clear hf
    have q0 := Q0.out
    have q1 := Q1.out
    have q2 := Q2.out
    have q3 := Q3.out
    have q4 := Q4.out
    have q5 := Q5.out
    have q6 := Q6.out
    go_enter Try.func54, Try.ntmps54
    go_wp2_with fail
    refine (callS (within_any _ _ _ _) HW.out).mono ?_
    rintro e w' ⟨rfl, rfl⟩
    go_wp2_with fail
    refine (callS (isRack_any _ _) HR.out).mono ?_
    rintro e w' ⟨rfl, rfl⟩
    go_wp2
    go_ret
    exact ⟨ret_bool HB.out.symm, Chg.trans UB.out (by repeat (first | exact Chg.refl _ _ | apply Chg.drew | apply Chg.drewN | refine Chg.alloc ?_ _))⟩
  have ef : ((p.fr.length : Int) != p.wd) = false := by simp; omega
  have Hf := Lib.hid hf
  clear hf
  by_cases hb : (p.bk.length : Int) = p.wd
  rotate_left
  · have HB := Lib.hid (okMac_head (headB_bk hb))
    have eb : ((p.bk.length : Int) != p.wd) = true := by rw [bne_iff_ne]; omega
    clear hb
    have q0 := Q0.out
    have q1 := Q1.out
    have q2 := Q2.out
    have q3 := Q3.out
    have q4 := Q4.out
    have q5 := Q5.out
    have q6 := Q6.out
    go_enter Try.func54, Try.ntmps54
    go_wp2_with fail
    refine (callS (within_any _ _ _ _) HW.out).mono ?_
    rintro e w' ⟨rfl, rfl⟩
    go_wp2_with fail
    refine (callS (isRack_any _ _) HR.out).mono ?_
    rintro e w' ⟨rfl, rfl⟩
    go_wp2
    go_ret
    exact ⟨ret_bool HB.out.symm, Chg.trans UB.out (by repeat (first | exact Chg.refl _ _ | apply Chg.drew | apply Chg.drewN | refine Chg.alloc ?_ _))⟩
  have eb : ((p.bk.length : Int) != p.wd) = false := by simp; omega
  have Hb := Lib.hid hb
  clear hb
  by_cases hc : p.cs.length = 4
  rotate_left
  · have HB := Lib.hid (okMac_head (headB_cs hc))
    have ec : ((p.cs.length : Int) != 4) = true := by rw [bne_iff_ne]; omega
    clear hc
    have q0 := Q0.out
    have q1 := Q1.out
    have q2 := Q2.out
    have q3 := Q3.out
    have q4 := Q4.out
    have q5 := Q5.out
    have q6 := Q6.out
    go_enter Try.func54, Try.ntmps54
    go_wp2_with fail
    refine (callS (within_any _ _ _ _) HW.out).mono ?_
    rintro e w' ⟨rfl, rfl⟩
    go_wp2_with fail
    refine (callS (isRack_any _ _) HR.out).mono ?_
    rintro e w' ⟨rfl, rfl⟩
    go_wp2
    go_ret
    exact ⟨ret_bool HB.out.symm, Chg.trans UB.out (by repeat (first | exact Chg.refl _ _ | apply Chg.drew | apply Chg.drewN | refine Chg.alloc ?_ _))⟩
  have ec : ((p.cs.length : Int) != 4) = false := by simp; omega
  have Hc := Lib.hid hc
  clear hc
  by_cases hl : p.ls.length ≤ 300
  rotate_left
  · have HB := Lib.hid (okMac_head (headB_ls hl))
    have el : decide ((p.ls.length : Int) > 300) = true := decide_eq_true (by omega)
    clear hl
    have q0 := Q0.out
    have q1 := Q1.out
    have q2 := Q2.out
    have q3 := Q3.out
    have q4 := Q4.out
    have q5 := Q5.out
    have q6 := Q6.out
    go_enter Try.func54, Try.ntmps54
    go_wp2_with fail
    refine (callS (within_any _ _ _ _) HW.out).mono ?_
    rintro e w' ⟨rfl, rfl⟩
    go_wp2_with fail
    refine (callS (isRack_any _ _) HR.out).mono ?_
    rintro e w' ⟨rfl, rfl⟩
    go_wp2
    go_ret
    exact ⟨ret_bool HB.out.symm, Chg.trans UB.out (by repeat (first | exact Chg.refl _ _ | apply Chg.drew | apply Chg.drewN | refine Chg.alloc ?_ _))⟩
  have el : decide ((p.ls.length : Int) > 300) = false := decide_eq_false (by omega)
  have Hl := Lib.hid hl
  clear hl
  have HEAD := Lib.hid (headB_all HW.out HR.out Hf.out Hb.out Hc.out Hl.out)
  have q0 := Q0.out
  have q1 := Q1.out
  have q2 := Q2.out
  have q3 := Q3.out
  have q4 := Q4.out
  have q5 := Q5.out
  have q6 := Q6.out
  go_enter Try.func54, Try.ntmps54
  go_wp2_with fail
  refine (callS (within_any _ _ _ _) HW.out).mono ?_
  rintro e w' ⟨rfl, rfl⟩
  go_wp2_with fail
  refine (callS (isRack_any _ _) HR.out).mono ?_
  rintro e w' ⟨rfl, rfl⟩
  skip
  have HCC : ∀ wx, Up (wb.alloc (.cells #[.slice A0 p.fr.length c0, .slice A1 p.bk.length c1] 22)) wx → Calls Try.prog 113 #[.slice (some ⟨wb.heap.size, 0, none⟩) 2 2] wx fun e w' => ∃ A c, e = .returned (.slice A (lst2 p).length c) ∧ Hid (IntSSV w' Nowhere (New wx.heap.size w'.heap.size) (fun b => L b ∧ b < wb.heap.size) (.slice A (lst2 p).length c) (lst2 p)) ∧ Hid ((lst2 p).length ≤ c ∧ c ≤ 9223372036854775807) ∧ Up wx w' := fun wx gx => by
    have gw := Chg.trans ((Chg.refl Nowhere wb).alloc (.cells #[.slice A0 p.fr.length c0, .slice A1 p.bk.length c1] 22)) gx
    have hs := gx.size
    have hs0 : (wb.alloc (.cells #[.slice A0 p.fr.length c0, .slice A1 p.bk.length c1] 22)).heap.size = w.heap.size + 2 := by simp [HZB.out]
    have hzb := HZB.out
    have hraw : Raw wx (fun _ => True) 1 (.slice (some ⟨wb.heap.size, 0, none⟩) 2 2) 2 [.slice A0 p.fr.length c0, .slice A1 p.bk.length c1] := by
      refine Raw.of_cells (n := 2) (k := 1) trivial (by omega) rfl (Nat.le_refl _) (by omega) fun t ht => ?_
      have hn := cell_new wb #[.slice A0 p.fr.length c0, .slice A1 p.bk.length c1] 22 t
      have hn2 := frozen_new wb #[.slice A0 p.fr.length c0, .slice A1 p.bk.length c1] 22 t
      have e : (#[.slice A0 p.fr.length c0, .slice A1 p.bk.length c1] : Array Value)[t]? = some ([.slice A0 p.fr.length c0, .slice A1 p.bk.length c1] : List Value)[t] := by
        have : t = 0 ∨ t = 1 := by simp at ht; omega
        rcases this with rfl | rfl <;> rfl
      rw [e] at hn
      exact ⟨Chg.cell gx hn id, (Chg.frozen gx hn id).trans hn2⟩
    refine (concatLL_any wx (fun _ => True) Nowhere H (fun b => L b ∧ b < wb.heap.size) (fun b h => by have := h.2; omega) _ _ [p.fr, p.bk] rfl hraw (fun i u y hu hy => ?_) ?_).mono ?_
    · match i, hu, hy with
      | 0, hu, hy => obtain rfl := Option.some.inj hu; obtain rfl := Option.some.inj hy; exact (show IntSSV wb Nowhere H (fun b => L b ∧ b < wb.heap.size) _ _ from H0.out.mono (M' := M) (H' := H) (L' := (fun b => L b ∧ b < wb.heap.size)) (fun b _ h => h) (fun b _ h => h) (fun b k h => ⟨h, k⟩)).up gw
      | 1, hu, hy => obtain rfl := Option.some.inj hu; obtain rfl := Option.some.inj hy; exact (show IntSSV wb Nowhere H (fun b => L b ∧ b < wb.heap.size) _ _ from H1.out.mono (M' := M) (H' := H) (L' := (fun b => L b ∧ b < wb.heap.size)) (fun b _ h => h) (fun b _ h => h) (fun b k h => ⟨h, k⟩)).up gw
      | i + 2, hu, hy => simp at hu
    · have h1 := Hf.out
      have h2 := Hb.out
      have h3 := HWD.out
      simp [sumLL]
      omega
    · rintro e w' ⟨v, rfl, k, g⟩
      rw [lst2_eq] at k
      obtain ⟨A5, c5, rfl, h5, h6, -⟩ := k.shape
      exact ⟨A5, c5, rfl, Lib.hid k, Lib.hid ⟨h5, h6⟩, g⟩
  go_wp2_with fail
  refine (HCC _ (by repeat (first | exact Chg.refl _ _ | apply Chg.drew | apply Chg.drewN | refine Chg.alloc ?_ _))).mono ?_
  clear HCC q0 q1 q2 q3 q4 q5 q6
  rintro e w2 ⟨A5, c5, rfl, K5, hl5, g5⟩
  have U2 := Lib.hid (Chg.trans (show Up wb (wb.alloc (.cells #[.slice A0 p.fr.length c0, .slice A1 p.bk.length c1] 22)) from (Chg.refl _ _).alloc _) (show Up (wb.alloc (.cells #[.slice A0 p.fr.length c0, .slice A1 p.bk.length c1] 22)) w2 from Chg.trans (by repeat (first | exact Chg.refl _ _ | apply Chg.drew | apply Chg.drewN | refine Chg.alloc ?_ _)) g5))
  have hz2 := U2.out.size
  clear g5
  go_wp2
  go_loopw [4, 55] (fun _ n wr => ∃ j : Nat, j ≤ (lst2 p).length ∧ n = .int .i64 j ∧ Hid (Up w2 wr) ∧ Hid (∀ i (hi : i < (lst2 p).length), i < j → (lst2 p)[i].length ≤ 4)) (fun _ n _ => (lst2 p).length - (intOf n).toNat)
  case atStart => exact ⟨0, by omega, rfl, Chg.refl _ _, Lib.hid fun i hi h => absurd h (Nat.not_lt_zero _)⟩
  case round =>
    obtain ⟨j, hj, rfl, hu, hfw⟩ := hrel
    have hb5 := hl5.out
    by_cases hlt : j < (lst2 p).length
    · obtain ⟨b3, o3, c3', vs3, he3, -, -, -, hE3, hc3⟩ := (K5.out.up hu.out).at_ hlt
      obtain ⟨rfl, rfl⟩ : A5 = some ⟨b3, o3, none⟩ ∧ c5 = c3' := by simpa using he3
      obtain ⟨A7, k7, rfl, hv7, hl7, hk7⟩ := hE3.val
      have e0 := (hc3 0 _ rfl).1
      simp only [Nat.mul_one, Nat.add_zero] at e0
      clear hc3 hv7 he3 hE3
      by_cases h4 : (lst2 p)[j].length ≤ 4
      rotate_left
      · have HB := Lib.hid (few2_no hlt h4)
        have hd : decide (((lst2 p)[j].length : Int) > 4) = true := decide_eq_true (by omega)
        clear h4
        go_wp2
        go_ret
        exact ⟨ret_bool HB.out.symm, Chg.trans UB.out (Chg.trans U2.out hu.out)⟩
      have HN := Lib.hid (show ∀ i (hi : i < (lst2 p).length), i < j + 1 → (lst2 p)[i].length ≤ 4 from fun i hi h => if e : i = j then (by subst e; exact h4) else hfw.out i hi (by omega))
      have hd : decide (((lst2 p)[j].length : Int) > 4) = false := decide_eq_false (by omega)
      clear h4
      go_wp2
      go_roundw
      case rel => exact ⟨j + 1, by omega, by go_num, hu, HN⟩
      case measure => first | (simp [intOf]; done) | (simp [intOf]; omega)
    · obtain rfl : j = (lst2 p).length := by omega
      have HFW := Lib.hid (few2_all (fun i hi => hfw.out i hi hi))
      have U3 := Lib.hid (Chg.trans U2.out hu.out)
      clear hu U2
      clear hfw hlt hj hb5 K5 hl5
      have q4 := Chg.cell U3.out Q4.out id
      go_wp2
      clear q4
      go_loopw [6, 66] (fun _ n wx => ∃ j : Nat, j ≤ p.cs.length ∧ n = .int .i64 j ∧ Hid (Up wr wx) ∧ Hid (AllTo (fun i => carOkB (p.cs.getD i ⟨false, 0⟩) p.wd) j)) (fun _ n _ => p.cs.length - (intOf n).toNat)
      case atStart => exact ⟨0, by omega, rfl, Chg.refl _ _, AllTo.start _⟩
      case round =>
        obtain ⟨j, hj, rfl, hu, hall⟩ := hrel
        have U4 := Lib.hid (Chg.trans U3.out hu.out)
        have q0 := Chg.cell U4.out Q0.out id
        by_cases hlt : j < p.cs.length
        · obtain ⟨b3, o3, c3', he3, -, -, hc3⟩ := (show Cars _ L _ _ from H2.out.up U4.out).at_ hlt
          obtain ⟨rfl, rfl⟩ : A2 = some ⟨b3, o3, none⟩ ∧ c2 = c3' := by simpa using he3
          have f0 := (hc3 0 _ rfl).1
          have f1 := (hc3 1 _ rfl).1
          rw [Nat.add_zero] at f0
          have hwd := HWD.out
          have GD := Lib.hid (getD_eq (d := (⟨false, 0⟩ : CarM)) hlt)
          clear hc3 he3
          cases hp : inB p.cs[j].pos (-3) (p.wd + 3) with
          | false =>
            have HB := Lib.hid (okMac_cs (p := p) (all_no hlt (by rw [GD.out]; exact carOk_pos hp)))
            have HP := Lib.hid hp
            have q0' := Chg.cell ((Chg.refl Nowhere wr).alloc (.cells #[.bool p.cs[j].isin, .int .i64 p.cs[j].pos] 161)) q0 id
            clear hp
            go_wp2_with fail
            refine (callS (within_any _ _ _ _) HP.out).mono ?_
            rintro e w' ⟨rfl, rfl⟩
            go_wp2
            go_ret
            exact ⟨ret_bool HB.out.symm, Chg.trans UB.out (Chg.trans U4.out (by repeat (first | exact Chg.refl _ _ | apply Chg.drew | apply Chg.drewN | refine Chg.alloc ?_ _)))⟩
          | true =>
          have HP := Lib.hid hp
          clear hp
          cases hb : p.cs[j].isin with
          | true =>
            have HN := Lib.hid (show (fun i => carOkB (p.cs.getD i ⟨false, 0⟩) p.wd) j = true by show carOkB _ _ = true; rw [GD.out]; exact carOk_in HP.out hb)
            rw [hb] at f0
            have q0' := Chg.cell ((Chg.refl Nowhere wr).alloc (.cells #[.bool true, .int .i64 p.cs[j].pos] 161)) q0 id
            clear hb
            go_wp2_with fail
            refine (callS (within_any _ _ _ _) HP.out).mono ?_
            rintro e w' ⟨rfl, rfl⟩
            go_wp2
            go_roundw
            case rel => exact ⟨j + 1, by omega, by go_num, Lib.hid (Chg.trans hu.out (by repeat (first | exact Chg.refl _ _ | apply Chg.drew | apply Chg.drewN | refine Chg.alloc ?_ _))), Lib.hid (hall.out.next HN.out)⟩
            case measure => first | (simp [intOf]; done) | (simp [intOf]; omega)
          | false =>
          rw [hb] at f0
          have q0' := Chg.cell ((Chg.refl Nowhere wr).alloc (.cells #[.bool false, .int .i64 p.cs[j].pos] 161)) q0 id
          by_cases hz : p.cs[j].pos = 0
          · have HN := Lib.hid (show (fun i => carOkB (p.cs.getD i ⟨false, 0⟩) p.wd) j = true by show carOkB _ _ = true; rw [GD.out]; exact carOk_zero HP.out hz)
            have ez : (p.cs[j].pos != 0) = false := by simp [hz]
            clear hz hb
            go_wp2_with fail
            refine (callS (within_any _ _ _ _) HP.out).mono ?_
            rintro e w' ⟨rfl, rfl⟩
            go_wp2
            go_roundw
            case rel => exact ⟨j + 1, by omega, by go_num, Lib.hid (Chg.trans hu.out (by repeat (first | exact Chg.refl _ _ | apply Chg.drew | apply Chg.drewN | refine Chg.alloc ?_ _))), Lib.hid (hall.out.next HN.out)⟩
            case measure => first | (simp [intOf]; done) | (simp [intOf]; omega)
          · have HB := Lib.hid (okMac_cs (p := p) (all_no hlt (by rw [GD.out]; exact carOk_out hb hz)))
            have ez : (p.cs[j].pos != 0) = true := by rw [bne_iff_ne]; exact hz
            clear hz hb
            go_wp2_with fail
            refine (callS (within_any _ _ _ _) HP.out).mono ?_
            rintro e w' ⟨rfl, rfl⟩
            go_wp2
            go_ret
            exact ⟨ret_bool HB.out.symm, Chg.trans UB.out (Chg.trans U4.out (by repeat (first | exact Chg.refl _ _ | apply Chg.drew | apply Chg.drewN | refine Chg.alloc ?_ _)))⟩
        · obtain rfl : j = p.cs.length := by omega
          have HCS := Lib.hid (show carsB p = true from AllTo.all hall.out)
          have q5 := Chg.cell U4.out Q5.out id
          clear hall hlt hj
          go_wp2
          clear q0 q5
          go_loopw [7, 8, 91] (fun _ _ n wy => ∃ j : Nat, j ≤ p.ls.length ∧ n = .int .i64 j ∧ Hid (Up wr wy) ∧ Hid (AllTo (fun i => infoB (p.ls.getD i ⟨0, 0, 0, 0, 0, []⟩) p.wd i) j)) (fun _ _ n _ => p.ls.length - (intOf n).toNat)
          case atStart => exact ⟨0, by omega, rfl, Chg.refl _ _, AllTo.start _⟩
          case round =>
            obtain ⟨j, hj, rfl, hu2, hall⟩ := hrel
            have U5 := Lib.hid (Chg.trans U4.out hu2.out)
            have q0 := Chg.cell U5.out Q0.out id
            have Hq0 := Lib.hid q0
            by_cases hlt : j < p.ls.length
            · obtain ⟨b3, o3, c3', vs3, he3, -, -, -, hE3, hc3⟩ := (H3.out.up U5.out).at_ hlt
              obtain ⟨rfl, rfl⟩ : A3 = some ⟨b3, o3, none⟩ ∧ c3 = c3' := by simpa using he3
              obtain ⟨A7, k7, rfl, hv7, ⟨hl7, hk7⟩, -⟩ := hE3
              have f0 := (hc3 0 _ rfl).1
              have f1 := (hc3 1 _ rfl).1
              have f2 := (hc3 2 _ rfl).1
              have f3 := (hc3 3 _ rfl).1
              have f4 := (hc3 4 _ rfl).1
              have f5 := (hc3 5 _ rfl).1
              rw [Nat.add_zero] at f0
              have HV := Lib.hid hv7
              have hli := Hl.out
              have GD := Lib.hid (getD_eq (d := (⟨0, 0, 0, 0, 0, []⟩ : InfM)) hlt)
              clear hc3 he3 hv7
              have UI := Lib.hid ((Chg.refl Nowhere wr).alloc (.cells #[.int .i64 p.ls[j].kd, .int .i64 p.ls[j].car, .int .i64 p.ls[j].bed, .int .i64 p.ls[j].at_, .int .i64 p.ls[j].dir, .slice A7 p.ls[j].ps.length k7] 164))
              have HIN : ∀ bb, infoB p.ls[j] p.wd j = bb → Calls Try.prog 114 #[.pointer (some ⟨w.heap.size, 0, none⟩), .int .i64 j, .agg #[.int .i64 p.ls[j].kd, .int .i64 p.ls[j].car, .int .i64 p.ls[j].bed, .int .i64 p.ls[j].at_, .int .i64 p.ls[j].dir, .slice A7 p.ls[j].ps.length k7]] (wr.alloc (.cells #[.int .i64 p.ls[j].kd, .int .i64 p.ls[j].car, .int .i64 p.ls[j].bed, .int .i64 p.ls[j].at_, .int .i64 p.ls[j].dir, .slice A7 p.ls[j].ps.length k7] 164)) fun e w' => e = .returned (.bool bb) ∧ Up (wr.alloc (.cells #[.int .i64 p.ls[j].kd, .int .i64 p.ls[j].car, .int .i64 p.ls[j].bed, .int .i64 p.ls[j].at_, .int .i64 p.ls[j].dir, .slice A7 p.ls[j].ps.length k7] 164)) w' := fun bb hbb => callB (isInfo_any _ L w.heap.size p.wd HWD.out (Chg.cell UI.out Hq0.out id) j (by omega) p.ls[j] A7 k7 hl7 hk7 (HV.out.up UI.out)) hbb
              cases hb : infoB p.ls[j] p.wd j with
              | false =>
                have HI := Lib.hid hb
                have HB := Lib.hid (okMac_ls (p := p) (all_no hlt (by rw [GD.out]; exact hb)))
                clear hb
                go_wp2_with fail
                refine (HIN _ HI.out).mono ?_
                rintro e w4 ⟨rfl, g4⟩
                clear HIN
                have U6 := Lib.hid (Chg.trans UI.out g4)
                clear g4 f0 f1 f2 f3 f4 f5 q0
                go_wp2
                go_ret
                exact ⟨ret_bool HB.out.symm, Chg.trans UB.out (Chg.trans U5.out (Chg.trans U6.out (by repeat (first | exact Chg.refl _ _ | apply Chg.drew | apply Chg.drewN | refine Chg.alloc ?_ _))))⟩
              | true =>
                have HI := Lib.hid hb
                have HN := Lib.hid (show (fun i => infoB (p.ls.getD i ⟨0, 0, 0, 0, 0, []⟩) p.wd i) j = true by show infoB _ _ _ = true; rw [GD.out]; exact hb)
                clear hb
                go_wp2_with fail
                refine (HIN _ HI.out).mono ?_
                rintro e w4 ⟨rfl, g4⟩
                clear HIN
                have U6 := Lib.hid (Chg.trans UI.out g4)
                clear g4 f0 f1 f2 f3 f4 f5 q0
                go_wp2
                go_roundw
                case rel => exact ⟨j + 1, by omega, by go_num, Lib.hid (Chg.trans hu2.out (Chg.trans U6.out (by repeat (first | exact Chg.refl _ _ | apply Chg.drew | apply Chg.drewN | refine Chg.alloc ?_ _)))), Lib.hid (hall.out.next HN.out)⟩
                case measure => first | (simp [intOf]; done) | (simp [intOf]; omega)
            · obtain rfl : j = p.ls.length := by omega
              have HLSB := Lib.hid (show infosB p = true from AllTo.all hall.out)
              have q6 := Chg.cell U5.out Q6.out id
              clear hall hlt hj
              go_wp2
              clear q0 Hq0 q6
              go_loopw [9, 104] (fun _ n wy => ∃ j : Nat, j ≤ p.dr.length ∧ n = .int .i64 j ∧ Hid (Up wr wy) ∧ Hid (upw p.dr j)) (fun _ n _ => p.dr.length - (intOf n).toNat)
              case atStart => exact ⟨0, by omega, rfl, Chg.refl _ _, upw.start _⟩
              case round =>
                obtain ⟨j, hj, rfl, hu3, hup⟩ := hrel
                have U7 := Lib.hid (Chg.trans U5.out hu3.out)
                have q6 := Chg.cell U7.out Q6.out id
                have Hq6 := Lib.hid q6
                by_cases hlt : j < p.dr.length
                · obtain ⟨b1, o1, rfl, -, hc⟩ := (show Ints _ L _ _ from H4.out.up U7.out).ix hlt
                  have f1 := hc j hlt
                  rw [ix_eq hlt] at f1
                  by_cases h0 : j = 0
                  · subst h0
                    have HN := Lib.hid (hup.out.next hlt (fun h => absurd h (Nat.lt_irrefl _)))
                    clear hc
                    go_wp2_with fail
                    go_quiet (fail)
                    go_wp2
                    go_roundw
                    case rel => exact ⟨0 + 1, by omega, by go_num, Lib.hid (Chg.trans hu3.out (by repeat (first | exact Chg.refl _ _ | apply Chg.drew | apply Chg.drewN | refine Chg.alloc ?_ _))), HN⟩
                    case measure => first | (simp [intOf]; done) | (simp [intOf]; omega)
                  obtain ⟨m, rfl⟩ : ∃ m, j = m + 1 := ⟨j - 1, by omega⟩
                  have hm : m < p.dr.length := by omega
                  have f2 := hc m hm
                  rw [ix_eq hm] at f2
                  clear hc h0
                  have hl4' := hl4
                  have t0 : decide ((0 : Int) < (m : Int) + 1) = true := decide_eq_true (by omega)
                  have w1 : IntKind.i64.wrap ((m : Int) + 1 - 1) = m := by rw [show (m : Int) + 1 - 1 = m by omega]; exact IntWalk.i64_in _ (by omega)
                  have i1 : (m : Int) + 1 < (p.dr.length : Int) := by omega
                  have i2 : (m : Int) < (p.dr.length : Int) := by omega
                  by_cases hx : p.dr[m + 1] ≤ p.dr[m]
                  · have HB := Lib.hid (okMac_dr (p := p) (rise_no hlt (by omega) (by simpa using hx)))
                    have t1 : decide (p.dr[m + 1] ≤ p.dr[m]) = true := decide_eq_true hx
                    clear hx
                    go_wp2_with fail
                    go_quiet (fail)
                    go_wp2
                    go_ret
                    exact ⟨ret_bool HB.out.symm, Chg.trans UB.out (Chg.trans U7.out (by repeat (first | exact Chg.refl _ _ | apply Chg.drew | apply Chg.drewN | refine Chg.alloc ?_ _)))⟩
                  · have HN := Lib.hid (hup.out.next hlt (fun _ => by simpa using Int.not_le.1 hx))
                    have t1 : decide (p.dr[m + 1] ≤ p.dr[m]) = false := decide_eq_false hx
                    clear hx
                    go_wp2_with fail
                    go_quiet (fail)
                    go_wp2
                    go_roundw
                    case rel => exact ⟨m + 1 + 1, by omega, by go_num, Lib.hid (Chg.trans hu3.out (by repeat (first | exact Chg.refl _ _ | apply Chg.drew | apply Chg.drewN | refine Chg.alloc ?_ _))), HN⟩
                    case measure => first | (simp [intOf]; done) | (simp [intOf]; omega)
                · obtain rfl : j = p.dr.length := by omega
                  have HDR := Lib.hid hup.out.all
                  have HRES := Lib.hid (okMac_rest HEAD.out HFW.out.1 HFW.out.2 HCS.out HLSB.out HDR.out)
                  clear hup hlt hj q6
                  have q2 := Chg.cell U7.out Q2.out id
                  have q3 := Chg.cell U7.out Q3.out id
                  have q5 := Chg.cell U7.out Q5.out id
                  have hwd := HWD.out
                  have hf := Hf.out
                  have hb := Hb.out
                  have HAP := Lib.hid (areApart_any wr M H L w.heap.size p A0 A1 A3 A4 c0 c1 c3 c4 q2 q3 q5 Hq6.out (H0.out.up U7.out) (H1.out.up U7.out) (show Ints wr L _ _ from H4.out.up U7.out) (by omega) (by omega) Hl.out hl4)
                  clear q2 q3 q5 hf hb hwd
                  go_wp2_with fail
                  refine HAP.out.mono ?_
                  rintro e w4 ⟨rfl, g4⟩
                  have U8 := Lib.hid g4
                  clear g4 HAP
                  go_wp2
                  go_ret
                  exact ⟨ret_bool HRES.out.symm, Chg.trans UB.out (Chg.trans U7.out U8.out)⟩
end Go.Proofs.Ytchfjglofmphfaa
