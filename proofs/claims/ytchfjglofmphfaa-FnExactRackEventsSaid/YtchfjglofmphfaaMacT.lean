/- Machines: the reference's l07Ok. No condition. -/
import Derived.Test.YtchfjglofmphfaaMacS
import Derived.Test.YtchfjglofmphfaaRB11
import Derived.Test.YtchfjglofmphfaaMacV
import Derived.Test.YtchfjglofmphfaaWrdS
import Derived.Deep.RegionLaw
set_option linter.unusedSimpArgs false
set_option linter.unusedVariables false
set_option maxRecDepth 100000
set_option maxHeartbeats 4000000
namespace Go.Proofs.Ytchfjglofmphfaa
open Go.ChangeShapes Go.WideShapes Go.ChangeAt Go.RowKit
theorem flat_le {xss : List (List Int)} (h : ∀ i (hi : i < xss.length), xss[i].length ≤ 4) : xss.flatten.length ≤ 4 * xss.length := by
  induction xss with
  | nil => simp
  | cons x r ih =>
    have h1 := h 0 (by simp)
    have h2 := ih fun i hi => by
      have := h (i + 1) (by simpa using hi)
      simpa only [List.getElem_cons_succ] using this
    simp at h1 ⊢
    simp at h2
    omega
theorem riseIn_len {xs : List Int} {hi : Int} (h : riseIn xs 0 hi = true) : xs.length = 0 ∨ (xs.length : Int) ≤ hi + 1 := by
  unfold riseIn riseB at h
  simp only [Bool.and_eq_true, decide_eq_true_eq] at h
  obtain ⟨h1, h2⟩ := h
  rw [List.pairwise_iff_getElem] at h1
  have key : ∀ i (hi : i < xs.length), (i : Int) ≤ xs[i] := by
    intro i
    induction i with
    | zero => intro hi; exact (h2 _ (List.getElem_mem hi)).1
    | succ i ih =>
      intro hi
      have := ih (by omega)
      have := h1 i (i + 1) (by omega) hi (by omega)
      omega
  by_cases c : xs.length = 0
  · exact .inl c
  · have h3 := key (xs.length - 1) (by omega)
    have h4 := (h2 _ (List.getElem_mem (show xs.length - 1 < xs.length by omega))).2
    exact .inr (by omega)
theorem okMac_rise {p : MacM} (h : riseIn p.dr 0 (p.ls.length - 1) = false) : okMac p = false := by
  cases hb : riseB p.dr with
  | false => exact okMac_dr hb
  | true =>
    refine okMac_ap (decide_eq_false fun c => ?_)
    unfold riseIn at h
    rw [hb, Bool.true_and] at h
    exact of_decide_eq_false h fun x hx => by
      have := c.2 x (by unfold lyingM; exact List.mem_append.2 (.inr hx))
      omega
theorem l07Lists_two (w : World) (M H L : Nat → Prop) (v : Value) (xss : List (List Int)) (hl : xss.length ≤ 100000) (h : IntSSV w M H L v xss) :
    Calls Try.prog 105 #[v] w fun e w' => ∃ u, e = .returned (.tuple #[u, .bool (fewB xss)]) ∧ (fewB xss = true → OwnI w' w.heap.size u xss.flatten) ∧ Up w w' := by
  refine (l07Lists_any w M H L v xss hl h).mono ?_
  rintro e w' ⟨h1, h2, g⟩
  by_cases c : ∃ i, ∃ hi : i < xss.length, 4 < xss[i].length
  · obtain ⟨i, hi, hx⟩ := c
    exact ⟨_, (by rw [few_no hi (by omega)]; exact h2 ⟨i, hi, hx⟩), fun k => (by rw [few_no hi (by omega)] at k; cases k), g⟩
  · have hf := fun i hi => Nat.le_of_not_lt fun h => c ⟨i, hi, h⟩
    obtain ⟨u, he, hu⟩ := h1 hf
    exact ⟨u, by rw [few_all hf]; exact he, fun _ => hu, g⟩
theorem few_of {xss : List (List Int)} (h : fewB xss = true) : ∀ i (hi : i < xss.length), xss[i].length ≤ 4 := fun i hi => by
  unfold fewB allB at h
  rw [List.all_eq_true] at h
  have := h i (List.mem_range.2 hi)
  rw [getD_eq hi] at this
  exact of_decide_eq_true this
theorem few_at {xss : List (List Int)} (h : ¬ ∃ i, ∃ hi : i < xss.length, 4 < xss[i].length) : ∀ i (hi : i < xss.length), xss[i].length ≤ 4 := fun i hi => by
  by_cases c : xss[i].length ≤ 4
  · exact c
  · exact absurd ⟨i, hi, by omega⟩ h
theorem l07Ok_any (w : World) (M H L : Nat → Prop) (bm : Nat) (p : MacM) (A0 A1 A2 A3 A4 : Option Addr) (c0 c1 c2 c3 c4 : Nat)
    (q0 : w.cell? ⟨bm, 0, none⟩ = some (.int .i64 p.wd)) (q1 : w.cell? ⟨bm, 1, none⟩ = some (.int .i64 p.rk)) (q2 : w.cell? ⟨bm, 2, none⟩ = some (.slice A0 p.fr.length c0)) (q3 : w.cell? ⟨bm, 3, none⟩ = some (.slice A1 p.bk.length c1)) (q4 : w.cell? ⟨bm, 4, none⟩ = some (.slice A2 p.cs.length c2)) (q5 : w.cell? ⟨bm, 5, none⟩ = some (.slice A3 p.ls.length c3)) (q6 : w.cell? ⟨bm, 6, none⟩ = some (.slice A4 p.dr.length c4))
    (h0 : IntSSV w M H L (.slice A0 p.fr.length c0) p.fr) (h1 : IntSSV w M H L (.slice A1 p.bk.length c1) p.bk) (h2 : CarsL w M H L (.slice A2 p.cs.length c2) p.cs) (h3 : InfoSV w M H L (.slice A3 p.ls.length c3) p.ls) (h4 : IntsL w M H L (.slice A4 p.dr.length c4) p.dr)
    (hl4 : p.dr.length ≤ c4 ∧ c4 ≤ 9223372036854775807) :
    Calls Try.prog 46 #[.pointer (some ⟨bm, 0, none⟩)] w fun e w' => e = .returned (.bool (okMac p)) ∧ Up w w' := by
  have H0 := Lib.hid h0
  have H1 := Lib.hid h1
  have H2 := Lib.hid h2
  have H3 := Lib.hid h3
  have H4 := Lib.hid h4
  have Q0 := Lib.hid q0
  have Q1 := Lib.hid q1
  have Q2 := Lib.hid q2
  have Q3 := Lib.hid q3
  have Q4 := Lib.hid q4
  have Q5 := Lib.hid q5
  have Q6 := Lib.hid q6
  have hbm := World.block_lt_of_cell? w _ q0
  clear h0 h1 h2 h3 h4 q0 q1 q2 q3 q4 q5 q6
  cases hw : inB p.wd 1 24 with
  | false =>
    have HB := Lib.hid (okMac_head (headB_wd hw))
    have HW := Lib.hid hw
    clear hw
    go_enter Try.func46, Try.ntmps46
    go_wp2
    have g0 := up_cell Q0.out
    have g1 := up_cell Q1.out
    have g2 := up_cell Q2.out
    have g3 := up_cell Q3.out
    have g4 := up_cell Q4.out
    have g5 := up_cell Q5.out
    refine wp_region_up (by kernel_rfl) (by kernel_rfl) ?_
    repeat (go_big_quiet_step ((first | (go_at_call 47; with_reducible exact calls_up_same (callS (l00In_any p.wd 1 24 _) HW.out)) | (go_at_call 47; with_reducible exact calls_up_same (callS (l00In_any p.rk (-3) 3 _) HR.out)))))
    refine wpQuiet_nil ?_
    rintro w1 ⟨u0, hu0⟩
    have gu := hu0 ▸ u0.up
    clear hu0 u0 g0 g1 g2 g3 g4 g5
    have U1 := Lib.hid (show Up w w1 from Chg.trans (by repeat (first | exact Chg.refl _ _ | apply Chg.drew | apply Chg.drewN | refine Chg.alloc ?_ _)) gu)
    clear gu
    go_wp2
    go_ret
    exact ⟨ret_bool HB.out.symm, Chg.trans U1.out (by repeat (first | exact Chg.refl _ _ | apply Chg.drew | apply Chg.drewN | refine Chg.alloc ?_ _))⟩
  | true =>
  have HW := Lib.hid hw
  have HWD := Lib.hid (of_decide_eq_true hw)
  clear hw
  cases hr : inB p.rk (-3) 3 with
  | false =>
    have HB := Lib.hid (okMac_head (headB_rk hr))
    have HR := Lib.hid hr
    clear hr
    go_enter Try.func46, Try.ntmps46
    go_wp2
    have g0 := up_cell Q0.out
    have g1 := up_cell Q1.out
    have g2 := up_cell Q2.out
    have g3 := up_cell Q3.out
    have g4 := up_cell Q4.out
    have g5 := up_cell Q5.out
    refine wp_region_up (by kernel_rfl) (by kernel_rfl) ?_
    repeat (go_big_quiet_step ((first | (go_at_call 47; with_reducible exact calls_up_same (callS (l00In_any p.wd 1 24 _) HW.out)) | (go_at_call 47; with_reducible exact calls_up_same (callS (l00In_any p.rk (-3) 3 _) HR.out)))))
    refine wpQuiet_nil ?_
    rintro w1 ⟨u0, hu0⟩
    have gu := hu0 ▸ u0.up
    clear hu0 u0 g0 g1 g2 g3 g4 g5
    have U1 := Lib.hid (show Up w w1 from Chg.trans (by repeat (first | exact Chg.refl _ _ | apply Chg.drew | apply Chg.drewN | refine Chg.alloc ?_ _)) gu)
    clear gu
    go_wp2
    go_ret
    exact ⟨ret_bool HB.out.symm, Chg.trans U1.out (by repeat (first | exact Chg.refl _ _ | apply Chg.drew | apply Chg.drewN | refine Chg.alloc ?_ _))⟩
  | true =>
  have HR := Lib.hid hr
  clear hr
  by_cases hf : (p.fr.length : Int) = p.wd
  rotate_left
  · have HB := Lib.hid (okMac_head (headB_fr hf))
    have ef : ((p.fr.length : Int) != p.wd) = true := by rw [bne_iff_ne]; omega
    clear hf
    go_enter Try.func46, Try.ntmps46
    go_wp2
    have g0 := up_cell Q0.out
    have g1 := up_cell Q1.out
    have g2 := up_cell Q2.out
    have g3 := up_cell Q3.out
    have g4 := up_cell Q4.out
    have g5 := up_cell Q5.out
    refine wp_region_up (by kernel_rfl) (by kernel_rfl) ?_
    repeat (go_big_quiet_step ((first | (go_at_call 47; with_reducible exact calls_up_same (callS (l00In_any p.wd 1 24 _) HW.out)) | (go_at_call 47; with_reducible exact calls_up_same (callS (l00In_any p.rk (-3) 3 _) HR.out)))))
    refine wpQuiet_nil ?_
    rintro w1 ⟨u0, hu0⟩
    have gu := hu0 ▸ u0.up
    clear hu0 u0 g0 g1 g2 g3 g4 g5
    have U1 := Lib.hid (show Up w w1 from Chg.trans (by repeat (first | exact Chg.refl _ _ | apply Chg.drew | apply Chg.drewN | refine Chg.alloc ?_ _)) gu)
    clear gu
    go_wp2
    go_ret
    exact ⟨ret_bool HB.out.symm, Chg.trans U1.out (by repeat (first | exact Chg.refl _ _ | apply Chg.drew | apply Chg.drewN | refine Chg.alloc ?_ _))⟩
  have ef : ((p.fr.length : Int) != p.wd) = false := by simp; omega
  have Hf := Lib.hid hf
  clear hf
  by_cases hb : (p.bk.length : Int) = p.wd
  rotate_left
  · have HB := Lib.hid (okMac_head (headB_bk hb))
    have eb : ((p.bk.length : Int) != p.wd) = true := by rw [bne_iff_ne]; omega
    clear hb
    go_enter Try.func46, Try.ntmps46
    go_wp2
    have g0 := up_cell Q0.out
    have g1 := up_cell Q1.out
    have g2 := up_cell Q2.out
    have g3 := up_cell Q3.out
    have g4 := up_cell Q4.out
    have g5 := up_cell Q5.out
    refine wp_region_up (by kernel_rfl) (by kernel_rfl) ?_
    repeat (go_big_quiet_step ((first | (go_at_call 47; with_reducible exact calls_up_same (callS (l00In_any p.wd 1 24 _) HW.out)) | (go_at_call 47; with_reducible exact calls_up_same (callS (l00In_any p.rk (-3) 3 _) HR.out)))))
    refine wpQuiet_nil ?_
    rintro w1 ⟨u0, hu0⟩
    have gu := hu0 ▸ u0.up
    clear hu0 u0 g0 g1 g2 g3 g4 g5
    have U1 := Lib.hid (show Up w w1 from Chg.trans (by repeat (first | exact Chg.refl _ _ | apply Chg.drew | apply Chg.drewN | refine Chg.alloc ?_ _)) gu)
    clear gu
    go_wp2
    go_ret
    exact ⟨ret_bool HB.out.symm, Chg.trans U1.out (by repeat (first | exact Chg.refl _ _ | apply Chg.drew | apply Chg.drewN | refine Chg.alloc ?_ _))⟩
  have eb : ((p.bk.length : Int) != p.wd) = false := by simp; omega
  have Hb := Lib.hid hb
  clear hb
  by_cases hc : p.cs.length = 4
  rotate_left
  · have HB := Lib.hid (okMac_head (headB_cs hc))
    have ec : ((p.cs.length : Int) != 4) = true := by rw [bne_iff_ne]; omega
    clear hc
    go_enter Try.func46, Try.ntmps46
    go_wp2
    have g0 := up_cell Q0.out
    have g1 := up_cell Q1.out
    have g2 := up_cell Q2.out
    have g3 := up_cell Q3.out
    have g4 := up_cell Q4.out
    have g5 := up_cell Q5.out
    refine wp_region_up (by kernel_rfl) (by kernel_rfl) ?_
    repeat (go_big_quiet_step ((first | (go_at_call 47; with_reducible exact calls_up_same (callS (l00In_any p.wd 1 24 _) HW.out)) | (go_at_call 47; with_reducible exact calls_up_same (callS (l00In_any p.rk (-3) 3 _) HR.out)))))
    refine wpQuiet_nil ?_
    rintro w1 ⟨u0, hu0⟩
    have gu := hu0 ▸ u0.up
    clear hu0 u0 g0 g1 g2 g3 g4 g5
    have U1 := Lib.hid (show Up w w1 from Chg.trans (by repeat (first | exact Chg.refl _ _ | apply Chg.drew | apply Chg.drewN | refine Chg.alloc ?_ _)) gu)
    clear gu
    go_wp2
    go_ret
    exact ⟨ret_bool HB.out.symm, Chg.trans U1.out (by repeat (first | exact Chg.refl _ _ | apply Chg.drew | apply Chg.drewN | refine Chg.alloc ?_ _))⟩
  have ec : ((p.cs.length : Int) != 4) = false := by simp; omega
  have Hc := Lib.hid hc
  clear hc
  by_cases hl : p.ls.length ≤ 300
  rotate_left
  · have HB := Lib.hid (okMac_head (headB_ls hl))
    have el : decide ((p.ls.length : Int) > 300) = true := decide_eq_true (by omega)
    clear hl
    go_enter Try.func46, Try.ntmps46
    go_wp2
    have g0 := up_cell Q0.out
    have g1 := up_cell Q1.out
    have g2 := up_cell Q2.out
    have g3 := up_cell Q3.out
    have g4 := up_cell Q4.out
    have g5 := up_cell Q5.out
    refine wp_region_up (by kernel_rfl) (by kernel_rfl) ?_
    repeat (go_big_quiet_step ((first | (go_at_call 47; with_reducible exact calls_up_same (callS (l00In_any p.wd 1 24 _) HW.out)) | (go_at_call 47; with_reducible exact calls_up_same (callS (l00In_any p.rk (-3) 3 _) HR.out)))))
    refine wpQuiet_nil ?_
    rintro w1 ⟨u0, hu0⟩
    have gu := hu0 ▸ u0.up
    clear hu0 u0 g0 g1 g2 g3 g4 g5
    have U1 := Lib.hid (show Up w w1 from Chg.trans (by repeat (first | exact Chg.refl _ _ | apply Chg.drew | apply Chg.drewN | refine Chg.alloc ?_ _)) gu)
    clear gu
    go_wp2
    go_ret
    exact ⟨ret_bool HB.out.symm, Chg.trans U1.out (by repeat (first | exact Chg.refl _ _ | apply Chg.drew | apply Chg.drewN | refine Chg.alloc ?_ _))⟩
  have el : decide ((p.ls.length : Int) > 300) = false := decide_eq_false (by omega)
  have Hl := Lib.hid hl
  clear hl
  have HEAD := Lib.hid (headB_all HW.out HR.out Hf.out Hb.out Hc.out Hl.out)
  go_enter Try.func46, Try.ntmps46
  go_wp2
  have g0 := up_cell Q0.out
  have g1 := up_cell Q1.out
  have g2 := up_cell Q2.out
  have g3 := up_cell Q3.out
  have g4 := up_cell Q4.out
  have g5 := up_cell Q5.out
  refine wp_region_up (by kernel_rfl) (by kernel_rfl) ?_
  repeat (go_big_quiet_step ((first | (go_at_call 47; with_reducible exact calls_up_same (callS (l00In_any p.wd 1 24 _) HW.out)) | (go_at_call 47; with_reducible exact calls_up_same (callS (l00In_any p.rk (-3) 3 _) HR.out)))))
  refine wpQuiet_nil ?_
  rintro w1 ⟨u0, hu0⟩
  have gu := hu0 ▸ u0.up
  clear hu0 u0 g0 g1 g2 g3 g4 g5
  have U1 := Lib.hid (show Up w w1 from Chg.trans (by repeat (first | exact Chg.refl _ _ | apply Chg.drew | apply Chg.drewN | refine Chg.alloc ?_ _)) gu)
  clear gu
  go_wp2
  go_loopw [3] (fun n wx => ∃ j : Nat, j ≤ p.cs.length ∧ n = .int .i64 j ∧ Hid (Up w wx) ∧ Hid (AllTo (fun i => carOkB (p.cs.getD i ⟨false, 0⟩) p.wd) j)) (fun n _ => p.cs.length - (intOf n).toNat)
  case atStart => exact ⟨0, by omega, rfl, Chg.trans U1.out (by repeat (first | exact Chg.refl _ _ | apply Chg.drew | apply Chg.drewN | refine Chg.alloc ?_ _)), AllTo.start _⟩
  clear U1
  case round =>
    obtain ⟨j, hj, rfl, hu, hall⟩ := hrel
    have q0 := Chg.cell hu.out Q0.out id
    have q4 := Chg.cell hu.out Q4.out id
    have hc4 : p.cs.length ≤ 4 := by have := Hc.out; omega
    by_cases hlt : j < p.cs.length
    · obtain ⟨b3, o3, c3', he3, -, -, hc3⟩ := (show Cars _ L _ _ from H2.out.up hu.out).at_ hlt
      obtain ⟨rfl, rfl⟩ : A2 = some ⟨b3, o3, none⟩ ∧ c2 = c3' := by simpa using he3
      have f0 := (hc3 0 _ rfl).1
      have f1 := (hc3 1 _ rfl).1
      rw [Nat.add_zero] at f0
      have hwd := HWD.out
      have GD := Lib.hid (getD_eq (d := (⟨false, 0⟩ : CarM)) hlt)
      clear hc3 he3
      cases hp : inB p.cs[j].pos (-3) (p.wd + 3) with
      | false =>
        have HB := Lib.hid (okMac_cs (p := p) (all_no hlt (by rw [GD.out]; exact carOk_pos hp)))
        have HP := Lib.hid hp
        clear hp
        have b0 := (show (wr.alloc (.cells #[.bool p.cs[j].isin, .int .i64 p.cs[j].pos] 161)).cell? ⟨wr.heap.size, 0, none⟩ = some (.bool p.cs[j].isin) from cell_new _ _ _ _)
        have b1 := (show (wr.alloc (.cells #[.bool p.cs[j].isin, .int .i64 p.cs[j].pos] 161)).cell? ⟨wr.heap.size, 1, none⟩ = some (.int .i64 p.cs[j].pos) from cell_new _ _ _ _)
        have q0' := Chg.cell ((Chg.refl Nowhere wr).alloc (.cells #[.bool p.cs[j].isin, .int .i64 p.cs[j].pos] 161)) q0 id
        go_wp2
        have g0 := up_cell b0
        have g1 := up_cell b1
        have g2 := up_cell q0'
        clear b0 b1 q0'
        refine wp_region_up (by kernel_rfl) (by kernel_rfl) ?_
        repeat (go_big_quiet_step ((first | (go_at_call 47; exact calls_up_same (callS (l00In_any _ _ _ _) HP.out)))))
        refine wpQuiet_nil ?_
        rintro w1 ⟨u0, hu0⟩
        have gu := hu0 ▸ u0.up
        clear hu0 u0 g0 g1 g2
        have U1 := Lib.hid (show Up w w1 from Chg.trans hu.out (Chg.trans (by repeat (first | exact Chg.refl _ _ | apply Chg.drew | apply Chg.drewN | refine Chg.alloc ?_ _)) gu))
        clear gu
        go_wp2
        go_ret
        exact ⟨ret_bool HB.out.symm, Chg.trans U1.out (by repeat (first | exact Chg.refl _ _ | apply Chg.drew | apply Chg.drewN | refine Chg.alloc ?_ _))⟩
      | true =>
      have HP := Lib.hid hp
      clear hp
      cases hb : p.cs[j].isin with
      | true =>
        have HN := Lib.hid (show (fun i => carOkB (p.cs.getD i ⟨false, 0⟩) p.wd) j = true by show carOkB _ _ = true; rw [GD.out]; exact carOk_in HP.out hb)
        rw [hb] at f0
        clear hb
        have b0 := (show (wr.alloc (.cells #[.bool true, .int .i64 p.cs[j].pos] 161)).cell? ⟨wr.heap.size, 0, none⟩ = some (.bool true) from cell_new _ _ _ _)
        have b1 := (show (wr.alloc (.cells #[.bool true, .int .i64 p.cs[j].pos] 161)).cell? ⟨wr.heap.size, 1, none⟩ = some (.int .i64 p.cs[j].pos) from cell_new _ _ _ _)
        have q0' := Chg.cell ((Chg.refl Nowhere wr).alloc (.cells #[.bool true, .int .i64 p.cs[j].pos] 161)) q0 id
        go_wp2
        have g0 := up_cell b0
        have g1 := up_cell b1
        have g2 := up_cell q0'
        clear b0 b1 q0'
        refine wp_region_up (by kernel_rfl) (by kernel_rfl) ?_
        repeat (go_big_quiet_step ((first | (go_at_call 47; exact calls_up_same (callS (l00In_any _ _ _ _) HP.out)))))
        refine wpQuiet_nil ?_
        rintro w1 ⟨u0, hu0⟩
        have gu := hu0 ▸ u0.up
        clear hu0 u0 g0 g1 g2
        have U1 := Lib.hid (show Up w w1 from Chg.trans hu.out (Chg.trans (by repeat (first | exact Chg.refl _ _ | apply Chg.drew | apply Chg.drewN | refine Chg.alloc ?_ _)) gu))
        clear gu
        go_wp2
        go_roundw
        case rel => first | exact ⟨j + 1, by omega, by go_num, Lib.hid (Chg.trans U1.out (by repeat (first | exact Chg.refl _ _ | apply Chg.drew | apply Chg.drewN | refine Chg.alloc ?_ _))), Lib.hid (hall.out.next HN.out)⟩ | ((repeat apply Exists.intro); exact ⟨⟨j + 1, by omega, by go_num, Lib.hid (Chg.trans U1.out (by repeat (first | exact Chg.refl _ _ | apply Chg.drew | apply Chg.drewN | refine Chg.alloc ?_ _))), Lib.hid (hall.out.next HN.out)⟩, rfl⟩)
        case measure => first | (simp [intOf]; done) | (simp [intOf]; omega)
      | false =>
      rw [hb] at f0
      by_cases hz : p.cs[j].pos = 0
      · have HN := Lib.hid (show (fun i => carOkB (p.cs.getD i ⟨false, 0⟩) p.wd) j = true by show carOkB _ _ = true; rw [GD.out]; exact carOk_zero HP.out hz)
        have ez : (p.cs[j].pos != 0) = false := by simp [hz]
        clear hz hb
        have b0 := (show (wr.alloc (.cells #[.bool false, .int .i64 p.cs[j].pos] 161)).cell? ⟨wr.heap.size, 0, none⟩ = some (.bool false) from cell_new _ _ _ _)
        have b1 := (show (wr.alloc (.cells #[.bool false, .int .i64 p.cs[j].pos] 161)).cell? ⟨wr.heap.size, 1, none⟩ = some (.int .i64 p.cs[j].pos) from cell_new _ _ _ _)
        have q0' := Chg.cell ((Chg.refl Nowhere wr).alloc (.cells #[.bool false, .int .i64 p.cs[j].pos] 161)) q0 id
        go_wp2
        have g0 := up_cell b0
        have g1 := up_cell b1
        have g2 := up_cell q0'
        clear b0 b1 q0'
        refine wp_region_up (by kernel_rfl) (by kernel_rfl) ?_
        repeat (go_big_quiet_step ((first | (go_at_call 47; exact calls_up_same (callS (l00In_any _ _ _ _) HP.out)))))
        refine wpQuiet_nil ?_
        rintro w1 ⟨u0, hu0⟩
        have gu := hu0 ▸ u0.up
        clear hu0 u0 g0 g1 g2
        have U1 := Lib.hid (show Up w w1 from Chg.trans hu.out (Chg.trans (by repeat (first | exact Chg.refl _ _ | apply Chg.drew | apply Chg.drewN | refine Chg.alloc ?_ _)) gu))
        clear gu
        go_wp2
        go_roundw
        case rel => first | exact ⟨j + 1, by omega, by go_num, Lib.hid (Chg.trans U1.out (by repeat (first | exact Chg.refl _ _ | apply Chg.drew | apply Chg.drewN | refine Chg.alloc ?_ _))), Lib.hid (hall.out.next HN.out)⟩ | ((repeat apply Exists.intro); exact ⟨⟨j + 1, by omega, by go_num, Lib.hid (Chg.trans U1.out (by repeat (first | exact Chg.refl _ _ | apply Chg.drew | apply Chg.drewN | refine Chg.alloc ?_ _))), Lib.hid (hall.out.next HN.out)⟩, rfl⟩)
        case measure => first | (simp [intOf]; done) | (simp [intOf]; omega)
      · have HB := Lib.hid (okMac_cs (p := p) (all_no hlt (by rw [GD.out]; exact carOk_out hb hz)))
        have ez : (p.cs[j].pos != 0) = true := by rw [bne_iff_ne]; exact hz
        clear hz hb
        have b0 := (show (wr.alloc (.cells #[.bool false, .int .i64 p.cs[j].pos] 161)).cell? ⟨wr.heap.size, 0, none⟩ = some (.bool false) from cell_new _ _ _ _)
        have b1 := (show (wr.alloc (.cells #[.bool false, .int .i64 p.cs[j].pos] 161)).cell? ⟨wr.heap.size, 1, none⟩ = some (.int .i64 p.cs[j].pos) from cell_new _ _ _ _)
        have q0' := Chg.cell ((Chg.refl Nowhere wr).alloc (.cells #[.bool false, .int .i64 p.cs[j].pos] 161)) q0 id
        go_wp2
        have g0 := up_cell b0
        have g1 := up_cell b1
        have g2 := up_cell q0'
        clear b0 b1 q0'
        refine wp_region_up (by kernel_rfl) (by kernel_rfl) ?_
        repeat (go_big_quiet_step ((first | (go_at_call 47; exact calls_up_same (callS (l00In_any _ _ _ _) HP.out)))))
        refine wpQuiet_nil ?_
        rintro w1 ⟨u0, hu0⟩
        have gu := hu0 ▸ u0.up
        clear hu0 u0 g0 g1 g2
        have U1 := Lib.hid (show Up w w1 from Chg.trans hu.out (Chg.trans (by repeat (first | exact Chg.refl _ _ | apply Chg.drew | apply Chg.drewN | refine Chg.alloc ?_ _)) gu))
        clear gu
        go_wp2
        go_ret
        exact ⟨ret_bool HB.out.symm, Chg.trans U1.out (by repeat (first | exact Chg.refl _ _ | apply Chg.drew | apply Chg.drewN | refine Chg.alloc ?_ _))⟩
    · obtain rfl : j = p.cs.length := by omega
      have HCS := Lib.hid (show carsB p = true from AllTo.all hall.out)
      clear hall hlt hj
      go_wp2
      clear q0 q4 hc4
      go_loopw [5] (fun n wx => ∃ j : Nat, j ≤ p.ls.length ∧ n = .int .i64 j ∧ Hid (Up w wx) ∧ Hid (AllTo (fun i => infoB (p.ls.getD i ⟨0, 0, 0, 0, 0, []⟩) p.wd i) j)) (fun n _ => p.ls.length - (intOf n).toNat)
      case atStart => exact ⟨0, by omega, rfl, Chg.trans hu.out (by repeat (first | exact Chg.refl _ _ | apply Chg.drew | apply Chg.drewN | refine Chg.alloc ?_ _)), AllTo.start _⟩
      clear hu
      case round =>
        obtain ⟨j, hj, rfl, hu, hall⟩ := hrel
        have q0 := Chg.cell hu.out Q0.out id
        have q5 := Chg.cell hu.out Q5.out id
        have hli := Hl.out
        by_cases hlt : j < p.ls.length
        · obtain ⟨b3, o3, c3', vs3, he3, -, -, -, hE3, hc3⟩ := (H3.out.up hu.out).at_ hlt
          obtain ⟨rfl, rfl⟩ : A3 = some ⟨b3, o3, none⟩ ∧ c3 = c3' := by simpa using he3
          obtain ⟨A7, k7, rfl, hv7, ⟨hl7, hk7⟩, -⟩ := hE3
          have f0 := (hc3 0 _ rfl).1
          have f1 := (hc3 1 _ rfl).1
          have f2 := (hc3 2 _ rfl).1
          have f3 := (hc3 3 _ rfl).1
          have f4 := (hc3 4 _ rfl).1
          have f5 := (hc3 5 _ rfl).1
          rw [Nat.add_zero] at f0
          have HV := Lib.hid hv7
          have GD := Lib.hid (getD_eq (d := (⟨0, 0, 0, 0, 0, []⟩ : InfM)) hlt)
          clear hc3 he3 hv7
          have HIN : ∀ (bb : Bool) (_ : infoB p.ls[j] p.wd j = bb) (u : UpOf wr), Calls Try.prog 104 #[.pointer (some ⟨b3, o3 + j * 6, none⟩), .int .i64 p.wd, .int .i64 j] u.wd fun e w'' => e = .returned (.bool bb) ∧ ∃ u' : UpOf wr, w'' = u'.wd := fun bb hbb u => calls_up (callB (l07Info_any u.wd L b3 (o3 + j * 6) p.wd HWD.out j (by omega) p.ls[j] A7 k7 hl7 hk7 (HV.out.up u.up) (Chg.cell u.up f0 id) (Chg.cell u.up f1 id) (Chg.cell u.up f2 id) (Chg.cell u.up f3 id) (Chg.cell u.up f4 id) (Chg.cell u.up f5 id)) hbb)
          clear f0 f1 f2 f3 f4 f5
          cases hb : infoB p.ls[j] p.wd j with
          | false =>
            have HB := Lib.hid (okMac_ls (p := p) (all_no hlt (by rw [GD.out]; exact hb)))
            have HI := HIN false hb
            clear hb HIN
            go_wp2
            have g0 := up_cell q0
            have g5 := up_cell q5
            refine wp_region_up (by kernel_rfl) (by kernel_rfl) ?_
            repeat (go_big_quiet_step ((first | (go_at_call 104; exact HI _))))
            refine wpQuiet_nil ?_
            rintro w1 ⟨u0, hu0⟩
            have gu := hu0 ▸ u0.up
            clear hu0 u0 g0 g5 HI
            have U1 := Lib.hid (show Up w w1 from Chg.trans hu.out (Chg.trans (by repeat (first | exact Chg.refl _ _ | apply Chg.drew | apply Chg.drewN | refine Chg.alloc ?_ _)) gu))
            clear gu
            go_wp2
            go_ret
            exact ⟨ret_bool HB.out.symm, Chg.trans U1.out (by repeat (first | exact Chg.refl _ _ | apply Chg.drew | apply Chg.drewN | refine Chg.alloc ?_ _))⟩
          | true =>
            have HN := Lib.hid (show (fun i => infoB (p.ls.getD i ⟨0, 0, 0, 0, 0, []⟩) p.wd i) j = true by show infoB _ _ _ = true; rw [GD.out]; exact hb)
            have HI := HIN true hb
            clear hb HIN
            go_wp2
            have g0 := up_cell q0
            have g5 := up_cell q5
            refine wp_region_up (by kernel_rfl) (by kernel_rfl) ?_
            repeat (go_big_quiet_step ((first | (go_at_call 104; exact HI _))))
            refine wpQuiet_nil ?_
            rintro w1 ⟨u0, hu0⟩
            have gu := hu0 ▸ u0.up
            clear hu0 u0 g0 g5 HI
            have U1 := Lib.hid (show Up w w1 from Chg.trans hu.out (Chg.trans (by repeat (first | exact Chg.refl _ _ | apply Chg.drew | apply Chg.drewN | refine Chg.alloc ?_ _)) gu))
            clear gu
            go_wp2
            go_roundw
            case rel => first | exact ⟨j + 1, by omega, by go_num, Lib.hid (Chg.trans U1.out (by repeat (first | exact Chg.refl _ _ | apply Chg.drew | apply Chg.drewN | refine Chg.alloc ?_ _))), Lib.hid (hall.out.next HN.out)⟩ | ((repeat apply Exists.intro); exact ⟨⟨j + 1, by omega, by go_num, Lib.hid (Chg.trans U1.out (by repeat (first | exact Chg.refl _ _ | apply Chg.drew | apply Chg.drewN | refine Chg.alloc ?_ _))), Lib.hid (hall.out.next HN.out)⟩, rfl⟩)
            case measure => first | (simp [intOf]; done) | (simp [intOf]; omega)
        · obtain rfl : j = p.ls.length := by omega
          have HLSB := Lib.hid (show infosB p = true from AllTo.all hall.out)
          clear hall hlt hj q0
          have q2 := Chg.cell hu.out Q2.out id
          have hf := Hf.out
          have hb := Hb.out
          have hwd := HWD.out
          go_wp2_with fail
          refine (l07Lists_two _ M H L _ p.fr (by omega) (H0.out.up (Chg.trans hu.out (by repeat (first | exact Chg.refl _ _ | apply Chg.drew | apply Chg.drewN | refine Chg.alloc ?_ _))))).mono ?_
          rintro e w2 ⟨va, rfl, ha, g2⟩
          have U2 := Lib.hid (show Up w w2 from Chg.trans hu.out (Chg.trans (by repeat (first | exact Chg.refl _ _ | apply Chg.drew | apply Chg.drewN | refine Chg.alloc ?_ _)) g2))
          have hz2 := g2.size
          have HA := Lib.hid ha
          have HZ := Lib.hid hu.out.size
          clear g2 q2 q5 ha hu
          have q3 := Chg.cell U2.out Q3.out id
          go_wp2_with fail
          refine (l07Lists_two _ M H L _ p.bk (by omega) (H1.out.up (Chg.trans U2.out (by repeat (first | exact Chg.refl _ _ | apply Chg.drew | apply Chg.drewN | refine Chg.alloc ?_ _))))).mono ?_
          rintro e w3 ⟨vb, rfl, hb2, g3⟩
          have U23 := Lib.hid (show Up w2 w3 from Chg.trans (by repeat (first | exact Chg.refl _ _ | apply Chg.drew | apply Chg.drewN | refine Chg.alloc ?_ _)) g3)
          have HBB := Lib.hid hb2
          have U3 := Lib.hid (Chg.trans U2.out U23.out)
          have hz3 := g3.size
          clear g3 q3 hb2 hf hb hwd
          have HRI : ∀ (bb : Bool) (_ : riseIn p.dr 0 (p.ls.length - 1) = bb) (u : UpOf w3), Calls Try.prog 106 #[.slice A4 p.dr.length c4, .int .i64 0, .int .i64 ((p.ls.length : Int) - 1)] u.wd fun e w'' => e = .returned (.bool bb) ∧ ∃ u' : UpOf w3, w'' = u'.wd := fun bb hbb u => calls_up (callB (l00Rises_any u.wd L _ p.dr 0 _ (show Ints u.wd L _ _ from H4.out.up (Chg.trans U3.out u.up))) hbb)
          cases hfa : fewB p.fr with
          | false =>
            have HB := Lib.hid (okMac_fr (p := p) hfa)
            clear hfa HRI
            have q5 := Chg.cell U3.out Q5.out id
            have q6 := Chg.cell U3.out Q6.out id
            have hli := Hl.out
            go_wp2
            have g5 := up_cell q5
            have g6 := up_cell q6
            clear q5 q6
            refine wp_region_up (by kernel_rfl) (by kernel_rfl) ?_
            repeat (go_big_quiet_step (fail))
            refine wpQuiet_nil ?_
            rintro w4 ⟨u0, hu0⟩
            have gu := hu0 ▸ u0.up
            clear hu0 u0 g5 g6
            have U34 := Lib.hid (show Up w3 w4 from Chg.trans (by repeat (first | exact Chg.refl _ _ | apply Chg.drew | apply Chg.drewN | refine Chg.alloc ?_ _)) gu)
            have U1 := Lib.hid (Chg.trans U3.out U34.out)
            clear gu
            go_wp2
            go_ret
            exact ⟨ret_bool HB.out.symm, Chg.trans U1.out (by repeat (first | exact Chg.refl _ _ | apply Chg.drew | apply Chg.drewN | refine Chg.alloc ?_ _))⟩
          | true =>
          have HFA := Lib.hid hfa
          clear hfa
          cases hfb : fewB p.bk with
          | false =>
            have HB := Lib.hid (okMac_bk (p := p) hfb)
            clear hfb HRI
            have q5 := Chg.cell U3.out Q5.out id
            have q6 := Chg.cell U3.out Q6.out id
            have hli := Hl.out
            go_wp2
            have g5 := up_cell q5
            have g6 := up_cell q6
            clear q5 q6
            refine wp_region_up (by kernel_rfl) (by kernel_rfl) ?_
            repeat (go_big_quiet_step (fail))
            refine wpQuiet_nil ?_
            rintro w4 ⟨u0, hu0⟩
            have gu := hu0 ▸ u0.up
            clear hu0 u0 g5 g6
            have U34 := Lib.hid (show Up w3 w4 from Chg.trans (by repeat (first | exact Chg.refl _ _ | apply Chg.drew | apply Chg.drewN | refine Chg.alloc ?_ _)) gu)
            have U1 := Lib.hid (Chg.trans U3.out U34.out)
            clear gu
            go_wp2
            go_ret
            exact ⟨ret_bool HB.out.symm, Chg.trans U1.out (by repeat (first | exact Chg.refl _ _ | apply Chg.drew | apply Chg.drewN | refine Chg.alloc ?_ _))⟩
          | true =>
          have HFB := Lib.hid hfb
          clear hfb
          cases hri : riseIn p.dr 0 ((p.ls.length : Int) - 1) with
          | false =>
            have HB := Lib.hid (okMac_rise (p := p) hri)
            have HI := HRI false hri
            clear hri HRI
            have q5 := Chg.cell U3.out Q5.out id
            have q6 := Chg.cell U3.out Q6.out id
            have hli := Hl.out
            go_wp2
            have g5 := up_cell q5
            have g6 := up_cell q6
            clear q5 q6
            refine wp_region_up (by kernel_rfl) (by kernel_rfl) ?_
            repeat (go_big_quiet_step ((first | (go_at_call 106; exact HI _))))
            refine wpQuiet_nil ?_
            rintro w4 ⟨u0, hu0⟩
            have gu := hu0 ▸ u0.up
            clear hu0 u0 g5 g6 HI
            have U34 := Lib.hid (show Up w3 w4 from Chg.trans (by repeat (first | exact Chg.refl _ _ | apply Chg.drew | apply Chg.drewN | refine Chg.alloc ?_ _)) gu)
            have U1 := Lib.hid (Chg.trans U3.out U34.out)
            clear gu
            go_wp2
            go_ret
            exact ⟨ret_bool HB.out.symm, Chg.trans U1.out (by repeat (first | exact Chg.refl _ _ | apply Chg.drew | apply Chg.drewN | refine Chg.alloc ?_ _))⟩
          | true =>
          have HI := HRI true hri
          have HRR := Lib.hid hri
          clear hri HRI
          have q5 := Chg.cell U3.out Q5.out id
          have q6 := Chg.cell U3.out Q6.out id
          have hli := Hl.out
          go_wp2
          have g5 := up_cell q5
          have g6 := up_cell q6
          clear q5 q6
          refine wp_region_up (by kernel_rfl) (by kernel_rfl) ?_
          repeat (go_big_quiet_step ((first | (go_at_call 106; exact HI _))))
          refine wpQuiet_nil ?_
          rintro w4 ⟨u0, hu0⟩
          have gu := hu0 ▸ u0.up
          clear hu0 u0 g5 g6 HI
          have U34 := Lib.hid (show Up w3 w4 from Chg.trans (by repeat (first | exact Chg.refl _ _ | apply Chg.drew | apply Chg.drewN | refine Chg.alloc ?_ _)) gu)
          have U1 := Lib.hid (Chg.trans U3.out U34.out)
          clear gu
          have HAO := Lib.hid (HA.out HFA.out)
          have HBO := Lib.hid (HBB.out HFB.out)
          have HLA := Lib.hid (flat_le (few_of HFA.out))
          have HLB := Lib.hid (flat_le (few_of HFB.out))
          have HLD := Lib.hid (riseIn_len HRR.out)
          clear HA HBB
          have q6 := Chg.cell U1.out Q6.out id
          have hz4 := U34.out.size
          have hwz := HZ.out
          have HA4 := Lib.hid (HAO.out.up (Chg.trans U23.out U34.out))
          have HB4 := Lib.hid (HBO.out.ints.up U34.out)
          have HD4 := Lib.hid ((show Ints w (fun b => b < w.heap.size) _ _ from Ints.mono H4.out (fun b k _ => k)).up U1.out)
          have HL1 := Lib.hid (show p.fr.flatten.length + p.bk.flatten.length ≤ 1099511627776 by have h1 := HLA.out; have h2 := HLB.out; have h3 := Hf.out; have h4 := Hb.out; have h5 := HWD.out; omega)
          have HL2 := Lib.hid (show (p.fr.flatten ++ p.bk.flatten).length + p.dr.length ≤ 1099511627776 by rw [List.length_append]; have h1 := HLA.out; have h2 := HLB.out; have h3 := Hf.out; have h4 := Hb.out; have h5 := HWD.out; have h6 := HLD.out; have h7 := Hl.out; omega)
          clear HAO HBO
          go_wp2
          go_region_law (first | (refine step_appInts rfl (.tmp 159) (.tmp 160) rfl _ va p.fr.flatten (by simp [Act.eval, Act.put]) (HA4.out.up (by repeat (first | exact Chg.refl _ _ | apply Chg.drew | apply Chg.drewN | refine Chg.alloc ?_ _))) _ vb p.bk.flatten (by simp [Act.eval, Act.put]) (HB4.out.up (by repeat (first | exact Chg.refl _ _ | apply Chg.drew | apply Chg.drewN | refine Chg.alloc ?_ _))) HL1.out (by first | omega | (simp; omega)) ?_; intro v5 w5 h1 h2 h3 h4; have HO5 := Lib.hid h1; have U5 := Lib.hid (Chg.new U1.out (show Chg _ w4 w5 from Chg.trans (Chg.of_up (by repeat (first | exact Chg.refl _ _ | apply Chg.drew | apply Chg.drewN | refine Chg.alloc ?_ _))) h4) (fun i hi => by omega)); have q65 := Chg.cell (show Chg _ w4 w5 from Chg.trans (Chg.of_up (by repeat (first | exact Chg.refl _ _ | apply Chg.drew | apply Chg.drewN | refine Chg.alloc ?_ _))) h4) q6 (by simp only []; omega); have HD5 := Lib.hid (HD4.out.keep (show Chg _ w4 w5 from Chg.trans (Chg.of_up (by repeat (first | exact Chg.refl _ _ | apply Chg.drew | apply Chg.drewN | refine Chg.alloc ?_ _))) h4) (fun b _ h => by omega)); have hz5 : w4.heap.size ≤ w5.heap.size := (show Chg _ w4 w5 from Chg.trans (Chg.of_up (by repeat (first | exact Chg.refl _ _ | apply Chg.drew | apply Chg.drewN | refine Chg.alloc ?_ _))) h4).size; clear h1 h2 h3 h4) | (refine step_appInts rfl (.tmp 161) (.tmp 165) rfl _ _ (p.fr.flatten ++ p.bk.flatten) (by simp [Act.eval, Act.put]) HO5.out _ _ p.dr (by simp [Act.eval, Act.put]) HD5.out HL2.out (by first | omega | (simp; omega)) ?_; intro v6 w6 h1 h2 h3 h4; have HO6 := Lib.hid (show OwnI _ _ _ (lyingM p) from h1); have U6 := Lib.hid (Chg.new U5.out h4 (fun i hi => by omega)); clear h1 h2 h3 h4))
          all_goals
            clear HD5 HO5 U5 q65 HA4 HB4 HD4 hz2 hz3 hz4 hz5 hwz q6
            obtain ⟨A9, c9, rfl, h9, h10, -⟩ := HO6.out.ints.shape
            have K9 := Lib.hid HO6.out.ints
            clear HO6
            go_wp2
            go_loopw [11] (fun n wx => ∃ j : Nat, j ≤ (lyingM p).length ∧ n = .int .i64 j ∧ Hid (Up w6 wx) ∧ Hid (apartB ((lyingM p).take j) p.ls.length = true)) (fun n _ => (lyingM p).length - (intOf n).toNat)
            case atStart => exact ⟨0, by omega, rfl, (by repeat (first | exact Chg.refl _ _ | apply Chg.drew | apply Chg.drewN | refine Chg.alloc ?_ _)), apart_start _ _⟩
            case round =>
              obtain ⟨j, hj, rfl, hu, ha⟩ := hrel
              have UU := Lib.hid (Chg.trans U6.out hu.out)
              have q5 := Chg.cell UU.out Q5.out id
              have hli := Hl.out
              by_cases hlt : j < (lyingM p).length
              · obtain ⟨b1, o1, rfl, -, hc⟩ := (K9.out.up hu.out).ix hlt
                have f1 := hc j hlt
                rw [ix_eq hlt] at f1
                clear hc
                by_cases hr : 0 ≤ (lyingM p)[j] ∧ (lyingM p)[j] < p.ls.length
                rotate_left
                · have HR := Lib.hid (inB_no (n := (lyingM p)[j]) (lo := 0) (hi := (p.ls.length : Int) - 1) (by omega))
                  have HB := Lib.hid (okMac_ap (p := p) (apart_rng_at hlt hr))
                  clear hr
                  go_wp2
                  have g1 := up_cell f1
                  have g5 := up_cell q5
                  refine wp_region_up (by kernel_rfl) (by kernel_rfl) ?_
                  repeat (go_big_quiet_step ((first | (go_at_call 47; exact calls_up_same (callS (l00In_any _ _ _ _) HR.out)))))
                  refine wpQuiet_nil ?_
                  rintro w1 ⟨u0, hu0⟩
                  have gu := hu0 ▸ u0.up
                  clear hu0 u0 g1 g5
                  have U1 := Lib.hid (show Up w w1 from Chg.trans UU.out (Chg.trans (by repeat (first | exact Chg.refl _ _ | apply Chg.drew | apply Chg.drewN | refine Chg.alloc ?_ _)) gu))
                  have U61 := Lib.hid (show Up w6 w1 from Chg.trans hu.out (Chg.trans (by repeat (first | exact Chg.refl _ _ | apply Chg.drew | apply Chg.drewN | refine Chg.alloc ?_ _)) gu))
                  clear gu
                  go_wp2
                  go_ret
                  exact ⟨ret_bool HB.out.symm, Chg.trans U1.out (by repeat (first | exact Chg.refl _ _ | apply Chg.drew | apply Chg.drewN | refine Chg.alloc ?_ _))⟩
                have HR := Lib.hid (inB_yes (n := (lyingM p)[j]) (lo := 0) (hi := (p.ls.length : Int) - 1) (by omega))
                have HR2 := Lib.hid hr
                clear hr
                by_cases hm : (lyingM p)[j] ∈ (lyingM p).take j
                · have HM := Lib.hid (decide_eq_true hm)
                  have HB := Lib.hid (okMac_ap (p := p) (apart_mem_at hlt hm))
                  have HHAS : ∀ u : UpOf wr, Calls Try.prog 107 #[.slice (some ⟨b1, o1, none⟩) j c9, .int .i64 (lyingM p)[j]] u.wd fun e w'' => e = .returned (.bool true) ∧ ∃ u' : UpOf wr, w'' = u'.wd := fun u => calls_up_same (callS (has_any _ _ _ ((lyingM p).take j) _ (((K9.out.up hu.out).up u.up).took (by omega) rfl)) HM.out)
                  clear hm
                  go_wp2
                  have g1 := up_cell f1
                  have g5 := up_cell q5
                  refine wp_region_up (by kernel_rfl) (by kernel_rfl) ?_
                  repeat (go_big_quiet_step ((first | (go_at_call 47; exact calls_up_same (callS (l00In_any _ _ _ _) HR.out)) | (go_at_call 107; exact HHAS _))))
                  refine wpQuiet_nil ?_
                  rintro w1 ⟨u0, hu0⟩
                  have gu := hu0 ▸ u0.up
                  clear hu0 u0 g1 g5
                  have U1 := Lib.hid (show Up w w1 from Chg.trans UU.out (Chg.trans (by repeat (first | exact Chg.refl _ _ | apply Chg.drew | apply Chg.drewN | refine Chg.alloc ?_ _)) gu))
                  have U61 := Lib.hid (show Up w6 w1 from Chg.trans hu.out (Chg.trans (by repeat (first | exact Chg.refl _ _ | apply Chg.drew | apply Chg.drewN | refine Chg.alloc ?_ _)) gu))
                  clear gu
                  go_wp2
                  go_ret
                  exact ⟨ret_bool HB.out.symm, Chg.trans U1.out (by repeat (first | exact Chg.refl _ _ | apply Chg.drew | apply Chg.drewN | refine Chg.alloc ?_ _))⟩
                · have HM := Lib.hid (decide_eq_false hm)
                  have HN := Lib.hid (apart_next hlt ha.out HR2.out hm)
                  have HHAS : ∀ u : UpOf wr, Calls Try.prog 107 #[.slice (some ⟨b1, o1, none⟩) j c9, .int .i64 (lyingM p)[j]] u.wd fun e w'' => e = .returned (.bool false) ∧ ∃ u' : UpOf wr, w'' = u'.wd := fun u => calls_up_same (callS (has_any _ _ _ ((lyingM p).take j) _ (((K9.out.up hu.out).up u.up).took (by omega) rfl)) HM.out)
                  clear hm
                  go_wp2
                  have g1 := up_cell f1
                  have g5 := up_cell q5
                  refine wp_region_up (by kernel_rfl) (by kernel_rfl) ?_
                  repeat (go_big_quiet_step ((first | (go_at_call 47; exact calls_up_same (callS (l00In_any _ _ _ _) HR.out)) | (go_at_call 107; exact HHAS _))))
                  refine wpQuiet_nil ?_
                  rintro w1 ⟨u0, hu0⟩
                  have gu := hu0 ▸ u0.up
                  clear hu0 u0 g1 g5
                  have U1 := Lib.hid (show Up w w1 from Chg.trans UU.out (Chg.trans (by repeat (first | exact Chg.refl _ _ | apply Chg.drew | apply Chg.drewN | refine Chg.alloc ?_ _)) gu))
                  have U61 := Lib.hid (show Up w6 w1 from Chg.trans hu.out (Chg.trans (by repeat (first | exact Chg.refl _ _ | apply Chg.drew | apply Chg.drewN | refine Chg.alloc ?_ _)) gu))
                  clear gu
                  go_wp2
                  go_roundw
                  case rel => exact ⟨j + 1, by omega, by go_num, U61, HN.out⟩
                  case measure => first | (simp [intOf]; done) | (simp [intOf]; omega)
              · obtain rfl : j = (lyingM p).length := by omega
                have HA := Lib.hid (apart_all ha.out)
                have HRES := Lib.hid ((okMac_rest HEAD.out HFA.out HFB.out HCS.out HLSB.out (by have := HRR.out; unfold riseIn at this; rw [Bool.and_eq_true] at this; exact this.1)).trans HA.out)
                go_wp2
                go_ret
                exact ⟨ret_bool HRES.out.symm, Chg.trans UU.out (by repeat (first | exact Chg.refl _ _ | apply Chg.drew | apply Chg.drewN | refine Chg.alloc ?_ _))⟩
end Go.Proofs.Ytchfjglofmphfaa
