/- RowOps on both sides. No condition but room. -/
import Derived.Test.YtmimbnpcokfnlaaRowOps7
import Derived.Test.YtmimbnpcokfnlaaAsk
namespace Go.Proofs.Ytmimbnpcokfnlaa
open Go.ChangeShapes Go.WideShapes Go.ChangeAt Go.RowKit
set_option linter.unusedVariables false in
set_option maxRecDepth 100000 in
set_option maxHeartbeats 8000000 in
theorem sMoveColumns_any (w : World) (S : Nat → Prop) (v : Value) (xs : List Int) (h : Ints w S v xs) (T : Nat → Prop) (u : Value) (ys : List Int) (h2 : Ints w T u ys) :
    Calls Try.prog 179 #[v, u] w fun e w' => ∃ v', e = .returned (.tuple #[v', .int .i64 (planCode xs ys)]) ∧ Ops w' (New w.heap.size w'.heap.size) v' (colsOut xs ys) ∧ Up w w' := by
  obtain ⟨A, c, rfl, hlc, hcm, -⟩ := h.shape
  obtain ⟨A2, c2, rfl, hlc2, hcm2, -⟩ := h2.shape
  have H := Lib.hid h
  have H2 := Lib.hid h2
  clear h h2
  by_cases hz : planCode xs ys = 0
  · have HZ := Lib.hid hz
    clear hz
    go_enter Try.func179, Try.ntmps179
    go_wp2_with fail
    refine (l21Ask_any _ S T _ _ xs ys H.out H2.out).mono ?_
    rintro e w1 ⟨rfl, g1⟩
    rw [HZ.out]
    have G1 := Lib.hid g1.up
    clear g1
    go_wp2_with fail
    refine (l21Columns_any _ S T _ _ xs ys (H.out.up G1.out) (H2.out.up G1.out) HZ.out).mono ?_
    rintro e w2 ⟨v, rfl, k1, g2⟩
    have hzz := G1.out.size
    have K1 := Lib.hid k1
    have G2 := Lib.hid g2
    clear k1 g2
    go_wp2
    go_ret2
    exact ⟨_, ret_mi HZ.out.symm, K1.out.mono (fun b _ hb => ⟨Nat.le_trans hzz hb.1, hb.2⟩), Chg.trans G1.out G2.out⟩
  · have HE := Lib.hid (show colsOut xs ys = [] by unfold colsOut; rw [planOut_no rfl hz]; rfl)
    have hb : (planCode xs ys != 0) = true := by simpa using hz
    clear hz
    go_enter Try.func179, Try.ntmps179
    go_wp2_with fail
    refine (l21Ask_any _ S T _ _ xs ys H.out H2.out).mono ?_
    rintro e w1 ⟨rfl, g1⟩
    have G1 := Lib.hid g1.up
    clear g1
    go_wp2
    go_ret2
    exact ⟨_, rfl, by rw [HE.out]; exact Ops.nil _ _ _ _ (by omega), G1.out⟩
set_option linter.unusedVariables false in
set_option maxRecDepth 100000 in
set_option maxHeartbeats 8000000 in
theorem l23Crossings_own (w : World) (S : Nat → Prop) (b o : Nat) (r : RowM) (h : RowAt w S b o r) (hr : rowCodeM r.d r.c r.xs = 0) :
    Calls Try.prog 119 #[.pointer (some ⟨b, o, none⟩)] w fun e w' => ∃ v, e = .returned (.tuple #[v, .int .i64 0]) ∧ OwnO w' w.heap.size v (crossL 1 (letL 0 r.xs)) ∧ Up w w' := by
  have HR := Lib.hid h
  have HS := Lib.hid (laid_st_results hr)
  have HW := Lib.hid (show letOk 7 (letL 0 r.xs) from fun k hk => absI_bd ((laid_of hr).letters k hk))
  have hl := (laid_of hr).len
  have hll := letL_length r.xs 0
  have M0 := Lib.hid (OwnO.made w w.heap.size (Nat.le_refl _))
  clear h hr
  go_enter Try.func119, Try.ntmps119
  go_wp2_with fail
  refine (l18Letters_any _ S _ _ r (HR.out.up (by repeat (first | exact Chg.refl _ _ | apply Chg.drew | apply Chg.drewN | refine Chg.alloc ?_ _))) HS.out).mono ?_
  rintro e w1 ⟨v1, rfl, k1, g1⟩
  obtain ⟨A, c, rfl, hlc, hcm, -⟩ := k1.shape
  have hz1 := g1.size
  have H := Lib.hid k1
  have M1 := Lib.hid (M0.out.up g1)
  have G1 := Lib.hid (Chg.trans (show Up w _ from (by repeat (first | exact Chg.refl _ _ | apply Chg.drew | apply Chg.drewN | refine Chg.alloc ?_ _))) g1)
  have hz0 := G1.out.size
  clear k1 g1 M0
  have hbb : w.heap.size + 1 ≤ w1.heap.size := by simp at hz1; omega
  generalize hws : letL 0 r.xs = ws at *
  have HWS := Lib.hid hws
  clear hws
  go_wp2
  go_loopw [4, 6, 7, 8] (fun v i _ _ wr => ∃ j : Nat, j ≤ ws.length ∧ i = .int .i64 j ∧ Hid (OwnO wr w.heap.size v (crossL 1 (ws.take j))) ∧ Hid (∀ g, v.ownBlock = some g → g < w.heap.size + 1 ∨ w1.heap.size ≤ g) ∧ Hid (Up w wr) ∧ Hid (Ints wr (New (w.heap.size + 1) w1.heap.size) (.slice A ws.length c) ws) ∧ w1.heap.size ≤ wr.heap.size) (fun _ i _ _ _ => ws.length - (intOf i).toNat)
  case atStart => exact ⟨0, by omega, rfl, by simpa [Hid, crossL] using M1.out, fun g hg => .inl (by simp [Value.ownBlock] at hg; omega), G1.out, H.out.mono (fun x _ hx => ⟨by have := hx.1; simp at this; exact this, hx.2⟩), Nat.le_refl _⟩
  clear M1 H
  case round =>
    obtain ⟨j, hj, rfl, ho, hf, hg, hK, hsz1⟩ := hrel
    by_cases hlt : j < ws.length
    · obtain ⟨b1, o1, he1, hbl, hc⟩ := hK.out.ix hlt
      obtain rfl : A = some ⟨b1, o1, none⟩ := he1
      have f1 := hc j hlt
      rw [ix_eq hlt] at f1
      obtain ⟨ha0, ha1⟩ := HW.out _ (List.getElem_mem hlt)
      have HB := Lib.hid (needle_letter ⟨ha0, ha1⟩)
      have hk := absI_le ha1
      have HT := Lib.hid (crossL_take 1 hlt)
      have HLL := Lib.hid (show (crossL 1 (ws.take j)).length + (crossM (1 + 2 * (absI ws[j] - 1)) (decide (0 < ws[j]))).length ≤ 1099511627776 by rw [crossL_len, crossM_length, List.length_take]; omega)
      have HE := Lib.hid (show 2 * (absI ws[j] - 1) + 1 = 1 + 2 * (absI ws[j] - 1) by omega)
      have hsz := hg.out.size
      clear hc
      go_wp2
      have w1s : IntKind.i64.wrap (absI ws[j] - 1) = absI ws[j] - 1 := IntWalk.i64_in _ (by omega)
      go_region_held3 (fun w' => w'.cell? ⟨b1, o1 + j, none⟩ = some (.int .i64 ws[j]))
        (first | (exact f1) | (exact Chg.cell g1 (by assumption) id))
        (first | (go_at_call 138; refine (sAbs_any _ _ ⟨by omega, by omega⟩).mono ?_; rintro e w' ⟨rfl, rfl⟩) | (go_at_call 177; refine (l20Needle_any _ _ ?_).mono ?_; (exact HB.out.2); rintro e w' ⟨rfl, rfl⟩) | (go_at_call 176; refine (sCrossColumns_ok _ _ _ ?_).mono ?_; (exact HB.out.1); rintro e w2 ⟨v1, rfl, k1, g1⟩; obtain ⟨A1, c1, rfl, hl1, hc1, -⟩ := k1.shape; have HK1 := Lib.hid k1; have HO1 := Lib.hid (OwnO.up (ho.out.up (by repeat (first | exact Chg.refl _ _ | apply Chg.drew | apply Chg.drewN | refine Chg.alloc ?_ _))) g1); have HG1 := Lib.hid (Chg.trans (Chg.trans hg.out (by repeat (first | exact Chg.refl _ _ | apply Chg.drew | apply Chg.drewN | refine Chg.alloc ?_ _))) g1); have HKK := Lib.hid (Ints.up (hK.out.up (by repeat (first | exact Chg.refl _ _ | apply Chg.drew | apply Chg.drewN | refine Chg.alloc ?_ _))) g1); have hsz2 := HG1.out.size; have hsz3 : wr.heap.size ≤ w2.heap.size := g1.size))
      clear g1 f1
      have HM := Lib.hid (show crossL 1 (ws.take (j + 1)) = crossL 1 (ws.take j) ++ crossM (2 * (absI ws[j] - 1) + 1) (decide (0 < ws[j])) by rw [HT.out, HE.out])
      have HLM := Lib.hid (show (crossL 1 (ws.take j)).length + (crossM (2 * (absI ws[j] - 1) + 1) (decide (0 < ws[j]))).length ≤ 1099511627776 by have := HLL.out; rw [crossM_length] at *; exact this)
      clear ho hg hK
      go_wp2_with (first | (at_builtin; refine wp_append_ops2 rfl _ _ rfl w.heap.size _ (crossL 1 (ws.take j)) rfl HO1.out _ _ (crossM (2 * (absI ws[j] - 1) + 1) (decide (0 < ws[j]))) rfl HK1.out HLM.out ?_ ?_; (first | omega | (simp; omega)); intro v' w3 ho1 ho2 ho3 hg1; have HO := Lib.hid ho1; have HB2 := Lib.hid ho2; have HB3 := Lib.hid ho3; have HG := Lib.hid (Chg.new HG1.out hg1 (fun i hi => by omega)); have hsz4 : w2.heap.size ≤ w3.heap.size := hg1.size; clear ho1 ho2 ho3 hg1))
      go_roundw
      case rel => exact ⟨j + 1, by omega, by go_num, by rw [HM.out]; exact HO.out, fun g hgg => (HB3.out g hgg).elim (hf.out g) (fun hh => .inr (by have h9 : w2.heap.size ≤ g := hh; omega)), HG.out, HKK.out.keep HB2.out (fun x _ hx hv => by have := hf.out x hv; simp only [New] at hx; omega), by omega⟩
      case measure => simp [intOf]; omega
    · obtain rfl : j = ws.length := by omega
      have HX := Lib.hid (show ws.take ws.length = ws by rw [List.take_length])
      go_wp2
      go_ret2
      exact ⟨_, rfl, by have := ho.out; rw [HX.out] at this; rw [HWS.out]; exact this, hg.out⟩
def movesM (xs : List Int) : List OpM := colsOut (ownsL (trL 0 0 xs)) (togL (trL 0 0 xs)) ++ colsOut (onceL (togL (trL 0 0 xs)) (togL (trL 0 0 xs)) (togL (trL 0 0 xs)).length) (onceL (togL (trL 0 0 xs)) (movL (trL 0 0 xs)) (togL (trL 0 0 xs)).length)
theorem preM_eq (xs : List Int) : preM xs = crossL 1 (letL 0 xs) ++ movesM xs := by unfold preM movesM; rw [List.append_assoc]
set_option linter.unusedVariables false in
set_option maxRecDepth 100000 in
set_option maxHeartbeats 8000000 in
theorem l23Moves_any (w : World) (S : Nat → Prop) (b o : Nat) (r : RowM) (h : RowAt w S b o r) (hr : rowCodeM r.d r.c r.xs = 0) :
    Calls Try.prog 120 #[.pointer (some ⟨b, o, none⟩)] w fun e w' => ∃ v, e = .returned (.tuple #[v, .int .i64 0]) ∧ Ops w' (New w.heap.size w'.heap.size) v (movesM r.xs) ∧ Up w w' := by
  have HR := Lib.hid h
  have HS := Lib.hid (laid_st_results hr)
  have HTR := Lib.hid (laid_of hr).tr
  have hl := (laid_of hr).len
  obtain ⟨A, c, f0, f1, f2, h4, h5, h6⟩ := h.open_
  have U0 := Lib.hid (Chg.refl Nowhere w)
  clear h hr h4 f0 f1 f2
  obtain ⟨ts, hts⟩ : ∃ ts, trL 0 0 r.xs = ts := ⟨_, rfl⟩
  have HTS := Lib.hid hts
  rw [hts] at HTR
  have HC1 := Lib.hid (plan1_ok HTR.out)
  have HC2 := Lib.hid (plan2_ok HTR.out)
  have htl : ts.length ≤ 8 := HTR.out.len
  clear hts
  go_enter Try.func120, Try.ntmps120
  go_wp2_with fail
  refine (l20Targets_any _ S _ _ r (HR.out.up (by repeat (first | exact Chg.refl _ _ | apply Chg.drew | apply Chg.drewN | refine Chg.alloc ?_ _))) HS.out).mono ?_
  rw [HTS.out]
  rintro e w1 ⟨v1, v2, v3, rfl, k1, g1⟩
  have K1 := Lib.hid k1
  have G1 := Lib.hid g1
  have hz1 := G1.out.size
  clear k1 g1
  have U_1 := Lib.hid (Chg.trans U0.out (Chg.trans (by repeat (first | exact Chg.refl _ _ | apply Chg.drew | apply Chg.drewN | refine Chg.alloc ?_ _)) G1.out))
  clear U0
  have R_2 := Lib.hid (HR.out.up (Chg.trans (by repeat (first | exact Chg.refl _ _ | apply Chg.drew | apply Chg.drewN | refine Chg.alloc ?_ _)) G1.out))
  clear HR
  clear G1
  clear R_2
  have J1_3 := Lib.hid (show Ints w1 (New w.heap.size w1.heap.size) v1 (ownsL ts) from K1.out.o1.ints)
  obtain ⟨A1, c1, rfl, hl1, hc1, -⟩ := J1_3.out.shape
  have J2_4 := Lib.hid (show Ints w1 (New w.heap.size w1.heap.size) v2 (togL ts) from K1.out.o2.ints)
  obtain ⟨A2, c2, rfl, hl2, hc2, -⟩ := J2_4.out.shape
  have J3_5 := Lib.hid (show Ints w1 (New w.heap.size w1.heap.size) v3 (movL ts) from K1.out.o3.ints)
  obtain ⟨A3, c3, rfl, hl3, hc3, -⟩ := J3_5.out.shape
  clear K1
  go_wp2_with fail
  refine (sMoveColumns_any _ _ _ (ownsL ts) (J1_3.out.up (by repeat (first | exact Chg.refl _ _ | apply Chg.drew | apply Chg.drewN | refine Chg.alloc ?_ _))) _ _ (togL ts) (J2_4.out.up (by repeat (first | exact Chg.refl _ _ | apply Chg.drew | apply Chg.drewN | refine Chg.alloc ?_ _)))).mono ?_
  rintro e w6 ⟨v6, rfl, k1, g1⟩
  obtain ⟨A6, c6, rfl, hl6, hc6, -⟩ := k1.shape
  have K1 := Lib.hid k1
  clear k1
  have G1 := Lib.hid g1
  have hz6 := G1.out.size
  clear g1
  have U_7 := Lib.hid (Chg.trans U_1.out (Chg.trans (by repeat (first | exact Chg.refl _ _ | apply Chg.drew | apply Chg.drewN | refine Chg.alloc ?_ _)) G1.out))
  clear U_1
  have J1_8 := Lib.hid (J1_3.out.up (Chg.trans (by repeat (first | exact Chg.refl _ _ | apply Chg.drew | apply Chg.drewN | refine Chg.alloc ?_ _)) G1.out))
  clear J1_3
  have J2_9 := Lib.hid (J2_4.out.up (Chg.trans (by repeat (first | exact Chg.refl _ _ | apply Chg.drew | apply Chg.drewN | refine Chg.alloc ?_ _)) G1.out))
  clear J2_4
  have J3_10 := Lib.hid (J3_5.out.up (Chg.trans (by repeat (first | exact Chg.refl _ _ | apply Chg.drew | apply Chg.drewN | refine Chg.alloc ?_ _)) G1.out))
  clear J3_5
  clear G1
  have K_11 := Lib.hid (K1.out)
  clear K1
  rw [HC1.out]
  obtain ⟨xs, hxs⟩ : ∃ xs, togL ts = xs := ⟨_, rfl⟩
  obtain ⟨ys, hys⟩ : ∃ ys, movL ts = ys := ⟨_, rfl⟩
  have hlx : xs.length = ts.length := by rw [← hxs]; simp [togL]
  have hly : ys.length = xs.length := by rw [← hys, hlx]; simp [movL]
  have HXS := Lib.hid hxs
  have HYS := Lib.hid hys
  rw [hxs] at J2_9
  rw [hys] at J3_10
  have hl2' := hl2
  have hl3' := hl3
  clear hl2 hl3
  rw [hxs] at hl2'
  rw [hys] at hl3'
  simp only [hxs, hys]
  clear hxs hys
  have hxi : ∀ i, i < xs.length → I64 (ix xs i) := fun i hi => by obtain ⟨_, _, _, _, _, hq, _⟩ := J2_9.out; rw [ix_eq hi]; exact hq _ (List.getElem_mem hi)
  have hyi : ∀ i, i < xs.length → I64 (ix ys i) := fun i hi => by obtain ⟨_, _, _, _, _, hq, _⟩ := J3_10.out; rw [ix_eq (by omega)]; exact hq _ (List.getElem_mem (by omega))
  have HXI := Lib.hid hxi
  have HYI := Lib.hid hyi
  have hyl : xs.length ≤ ys.length ∧ ys.length ≤ xs.length := by omega
  have hxl : xs.length ≤ 8 := by omega
  have HLX := Lib.hid hlx
  clear hxi hyi hlx hly
  have M1 := Lib.hid ((OwnI.made w6 w6.heap.size (Nat.le_refl _)).alloc (.cells #[] 2))
  have M2 := Lib.hid (OwnI.made (w6.alloc (.cells #[] 2)) w6.heap.size (by simp))
  go_wp2
  go_loopw [9, 10, 11] (fun v1 v2 i wr => ∃ j : Nat, j ≤ xs.length ∧ i = .int .i64 j ∧ Hid (T3 wr w6.heap.size 0 0 v1 v2 (.slice none 0 0) (onceL xs xs j) (onceL xs ys j) [] (.slice none 0 0) (.slice none 0 0) [] []) ∧ Hid (Up w6 wr)) (fun _ _ i _ => xs.length - (intOf i).toNat)
  case atStart => exact ⟨0, by omega, rfl, ⟨by simpa [onceL, keepTo] using M1.out, by simpa [onceL, keepTo] using M2.out, OwnI.nil _ _, fun g h => by simp [Value.ownBlock] at *; omega, fun g h => by simp [Value.ownBlock] at *, fun g h => by simp [Value.ownBlock] at *, fun g h => .inr (by omega), fun g h => .inr (by omega), fun g h => by simp [Value.ownBlock] at h, IntSS.nil _ _ _ _ (by omega), IntSS.nil _ _ _ _ (by omega), Nat.zero_le _⟩, ((Chg.refl _ _).alloc _).alloc _⟩
  clear M1 M2
  case round =>
    obtain ⟨j, hj, rfl, ho, hg⟩ := hrel
    by_cases hlt : j < xs.length
    · obtain ⟨b1, o1, rfl, hb1, hc⟩ := J2_9.out.ix hlt
      obtain ⟨b2, o2, rfl, hb2, hd⟩ := J3_10.out.ix (i := j) (by omega)
      have f1 := Chg.cell hg.out (hc j hlt) id
      have hsz := hg.out.size
      have hjl : (j : Int) < ys.length := by omega
      have HV := Lib.hid (HXI.out j hlt)
      have HW := Lib.hid (HYI.out j hlt)
      have HC2' := Lib.hid (hd j (by omega))
      have HL1 := Lib.hid (show (onceL xs xs j).length ≤ 1099511627776 by have := onceL_length xs xs j; omega)
      have HL2 := Lib.hid (show (onceL xs ys j).length ≤ 1099511627776 by have := onceL_length xs ys j; omega)
      have hcase : (j = 0) ∨ (0 < j ∧ ix xs j ≠ ix xs (j - 1)) ∨ (0 < j ∧ ix xs j = ix xs (j - 1)) := by omega
      have HC0 := Lib.hid (fun (h0 : 0 < j) => Chg.cell hg.out (hc (j - 1) (by omega)) id)
      clear hc hd
      rcases hcase with h0 | ⟨h0, hne⟩ | ⟨h0, hne⟩
      · have HK := Lib.hid (show keepB xs j = true by unfold keepB; rw [decide_eq_true h0]; rfl)
        have HE := Lib.hid (onceL_yes (ys := xs) HK.out)
        have HE2 := Lib.hid (onceL_yes (ys := ys) HK.out)
        subst h0
        have e1 : (((0 : Nat) : Int) == 0) = true := by rfl
        rw [Nat.add_zero] at f1
        have HC2' := Lib.hid (show World.cell? _ ⟨b2, o2, none⟩ = _ from HC2'.out)
        obtain ⟨hy0, hx0⟩ : 0 < ys.length ∧ 0 < xs.length := ⟨by omega, by omega⟩
        go_wp2
        go_quiet (fail)
        go_wp2_with (first | (at_builtin; refine wp_append_int2 (o := ⟨some 56, _, _, _, _, _⟩) rfl _ _ rfl w6.heap.size _ (onceL xs xs (0)) rfl (ho.out.o1.alloc _) _ (ix xs (0)) rfl (cell_new _ _ _ _) HV.out HL1.out ?_ ?_; (simp; omega); intro v7 w7 ho1 ho2 ho3 hg1; have T_7 := Lib.hid (T3.app (ho.out.up (Chg.trans (by repeat (first | exact Chg.refl _ _ | apply Chg.drew | apply Chg.drewN | refine Chg.alloc ?_ _)) ((Chg.refl Nowhere _).alloc _))) ho1 ho2 ho3); have U_7 := Lib.hid (Chg.new (hg.out.trans (Chg.trans (by repeat (first | exact Chg.refl _ _ | apply Chg.drew | apply Chg.drewN | refine Chg.alloc ?_ _)) ((Chg.refl Nowhere _).alloc _))) hg1 (fun i hi => by omega)); have hs7 := U_7.out.size; have f7 := Chg.cell U_7.out HC2'.out id; clear ho1 ho2 ho3 hg1) | (at_builtin; refine wp_append_int2 (o := ⟨some 63, _, _, _, _, _⟩) rfl _ _ rfl w6.heap.size _ (onceL xs ys (0)) rfl (T_7.out.o2.alloc _) _ (ix ys (0)) rfl (cell_new _ _ _ _) HW.out HL2.out ?_ ?_; (simp; omega); intro v8 w8 ho1 ho2 ho3 hg1; have T_8 := Lib.hid (T3.app2 (T_7.out.up ((Chg.refl Nowhere _).alloc _)) ho1 ho2 ho3); have U_8 := Lib.hid (Chg.new (U_7.out.trans ((Chg.refl Nowhere _).alloc _)) hg1 (fun i hi => by omega)); clear ho1 ho2 ho3 hg1))
        go_roundw
        case rel => exact ⟨0 + 1, by omega, by go_num, by rw [HE.out, HE2.out]; exact T_8, U_8⟩
        case measure => simp [intOf]; omega
      · have HK := Lib.hid (show keepB xs j = true by unfold keepB; rw [bne_iff_ne.2 hne, Bool.or_true])
        have HE := Lib.hid (onceL_yes (ys := xs) HK.out)
        have HE2 := Lib.hid (onceL_yes (ys := ys) HK.out)
        have f0 := HC0.out h0
        have e1 : ((j : Int) == 0) = false := by rw [beq_eq_false_iff_ne]; omega
        have e3 : (((j - 1 : Nat) : Int) + 1 == 0) = false := by rw [beq_eq_false_iff_ne]; omega
        have e2 : (ix xs j != ix xs (j - 1)) = true := bne_iff_ne.2 hne
        clear hne
        obtain ⟨m, rfl⟩ : ∃ m, j = m + 1 := ⟨j - 1, by omega⟩
        have f0' := f0
        rw [show m + 1 - 1 = m by omega] at f0' e2 e3
        clear f0
        have b0 : (0 : Int) ≤ ((m + 1 : Nat) : Int) - 1 := by omega
        have b1 : ((m + 1 : Nat) : Int) - 1 < (xs.length : Int) := by omega
        have b2 : (((m + 1 : Nat) : Int) - 1).toNat = m := by omega
        have b3 : IntKind.i64.wrap (((m + 1 : Nat) : Int) - 1) = ((m + 1 : Nat) : Int) - 1 := IntWalk.i64_in _ (by omega)
        have b4 : (0 : Int) ≤ ((m + 1 : Nat) : Int) := by omega
        have b5 : ((m + 1 : Nat) : Int) < (xs.length : Int) := by omega
        go_wp2
        go_quiet (fail)
        clear b2 b3
        go_wp2_with (first | (at_builtin; refine wp_append_int2 (o := ⟨some 56, _, _, _, _, _⟩) rfl _ _ rfl w6.heap.size _ (onceL xs xs (m + 1)) rfl (ho.out.o1.alloc _) _ (ix xs (m + 1)) rfl (cell_new _ _ _ _) HV.out HL1.out ?_ ?_; (simp; omega); intro v7 w7 ho1 ho2 ho3 hg1; have T_7 := Lib.hid (T3.app (ho.out.up (Chg.trans (by repeat (first | exact Chg.refl _ _ | apply Chg.drew | apply Chg.drewN | refine Chg.alloc ?_ _)) ((Chg.refl Nowhere _).alloc _))) ho1 ho2 ho3); have U_7 := Lib.hid (Chg.new (hg.out.trans (Chg.trans (by repeat (first | exact Chg.refl _ _ | apply Chg.drew | apply Chg.drewN | refine Chg.alloc ?_ _)) ((Chg.refl Nowhere _).alloc _))) hg1 (fun i hi => by omega)); have hs7 := U_7.out.size; have f7 := Chg.cell U_7.out HC2'.out id; clear ho1 ho2 ho3 hg1) | (at_builtin; refine wp_append_int2 (o := ⟨some 63, _, _, _, _, _⟩) rfl _ _ rfl w6.heap.size _ (onceL xs ys (m + 1)) rfl (T_7.out.o2.alloc _) _ (ix ys (m + 1)) rfl (cell_new _ _ _ _) HW.out HL2.out ?_ ?_; (simp; omega); intro v8 w8 ho1 ho2 ho3 hg1; have T_8 := Lib.hid (T3.app2 (T_7.out.up ((Chg.refl Nowhere _).alloc _)) ho1 ho2 ho3); have U_8 := Lib.hid (Chg.new (U_7.out.trans ((Chg.refl Nowhere _).alloc _)) hg1 (fun i hi => by omega)); clear ho1 ho2 ho3 hg1))
        go_roundw
        case rel => exact ⟨m + 1 + 1, by omega, by go_num, by rw [HE.out, HE2.out]; exact T_8, U_8⟩
        case measure => simp [intOf]; omega
      · have HK := Lib.hid (show keepB xs j = false by unfold keepB; rw [decide_eq_false (by omega), hne]; simp)
        have f0 := HC0.out h0
        have e1 : ((j : Int) == 0) = false := by rw [beq_eq_false_iff_ne]; omega
        have e3 : (((j - 1 : Nat) : Int) + 1 == 0) = false := by rw [beq_eq_false_iff_ne]; omega
        have e2 : (ix xs j != ix xs (j - 1)) = false := by rw [hne]; simp
        have HE := Lib.hid (onceL_no (ys := xs) HK.out)
        have HE2 := Lib.hid (onceL_no (ys := ys) HK.out)
        clear hne
        obtain ⟨m, rfl⟩ : ∃ m, j = m + 1 := ⟨j - 1, by omega⟩
        have f0' := f0
        rw [show m + 1 - 1 = m by omega] at f0' e2 e3
        clear f0
        have b0 : (0 : Int) ≤ ((m + 1 : Nat) : Int) - 1 := by omega
        have b1 : ((m + 1 : Nat) : Int) - 1 < (xs.length : Int) := by omega
        have b2 : (((m + 1 : Nat) : Int) - 1).toNat = m := by omega
        have b3 : IntKind.i64.wrap (((m + 1 : Nat) : Int) - 1) = ((m + 1 : Nat) : Int) - 1 := IntWalk.i64_in _ (by omega)
        have b4 : (0 : Int) ≤ ((m + 1 : Nat) : Int) := by omega
        have b5 : ((m + 1 : Nat) : Int) < (xs.length : Int) := by omega
        go_wp2
        go_quiet (fail)
        clear b2 b3
        go_wp2
        go_roundw
        case rel => exact ⟨m + 1 + 1, by omega, by go_num, by rw [HE.out, HE2.out]; exact ho.out.up (by repeat (first | exact Chg.refl _ _ | apply Chg.drew | apply Chg.drewN | refine Chg.alloc ?_ _)), (Chg.trans hg.out (by repeat (first | exact Chg.refl _ _ | apply Chg.drew | apply Chg.drewN | refine Chg.alloc ?_ _)))⟩
        case measure => simp [intOf]; omega
    · obtain rfl : j = xs.length := by omega
      have hgz := hg.out.size
      have U_12 := Lib.hid (Chg.trans U_7.out hg.out)
      clear U_7
      have J1_13 := Lib.hid (J1_8.out.up hg.out)
      clear J1_8
      have J2_14 := Lib.hid (J2_9.out.up hg.out)
      clear J2_9
      have J3_15 := Lib.hid (J3_10.out.up hg.out)
      clear J3_10
      have K_16 := Lib.hid (K_11.out.up hg.out)
      clear K_11
      have HA1 := Lib.hid ho.out.o1.ints
      have HA2 := Lib.hid ho.out.o2.ints
      obtain ⟨B1, d1, rfl, el1, ec1, -⟩ := HA1.out.shape
      obtain ⟨B2, d2, rfl, el2, ec2, -⟩ := HA2.out.shape
      go_wp2_with fail
      refine (sMoveColumns_any _ _ _ (onceL xs xs xs.length) (HA1.out.up (by repeat (first | exact Chg.refl _ _ | apply Chg.drew | apply Chg.drewN | refine Chg.alloc ?_ _))) _ _ (onceL xs ys xs.length) (HA2.out.up (by repeat (first | exact Chg.refl _ _ | apply Chg.drew | apply Chg.drewN | refine Chg.alloc ?_ _)))).mono ?_
      rintro e w17 ⟨v17, rfl, k1, g1⟩
      obtain ⟨A17, c17, rfl, hl17, hc17, -⟩ := k1.shape
      have K1 := Lib.hid k1
      clear k1
      have G1 := Lib.hid g1
      have hz17 := G1.out.size
      clear g1
      have U_18 := Lib.hid (Chg.trans U_12.out (Chg.trans (by repeat (first | exact Chg.refl _ _ | apply Chg.drew | apply Chg.drewN | refine Chg.alloc ?_ _)) G1.out))
      clear U_12
      have J1_19 := Lib.hid (J1_13.out.up (Chg.trans (by repeat (first | exact Chg.refl _ _ | apply Chg.drew | apply Chg.drewN | refine Chg.alloc ?_ _)) G1.out))
      clear J1_13
      have J2_20 := Lib.hid (J2_14.out.up (Chg.trans (by repeat (first | exact Chg.refl _ _ | apply Chg.drew | apply Chg.drewN | refine Chg.alloc ?_ _)) G1.out))
      clear J2_14
      have J3_21 := Lib.hid (J3_15.out.up (Chg.trans (by repeat (first | exact Chg.refl _ _ | apply Chg.drew | apply Chg.drewN | refine Chg.alloc ?_ _)) G1.out))
      clear J3_15
      have K_22 := Lib.hid (K_16.out.up (Chg.trans (by repeat (first | exact Chg.refl _ _ | apply Chg.drew | apply Chg.drewN | refine Chg.alloc ?_ _)) G1.out))
      clear K_16
      have A1_23 := Lib.hid (HA1.out.up (Chg.trans (by repeat (first | exact Chg.refl _ _ | apply Chg.drew | apply Chg.drewN | refine Chg.alloc ?_ _)) G1.out))
      clear HA1
      have A2_24 := Lib.hid (HA2.out.up (Chg.trans (by repeat (first | exact Chg.refl _ _ | apply Chg.drew | apply Chg.drewN | refine Chg.alloc ?_ _)) G1.out))
      clear HA2
      clear G1
      have L_25 := Lib.hid (K1.out)
      clear K1
      rw [show planCode (onceL xs xs xs.length) (onceL xs ys xs.length) = 0 by have := HC2.out; rw [HXS.out, HYS.out, ← HLX.out] at this; exact this]
      have hzw : w.heap.size ≤ w17.heap.size := by omega
      have HB0 := Lib.hid ((OwnO.made w17 w17.heap.size (Nat.le_refl _)))
      have HQ1 := Lib.hid (show (colsOut (ownsL ts) xs).length ≤ 1536 from colsOut_len _ _)
      have HQ2 := Lib.hid (show (colsOut (onceL xs xs xs.length) (onceL xs ys xs.length)).length ≤ 1536 from colsOut_len _ _)
      have HLL1 := Lib.hid (show ([] : List OpM).length + (colsOut (ownsL ts) xs).length ≤ 1099511627776 by have := HQ1.out; rw [List.length_nil]; omega)
      have HLL2 := Lib.hid (show ([] ++ colsOut (ownsL ts) xs).length + (colsOut (onceL xs xs xs.length) (onceL xs ys xs.length)).length ≤ 1099511627776 by have h1 := HQ1.out; have h2 := HQ2.out; rw [List.nil_append]; omega)
      have hkk := K_22.out
      rw [HXS.out] at hkk
      have HKK := Lib.hid (hkk.up ((Chg.refl Nowhere w17).alloc (.cells #[] 109)))
      clear hkk
      go_wp2_with (first | (at_builtin; refine wp_append_ops (o := ⟨some 75, _, _, _, _, _⟩) rfl _ _ rfl w17.heap.size _ [] rfl HB0.out _ _ (colsOut (ownsL ts) xs) rfl HKK.out HLL1.out ?_ ?_; (focus simp); intro v5 w5 ho1 _ hg1; have HO5 := Lib.hid ho1; have HG5 := Lib.hid (Chg.new (Chg.trans U_18.out ((Chg.refl Nowhere _).alloc _)) hg1 (fun i hi => by simp at *; omega)); have HL5 := Lib.hid (show Ops w5 _ _ _ from (L_25.out.up ((Chg.refl Nowhere _).alloc _)).keep hg1 (fun b hb hs hs2 => by simp only [New] at hs; omega)); have hz5 := hg1.size; clear ho1 hg1) | (at_builtin; refine wp_append_ops (o := ⟨some 77, _, _, _, _, _⟩) rfl _ _ rfl w17.heap.size _ ([] ++ colsOut (ownsL ts) xs) rfl HO5.out _ _ (colsOut (onceL xs xs xs.length) (onceL xs ys xs.length)) rfl HL5.out HLL2.out ?_ ?_; (simp at *; omega); intro v6 w6 ho1 _ hg1; have HO6 := Lib.hid ho1; have HG6 := Lib.hid (Chg.new HG5.out hg1 (fun i hi => by omega)); clear ho1 hg1))
      go_ret2
      exact ⟨_, rfl, by have := HO6.out.ops; rw [List.nil_append, ← HXS.out, ← HYS.out] at this; unfold movesM; rw [HTS.out]; exact this.mono (fun b _ hb => ⟨by have := hb.1; omega, hb.2⟩), HG6.out⟩
end Go.Proofs.Ytmimbnpcokfnlaa
