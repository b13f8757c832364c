/- The program's MoveColumns answers as the reference's, for all lists; its memory is its own. No condition. -/
import Derived.Test.YtaemcjakmeibjaaCols
import Derived.Test.YtaemcjakmeibjaaAsk
namespace Go.Proofs.Ytaemcjakmeibjaa
open Go.ChangeShapes Go.WideShapes Go.ChangeAt Go.RowKit
namespace fnExactMoveColumns
theorem impl_any (w : World) (S : Nat → Prop) (v : Value) (xs : List Int) (h : Ints w S v xs) (T : Nat → Prop) (u : Value) (ys : List Int) (h2 : Ints w T u ys) :
    Calls Try.prog 51 #[v, u] w fun e w' => ∃ v', e = .returned (.tuple #[v', .int .i64 (planCode xs ys)]) ∧ Ops w' (New w.heap.size w'.heap.size) v' (colsOut xs ys) ∧ Up w w' := by
  obtain ⟨A, c, rfl, hlc, hcm, -⟩ := h.shape
  obtain ⟨A2, c2, rfl, hlc2, hcm2, -⟩ := h2.shape
  have H := Lib.hid h
  have H2 := Lib.hid h2
  clear h h2
  go_enter Try.func51, Try.ntmps51
  go_wp2_with fail
  refine (moveColumns_any _ S T _ _ xs ys H.out H2.out).mono ?_
  rintro e w1 ⟨v1, rfl, k1, g1⟩
  have K1 := Lib.hid k1
  have G1 := Lib.hid g1
  clear k1 g1
  go_wp2
  go_ret2
  exact ⟨_, rfl, K1.out, G1.out⟩
theorem spec_any (w : World) (S : Nat → Prop) (v : Value) (xs : List Int) (h : Ints w S v xs) (T : Nat → Prop) (u : Value) (ys : List Int) (h2 : Ints w T u ys) :
    Calls Try.prog 50 #[v, u] w fun e w' => ∃ v', e = .returned (.tuple #[v', .int .i64 (planCode xs ys)]) ∧ Ops w' (New w.heap.size w'.heap.size) v' (colsOut xs ys) ∧ Up w w' := by
  obtain ⟨A, c, rfl, hlc, hcm, -⟩ := h.shape
  obtain ⟨A2, c2, rfl, hlc2, hcm2, -⟩ := h2.shape
  have H := Lib.hid h
  have H2 := Lib.hid h2
  clear h h2
  by_cases hz : planCode xs ys = 0
  · have HZ := Lib.hid hz
    clear hz
    go_enter Try.func50, Try.ntmps50
    go_wp2_with fail
    refine (l21Ask_any _ S T _ _ xs ys H.out H2.out).mono ?_
    rintro e w1 ⟨rfl, g1⟩
    rw [HZ.out]
    have G1 := Lib.hid g1.up
    clear g1
    go_wp2_with fail
    refine (l21Columns_any _ S T _ _ xs ys (H.out.up G1.out) (H2.out.up G1.out) HZ.out).mono ?_
    rintro e w2 ⟨v, rfl, k1, g2⟩
    have hzz := G1.out.size
    have K1 := Lib.hid k1
    have G2 := Lib.hid g2
    clear k1 g2
    go_wp2
    go_ret2
    exact ⟨_, ret_mi HZ.out.symm, K1.out.mono (fun b _ hb => ⟨Nat.le_trans hzz hb.1, hb.2⟩), Chg.trans G1.out G2.out⟩
  · have HE := Lib.hid (show colsOut xs ys = [] by unfold colsOut; rw [planOut_no rfl hz]; rfl)
    have hb : (planCode xs ys != 0) = true := by simpa using hz
    clear hz
    go_enter Try.func50, Try.ntmps50
    go_wp2_with fail
    refine (l21Ask_any _ S T _ _ xs ys H.out H2.out).mono ?_
    rintro e w1 ⟨rfl, g1⟩
    have G1 := Lib.hid g1.up
    clear g1
    go_wp2
    go_ret2
    exact ⟨_, rfl, by rw [HE.out]; exact Ops.nil _ _ _ _ (by omega), G1.out⟩
theorem outOf_len (xs ys : List Int) : cntOps (colsOut xs ys) ≤ 12288 := by
  unfold cntOps colsOut
  rw [colsM_len]
  have := planOut_len xs ys
  omega
end fnExactMoveColumns
-- LAW
namespace fnExactMoveColumns
set_option linter.unusedVariables false in
set_option maxHeartbeats 2000000 in
theorem walk0 (w : World) (v0 : Value) (a0 : List Int) (ha0 : Ints w (fun b => b < w.heap.size) v0 a0) (v1 : Value) (a1 : List Int) (ha1 : Ints w (fun b => b < w.heap.size) v1 a1) (hb0 : a0.length ≤ 1048576) (hb1 : a1.length ≤ 1048576) :
    Calls Try.prog 13 #[v0, v1] w fun e w' => e = .returned (.bool true) ∧ Below w.heap.size w w' := by
  have U0 := Lib.hid (Chg.refl Nowhere w)
  obtain ⟨A0, c0, rfl, hl0, hc0, -⟩ := ha0.shape
  have X0 := Lib.hid ha0
  clear ha0
  obtain ⟨A1, c1, rfl, hl1, hc1, -⟩ := ha1.shape
  have X1 := Lib.hid ha1
  clear ha1
  go_enter Try.func13, Try.ntmps13
  go_wp2_with fail
  refine (toInts _ _ _ a0 (by unfold cntInts; omega) X0.out).mono ?_
  rintro e w1 ⟨uC1, rfl, k1, g1⟩
  obtain ⟨BC1, dC1, rfl, eC1, fC1, -⟩ := k1.shape
  have K := Lib.hid k1
  have G1 := Lib.hid g1
  clear k1 g1
  have G1z := G1.out.size
  have X0' := Lib.hid (X0.out.up G1.out)
  clear X0
  have X1' := Lib.hid (X1.out.up G1.out)
  clear X1
  have U0' := Lib.hid (Chg.trans U0.out G1.out)
  clear U0 G1
  have C1 := K
  clear K
  go_wp2_with fail
  refine (toInts _ _ _ a1 (by unfold cntInts; omega) X1'.out).mono ?_
  rintro e w2 ⟨uC2, rfl, k1, g1⟩
  obtain ⟨BC2, dC2, rfl, eC2, fC2, -⟩ := k1.shape
  have K := Lib.hid k1
  have G2 := Lib.hid g1
  clear k1 g1
  have G2z := G2.out.size
  have X0'' := Lib.hid (X0'.out.up G2.out)
  clear X0'
  have X1'' := Lib.hid (X1'.out.up G2.out)
  clear X1'
  have C1' := Lib.hid (C1.out.up G2.out)
  clear C1
  have U0'' := Lib.hid (Chg.trans U0'.out G2.out)
  clear U0' G2
  have C2 := K
  clear K
  go_wp2_with fail
  refine (spec_any _ _ _ a0 C1'.out _ _ a1 C2.out).mono ?_
  rintro e w3 ⟨uW, rfl, k1, g1⟩
  obtain ⟨BW, dW, rfl, eW, fW, -⟩ := k1.shape
  have K := Lib.hid k1
  have G3 := Lib.hid g1
  clear k1 g1
  have G3z := G3.out.size
  have X0''' := Lib.hid (X0''.out.up G3.out)
  clear X0''
  have X1''' := Lib.hid (X1''.out.up G3.out)
  clear X1''
  have C1'' := Lib.hid (C1'.out.up G3.out)
  clear C1'
  have C2' := Lib.hid (C2.out.up G3.out)
  clear C2
  have U0''' := Lib.hid (Chg.trans U0''.out G3.out)
  clear U0'' G3
  have W := K
  clear K
  clear C1''
  clear C2'
  go_wp2_with fail
  refine (toInts _ _ _ a0 (by unfold cntInts; omega) X0'''.out).mono ?_
  rintro e w4 ⟨uC4, rfl, k1, g1⟩
  obtain ⟨BC4, dC4, rfl, eC4, fC4, -⟩ := k1.shape
  have K := Lib.hid k1
  have G4 := Lib.hid g1
  clear k1 g1
  have G4z := G4.out.size
  have X0'''' := Lib.hid (X0'''.out.up G4.out)
  clear X0'''
  have X1'''' := Lib.hid (X1'''.out.up G4.out)
  clear X1'''
  have W' := Lib.hid (W.out.up G4.out)
  clear W
  have U0'''' := Lib.hid (Chg.trans U0'''.out G4.out)
  clear U0''' G4
  have C4 := K
  clear K
  go_wp2_with fail
  refine (toInts _ _ _ a1 (by unfold cntInts; omega) X1''''.out).mono ?_
  rintro e w5 ⟨uC5, rfl, k1, g1⟩
  obtain ⟨BC5, dC5, rfl, eC5, fC5, -⟩ := k1.shape
  have K := Lib.hid k1
  have G5 := Lib.hid g1
  clear k1 g1
  have G5z := G5.out.size
  have X0''''' := Lib.hid (X0''''.out.up G5.out)
  clear X0''''
  have X1''''' := Lib.hid (X1''''.out.up G5.out)
  clear X1''''
  have W'' := Lib.hid (W'.out.up G5.out)
  clear W'
  have C4' := Lib.hid (C4.out.up G5.out)
  clear C4
  have U0''''' := Lib.hid (Chg.trans U0''''.out G5.out)
  clear U0'''' G5
  have C5 := K
  clear K
  go_wp2_with fail
  refine (impl_any _ _ _ a0 C4'.out _ _ a1 C5.out).mono ?_
  rintro e w6 ⟨uR, rfl, k1, g1⟩
  obtain ⟨BR, dR, rfl, eR, fR, -⟩ := k1.shape
  have K := Lib.hid k1
  have G6 := Lib.hid g1
  clear k1 g1
  have G6z := G6.out.size
  have X0'''''' := Lib.hid (X0'''''.out.up G6.out)
  clear X0'''''
  have X1'''''' := Lib.hid (X1'''''.out.up G6.out)
  clear X1'''''
  have W''' := Lib.hid (W''.out.up G6.out)
  clear W''
  have C4'' := Lib.hid (C4'.out.up G6.out)
  clear C4'
  have C5' := Lib.hid (C5.out.up G6.out)
  clear C5
  have U0'''''' := Lib.hid (Chg.trans U0'''''.out G6.out)
  clear U0''''' G6
  have R := K
  clear K
  go_wp2_with fail
  refine (eqOps _ _ _ _ _ (colsOut a0 a1) R.out W'''.out).mono ?_
  rintro e w7 ⟨rfl, g1⟩
  have G7 := Lib.hid g1
  clear g1
  have G7z := G7.out.size
  have X0''''''' := Lib.hid (X0''''''.out.up G7.out)
  clear X0''''''
  have X1''''''' := Lib.hid (X1''''''.out.up G7.out)
  clear X1''''''
  have W'''' := Lib.hid (W'''.out.up G7.out)
  clear W'''
  have C4''' := Lib.hid (C4''.out.up G7.out)
  clear C4''
  have C5'' := Lib.hid (C5'.out.up G7.out)
  clear C5'
  have R' := Lib.hid (R.out.up G7.out)
  clear R
  have U0''''''' := Lib.hid (Chg.trans U0''''''.out G7.out)
  clear U0'''''' G7
  go_wp2_with fail
  refine (toInts _ _ _ a0 (by unfold cntInts; omega) X0'''''''.out).mono ?_
  rintro e w8 ⟨uC8, rfl, k1, g1⟩
  obtain ⟨BC8, dC8, rfl, eC8, fC8, -⟩ := k1.shape
  have K := Lib.hid k1
  have G8 := Lib.hid g1
  clear k1 g1
  have G8z := G8.out.size
  have X0'''''''' := Lib.hid (X0'''''''.out.up G8.out)
  clear X0'''''''
  have X1'''''''' := Lib.hid (X1'''''''.out.up G8.out)
  clear X1'''''''
  have W''''' := Lib.hid (W''''.out.up G8.out)
  clear W''''
  have C4'''' := Lib.hid (C4'''.out.up G8.out)
  clear C4'''
  have C5''' := Lib.hid (C5''.out.up G8.out)
  clear C5''
  have R'' := Lib.hid (R'.out.up G8.out)
  clear R'
  have U0'''''''' := Lib.hid (Chg.trans U0'''''''.out G8.out)
  clear U0''''''' G8
  have C8 := K
  clear K
  go_wp2_with fail
  refine (eqInts _ _ _ _ _ a0 C4''''.out C8.out).mono ?_
  rintro e w9 ⟨rfl, g1⟩
  have G9 := Lib.hid g1
  clear g1
  have G9z := G9.out.size
  have X0''''''''' := Lib.hid (X0''''''''.out.up G9.out)
  clear X0''''''''
  have X1''''''''' := Lib.hid (X1''''''''.out.up G9.out)
  clear X1''''''''
  have W'''''' := Lib.hid (W'''''.out.up G9.out)
  clear W'''''
  have C4''''' := Lib.hid (C4''''.out.up G9.out)
  clear C4''''
  have C5'''' := Lib.hid (C5'''.out.up G9.out)
  clear C5'''
  have R''' := Lib.hid (R''.out.up G9.out)
  clear R''
  have C8' := Lib.hid (C8.out.up G9.out)
  clear C8
  have U0''''''''' := Lib.hid (Chg.trans U0''''''''.out G9.out)
  clear U0'''''''' G9
  clear C8'
  go_wp2_with fail
  refine (toInts _ _ _ a1 (by unfold cntInts; omega) X1'''''''''.out).mono ?_
  rintro e w10 ⟨uC10, rfl, k1, g1⟩
  obtain ⟨BC10, dC10, rfl, eC10, fC10, -⟩ := k1.shape
  have K := Lib.hid k1
  have G10 := Lib.hid g1
  clear k1 g1
  have G10z := G10.out.size
  have X0'''''''''' := Lib.hid (X0'''''''''.out.up G10.out)
  clear X0'''''''''
  have X1'''''''''' := Lib.hid (X1'''''''''.out.up G10.out)
  clear X1'''''''''
  have W''''''' := Lib.hid (W''''''.out.up G10.out)
  clear W''''''
  have C4'''''' := Lib.hid (C4'''''.out.up G10.out)
  clear C4'''''
  have C5''''' := Lib.hid (C5''''.out.up G10.out)
  clear C5''''
  have R'''' := Lib.hid (R'''.out.up G10.out)
  clear R'''
  have U0'''''''''' := Lib.hid (Chg.trans U0'''''''''.out G10.out)
  clear U0''''''''' G10
  have C10 := K
  clear K
  go_wp2_with fail
  refine (eqInts _ _ _ _ _ a1 C5'''''.out C10.out).mono ?_
  rintro e w11 ⟨rfl, g1⟩
  have G11 := Lib.hid g1
  clear g1
  have G11z := G11.out.size
  have X0''''''''''' := Lib.hid (X0''''''''''.out.up G11.out)
  clear X0''''''''''
  have X1''''''''''' := Lib.hid (X1''''''''''.out.up G11.out)
  clear X1''''''''''
  have W'''''''' := Lib.hid (W'''''''.out.up G11.out)
  clear W'''''''
  have C4''''''' := Lib.hid (C4''''''.out.up G11.out)
  clear C4''''''
  have C5'''''' := Lib.hid (C5'''''.out.up G11.out)
  clear C5'''''
  have R''''' := Lib.hid (R''''.out.up G11.out)
  clear R''''
  have C10' := Lib.hid (C10.out.up G11.out)
  clear C10
  have U0''''''''''' := Lib.hid (Chg.trans U0''''''''''.out G11.out)
  clear U0'''''''''' G11
  clear C10'
  have hp0 : (0 : Int) ≤ (1 : Int) := by omega
  have hr0 : cntInts a0 ≤ 8388608 := (by unfold cntInts; omega)
  have hq0 : (1 : Int) + cntInts a0 ≤ 4611686018427387904 := by omega
  go_wp2_with fail
  refine (markInts _ _ _ a0 ((1 : Int)) hp0 hq0 C4'''''''.out).mono ?_
  rintro e w12 ⟨rfl, g1, k1⟩
  have K := Lib.hid k1
  have G12 := Lib.hid g1
  clear k1 g1
  clear C4'''''''
  have G12z := G12.out.size
  have X0'''''''''''' := Lib.hid (X0'''''''''''.out.keep G12.out (fun b hb h1 h2 => by simp only [New] at h1 h2; omega))
  clear X0'''''''''''
  have X1'''''''''''' := Lib.hid (X1'''''''''''.out.keep G12.out (fun b hb h1 h2 => by simp only [New] at h1 h2; omega))
  clear X1'''''''''''
  have W''''''''' := Lib.hid (W''''''''.out.keep G12.out (fun b hb h1 h2 => by simp only [New] at h1 h2; omega))
  clear W''''''''
  have C5''''''' := Lib.hid (C5''''''.out.keep G12.out (fun b hb h1 h2 => by simp only [New] at h1 h2; omega))
  clear C5''''''
  have R'''''' := Lib.hid (R'''''.out.keep G12.out (fun b hb h1 h2 => by simp only [New] at h1 h2; omega))
  clear R'''''
  have U0'''''''''''' := Lib.hid (Chg.new U0'''''''''''.out G12.out (fun i hi h2 => by simp only [New] at h2; omega))
  clear U0''''''''''' G12
  have MC4 := K
  clear K
  have hp1 : (0 : Int) ≤ (1 : Int) + cntInts a0 := by omega
  have hr1 : cntInts a1 ≤ 8388608 := (by unfold cntInts; omega)
  have hq1 : (1 : Int) + cntInts a0 + cntInts a1 ≤ 4611686018427387904 := by omega
  go_wp2_with fail
  refine (markInts _ _ _ a1 ((1 : Int) + cntInts a0) hp1 hq1 C5'''''''.out).mono ?_
  rintro e w13 ⟨rfl, g1, k1⟩
  have K := Lib.hid k1
  have G13 := Lib.hid g1
  clear k1 g1
  clear C5'''''''
  have G13z := G13.out.size
  have X0''''''''''''' := Lib.hid (X0''''''''''''.out.keep G13.out (fun b hb h1 h2 => by simp only [New] at h1 h2; omega))
  clear X0''''''''''''
  have X1''''''''''''' := Lib.hid (X1''''''''''''.out.keep G13.out (fun b hb h1 h2 => by simp only [New] at h1 h2; omega))
  clear X1''''''''''''
  have W'''''''''' := Lib.hid (W'''''''''.out.keep G13.out (fun b hb h1 h2 => by simp only [New] at h1 h2; omega))
  clear W'''''''''
  have R''''''' := Lib.hid (R''''''.out.keep G13.out (fun b hb h1 h2 => by simp only [New] at h1 h2; omega))
  clear R''''''
  have MC4' := Lib.hid (MC4.out.keep G13.out (fun b hb h1 h2 => by simp only [New] at h1 h2; omega))
  clear MC4
  have U0''''''''''''' := Lib.hid (Chg.new U0''''''''''''.out G13.out (fun i hi h2 => by simp only [New] at h2; omega))
  clear U0'''''''''''' G13
  have MC5 := K
  clear K
  have hneg : decide (((1 : Int) + cntInts a0 + cntInts a1 : Int) < 0) = false := decide_eq_false (by omega)
  go_wp2_with fail
  refine (eqOps _ _ _ _ _ (colsOut a0 a1) R'''''''.out W''''''''''.out).mono ?_
  rintro e w14 ⟨rfl, g1⟩
  have G14 := Lib.hid g1
  clear g1
  have G14z := G14.out.size
  have X0'''''''''''''' := Lib.hid (X0'''''''''''''.out.up G14.out)
  clear X0'''''''''''''
  have X1'''''''''''''' := Lib.hid (X1'''''''''''''.out.up G14.out)
  clear X1'''''''''''''
  have W''''''''''' := Lib.hid (W''''''''''.out.up G14.out)
  clear W''''''''''
  have R'''''''' := Lib.hid (R'''''''.out.up G14.out)
  clear R'''''''
  have MC4'' := Lib.hid (MC4'.out.up G14.out)
  clear MC4'
  have MC5' := Lib.hid (MC5.out.up G14.out)
  clear MC5
  have U0'''''''''''''' := Lib.hid (Chg.trans U0'''''''''''''.out G14.out)
  clear U0''''''''''''' G14
  clear hneg
  have hr := outOf_len a0 a1
  have hr1 : (0 : Int) ≤ 1 := by omega
  have hr2 : (1 : Int) + cntOps ((colsOut a0 a1)) ≤ 4611686018427387904 := by have := hr; omega
  have HR := Lib.hid hr
  clear hr
  go_wp2_with fail
  refine (markOps _ _ _ (colsOut a0 a1) 1 hr1 hr2 R''''''''.out).mono ?_
  rintro e w15 ⟨rfl, g1, k1⟩
  have K := Lib.hid k1
  have G15 := Lib.hid g1
  clear k1 g1
  clear R''''''''
  have G15z := G15.out.size
  have X0''''''''''''''' := Lib.hid (X0''''''''''''''.out.keep G15.out (fun b hb h1 h2 => by simp only [New] at h1 h2; omega))
  clear X0''''''''''''''
  have X1''''''''''''''' := Lib.hid (X1''''''''''''''.out.keep G15.out (fun b hb h1 h2 => by simp only [New] at h1 h2; omega))
  clear X1''''''''''''''
  have W'''''''''''' := Lib.hid (W'''''''''''.out.keep G15.out (fun b hb h1 h2 => by simp only [New] at h1 h2; omega))
  clear W'''''''''''
  have MC4''' := Lib.hid (MC4''.out.keep G15.out (fun b hb h1 h2 => by simp only [New] at h1 h2; omega))
  clear MC4''
  have MC5'' := Lib.hid (MC5'.out.keep G15.out (fun b hb h1 h2 => by simp only [New] at h1 h2; omega))
  clear MC5'
  have U0''''''''''''''' := Lib.hid (Chg.new U0''''''''''''''.out G15.out (fun i hi h2 => by simp only [New] at h2; omega))
  clear U0'''''''''''''' G15
  have MR := K
  clear K
  go_wp2_with fail
  refine (heldOps _ _ _ (colsOut a0 a1) 1 hr1 hr2 MR.out).mono ?_
  rintro e w16 ⟨rfl, g1⟩
  have G16 := Lib.hid g1
  clear g1
  have G16z := G16.out.size
  have X0'''''''''''''''' := Lib.hid (X0'''''''''''''''.out.up G16.out)
  clear X0'''''''''''''''
  have X1'''''''''''''''' := Lib.hid (X1'''''''''''''''.out.up G16.out)
  clear X1'''''''''''''''
  have W''''''''''''' := Lib.hid (W''''''''''''.out.up G16.out)
  clear W''''''''''''
  have MC4'''' := Lib.hid (MC4'''.out.up G16.out)
  clear MC4'''
  have MC5''' := Lib.hid (MC5''.out.up G16.out)
  clear MC5''
  have MR' := Lib.hid (MR.out.up G16.out)
  clear MR
  have U0'''''''''''''''' := Lib.hid (Chg.trans U0'''''''''''''''.out G16.out)
  clear U0''''''''''''''' G16
  go_wp2_with fail
  refine (toInts _ _ _ a0 (by unfold cntInts; omega) X0''''''''''''''''.out).mono ?_
  rintro e w17 ⟨uC17, rfl, k1, g1⟩
  obtain ⟨BC17, dC17, rfl, eC17, fC17, -⟩ := k1.shape
  have K := Lib.hid k1
  have G17 := Lib.hid g1
  clear k1 g1
  have G17z := G17.out.size
  have X0''''''''''''''''' := Lib.hid (X0''''''''''''''''.out.up G17.out)
  clear X0''''''''''''''''
  have X1''''''''''''''''' := Lib.hid (X1''''''''''''''''.out.up G17.out)
  clear X1''''''''''''''''
  have W'''''''''''''' := Lib.hid (W'''''''''''''.out.up G17.out)
  clear W'''''''''''''
  have MC4''''' := Lib.hid (MC4''''.out.up G17.out)
  clear MC4''''
  have MC5'''' := Lib.hid (MC5'''.out.up G17.out)
  clear MC5'''
  have MR'' := Lib.hid (MR'.out.up G17.out)
  clear MR'
  have U0''''''''''''''''' := Lib.hid (Chg.trans U0''''''''''''''''.out G17.out)
  clear U0'''''''''''''''' G17
  have C17 := K
  clear K
  go_wp2_with fail
  refine (toInts _ _ _ a1 (by unfold cntInts; omega) X1'''''''''''''''''.out).mono ?_
  rintro e w18 ⟨uC18, rfl, k1, g1⟩
  obtain ⟨BC18, dC18, rfl, eC18, fC18, -⟩ := k1.shape
  have K := Lib.hid k1
  have G18 := Lib.hid g1
  clear k1 g1
  have G18z := G18.out.size
  have X0'''''''''''''''''' := Lib.hid (X0'''''''''''''''''.out.up G18.out)
  clear X0'''''''''''''''''
  have X1'''''''''''''''''' := Lib.hid (X1'''''''''''''''''.out.up G18.out)
  clear X1'''''''''''''''''
  have W''''''''''''''' := Lib.hid (W''''''''''''''.out.up G18.out)
  clear W''''''''''''''
  have MC4'''''' := Lib.hid (MC4'''''.out.up G18.out)
  clear MC4'''''
  have MC5''''' := Lib.hid (MC5''''.out.up G18.out)
  clear MC5''''
  have MR''' := Lib.hid (MR''.out.up G18.out)
  clear MR''
  have C17' := Lib.hid (C17.out.up G18.out)
  clear C17
  have U0'''''''''''''''''' := Lib.hid (Chg.trans U0'''''''''''''''''.out G18.out)
  clear U0''''''''''''''''' G18
  have C18 := K
  clear K
  go_wp2_with fail
  refine (impl_any _ _ _ a0 C17'.out _ _ a1 C18.out).mono ?_
  rintro e w19 ⟨uH, rfl, k1, g1⟩
  obtain ⟨BH, dH, rfl, eH, fH, -⟩ := k1.shape
  have K := Lib.hid k1
  have G19 := Lib.hid g1
  clear k1 g1
  have G19z := G19.out.size
  have X0''''''''''''''''''' := Lib.hid (X0''''''''''''''''''.out.up G19.out)
  clear X0''''''''''''''''''
  have X1''''''''''''''''''' := Lib.hid (X1''''''''''''''''''.out.up G19.out)
  clear X1''''''''''''''''''
  have W'''''''''''''''' := Lib.hid (W'''''''''''''''.out.up G19.out)
  clear W'''''''''''''''
  have MC4''''''' := Lib.hid (MC4''''''.out.up G19.out)
  clear MC4''''''
  have MC5'''''' := Lib.hid (MC5'''''.out.up G19.out)
  clear MC5'''''
  have MR'''' := Lib.hid (MR'''.out.up G19.out)
  clear MR'''
  have C17'' := Lib.hid (C17'.out.up G19.out)
  clear C17'
  have C18' := Lib.hid (C18.out.up G19.out)
  clear C18
  have U0''''''''''''''''''' := Lib.hid (Chg.trans U0''''''''''''''''''.out G19.out)
  clear U0'''''''''''''''''' G19
  have H := K
  clear K
  go_wp2_with fail
  refine (eqOps _ _ _ _ _ (colsOut a0 a1) H.out W''''''''''''''''.out).mono ?_
  rintro e w20 ⟨rfl, g1⟩
  have G20 := Lib.hid g1
  clear g1
  have G20z := G20.out.size
  have X0'''''''''''''''''''' := Lib.hid (X0'''''''''''''''''''.out.up G20.out)
  clear X0'''''''''''''''''''
  have X1'''''''''''''''''''' := Lib.hid (X1'''''''''''''''''''.out.up G20.out)
  clear X1'''''''''''''''''''
  have W''''''''''''''''' := Lib.hid (W''''''''''''''''.out.up G20.out)
  clear W''''''''''''''''
  have MC4'''''''' := Lib.hid (MC4'''''''.out.up G20.out)
  clear MC4'''''''
  have MC5''''''' := Lib.hid (MC5''''''.out.up G20.out)
  clear MC5''''''
  have MR''''' := Lib.hid (MR''''.out.up G20.out)
  clear MR''''
  have C17''' := Lib.hid (C17''.out.up G20.out)
  clear C17''
  have C18'' := Lib.hid (C18'.out.up G20.out)
  clear C18'
  have H' := Lib.hid (H.out.up G20.out)
  clear H
  have U0'''''''''''''''''''' := Lib.hid (Chg.trans U0'''''''''''''''''''.out G20.out)
  clear U0''''''''''''''''''' G20
  go_wp2_with fail
  refine (heldOps _ _ _ (colsOut a0 a1) 1 hr1 hr2 MR'''''.out).mono ?_
  rintro e w21 ⟨rfl, g1⟩
  have G21 := Lib.hid g1
  clear g1
  have G21z := G21.out.size
  have X0''''''''''''''''''''' := Lib.hid (X0''''''''''''''''''''.out.up G21.out)
  clear X0''''''''''''''''''''
  have X1''''''''''''''''''''' := Lib.hid (X1''''''''''''''''''''.out.up G21.out)
  clear X1''''''''''''''''''''
  have W'''''''''''''''''' := Lib.hid (W'''''''''''''''''.out.up G21.out)
  clear W'''''''''''''''''
  have MC4''''''''' := Lib.hid (MC4''''''''.out.up G21.out)
  clear MC4''''''''
  have MC5'''''''' := Lib.hid (MC5'''''''.out.up G21.out)
  clear MC5'''''''
  have MR'''''' := Lib.hid (MR'''''.out.up G21.out)
  clear MR'''''
  have C17'''' := Lib.hid (C17'''.out.up G21.out)
  clear C17'''
  have C18''' := Lib.hid (C18''.out.up G21.out)
  clear C18''
  have H'' := Lib.hid (H'.out.up G21.out)
  clear H'
  have U0''''''''''''''''''''' := Lib.hid (Chg.trans U0''''''''''''''''''''.out G21.out)
  clear U0'''''''''''''''''''' G21
  go_wp2
  go_ret
  exact ⟨rfl, Up.below U0'''''''''''''''''''''.out⟩
theorem walk (w : World) (v0 : Value) (a0 : List Int) (ha0 : Ints w (fun b => b < w.heap.size) v0 a0) (v1 : Value) (a1 : List Int) (ha1 : Ints w (fun b => b < w.heap.size) v1 a1) :
    Calls Try.prog 13 #[v0, v1] w fun e w' => e = .returned (.bool true) ∧ Below w.heap.size w w' := by
  by_cases hb0 : a0.length ≤ 1048576
  rotate_left
  · obtain ⟨A0, c0, rfl, -⟩ := ha0
    obtain ⟨A1, c1, rfl, -⟩ := ha1
    go_enter Try.func13, Try.ntmps13
    go_wp2
    go_ret
    exact ⟨rfl, Below.refl _ _⟩
  by_cases hb1 : a1.length ≤ 1048576
  rotate_left
  · obtain ⟨A0, c0, rfl, -⟩ := ha0
    obtain ⟨A1, c1, rfl, -⟩ := ha1
    go_enter Try.func13, Try.ntmps13
    go_wp2
    go_ret
    exact ⟨rfl, Below.refl _ _⟩
  exact walk0 w v0 a0 ha0 v1 a1 ha1 hb0 hb1
end fnExactMoveColumns
end Go.Proofs.Ytaemcjakmeibjaa
namespace Go.Proofs.Ytaemcjakmeibjaa.fnExactMoveColumns
open Go.ChangeShapes Go.WideShapes Go.ChangeAt Go.RowKit
set_option linter.unusedVariables false
theorem own : ownKnob Try.prog.godebug = none := by kernel_rfl
theorem laidOut : laidOutB Try.prog = true := by kernel_rfl
theorem readable : ∀ t ∈ Try.f13.params.toList, Try.prog.readableRec t = true ∧ t < Try.prog.types.size := by
  have h : (Try.f13.params.toList.all fun t => Try.prog.readableRec t && decide (t < Try.prog.types.size)) = true := by kernel_rfl
  intro t ht
  have h2 := List.all_eq_true.1 h t ht
  rw [Bool.and_eq_true, decide_eq_true_eq] at h2
  exact h2
theorem resT : Try.f13.resultTypes = #[4] := by kernel_rfl
set_option maxRecDepth 100000 in
theorem lifted (os : Os) (started : os.Started) (H : Type) (enc : TypeId × Value → H) :
    ReturnsInHanded {} Try.checked os 13 .any (Rows.fnExactMoveColumnsSpec.pre6 enc Try.prog Try.f13 Rows.fnExactMoveColumnsRow.domain false) (Rows.fnExactMoveColumnsSpec.post enc Try.prog Try.f13 false true false false) := by
  refine returnsInHanded_of_change (C := Try.checked) own started (by kernel_rfl) Try.func13
    (ChangeSpec.witness6 (enc := enc) (C := Try.checked) false ⟨#[], #[.slice none 0 0, .slice none 0 0], []⟩ 8 (by kernel_rfl) (by kernel_rfl) (by kernel_rfl) (by kernel_rfl)) ?_
  intro W base args ds gs before hval0 hW hcnd _
  have hval : ∀ (j : Nat) t v, Try.f13.params[j]? = some t → args[j]? = some v → Value.okWide Try.prog W .any base t v := hval0
  have hW' := hW
  obtain ⟨p, q, hA0, hV, rfl, hfz, hnd⟩ := hW
  have hA : DataW.TrodAll enc Try.prog W 0 (fun _ => true) true Try.f13.params.toList args.toList ds p := hA0
  rw [Try.params13] at hA hval
  obtain ⟨v0, vs0, d0, ds0, p0, q0, hargs, rfl, rfl, h0, r0⟩ := trodAll_cons hA
  obtain ⟨v1, vs1, d1, ds1, p1, q1, rfl, rfl, rfl, h1, r1⟩ := trodAll_cons r0
  obtain ⟨rfl, rfl, rfl⟩ := trodAll_nil r1
  obtain rfl : args = #[v0, v1] := by cases args; simp_all
  obtain ⟨rfl, rfl⟩ := trodVars_none hV
  have hpost : ∀ W', Below W.heap.size W W' → Rows.fnExactMoveColumnsSpec.post enc Try.prog Try.f13 false true false false W #[v0, v1] (.bool true) W' := fun W' hb =>
    law_post laidOut readable resT Try.underlying4 rfl rfl hW' hb
  have hz : ∀ b off, MemPlace.cell b off ∈ p0 ++ (p1 ++ []) → W.frozen? ⟨b, off, none⟩ = false := fun b off hm => hfz b off (by simpa using hm)
  clear hW' hA0 hval0 hcnd hnd hV hA
  obtain ⟨xs0, hs0⟩ := open_Ints Try.underlying43 Try.underlying2 (by kernel_rfl) (hval 0 43 v0 rfl rfl) h0 (fun b off hm => hz b off (by simp [hm]))
  obtain ⟨xs1, hs1⟩ := open_Ints Try.underlying43 Try.underlying2 (by kernel_rfl) (hval 1 43 v1 rfl rfl) h1 (fun b off hm => hz b off (by simp [hm]))
  refine (walk W v0 xs0 hs0 v1 xs1 hs1).mono fun e W' ⟨he, hg⟩ => ?_
  subst he
  exact ⟨_, rfl, hpost W' hg⟩
theorem over : Rows.fnExactMoveColumnsRow.holds Try.pinned (OpenSpec.ofChange Rows.fnExactMoveColumnsSpec) :=
  OpenClaim.holds_of_wide 13 Try.f13 rfl rfl rfl rfl rfl rfl rfl ⟨rfl, rfl, rfl, rfl, rfl⟩ rfl rfl rfl rfl rfl (by kernel_rfl) Try.func13 (by kernel_rfl)
    (of_decide_eq_true (by kernel_rfl)) (by unfold Func.isWrapper; first | (rw [if_pos (by decide +kernel)]; kernel_rfl) | (rw [if_neg (by decide +kernel)]; exact ⟨rfl, rfl⟩))
    (fun os started H enc _ => lifted os started H enc)
theorem proved : Rows.FnExactMoveColumnsSaid :=
  over
end Go.Proofs.Ytaemcjakmeibjaa.fnExactMoveColumns
