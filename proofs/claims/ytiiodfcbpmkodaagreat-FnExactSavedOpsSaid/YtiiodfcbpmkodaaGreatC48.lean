/- The program's SavedOps answers as the reference's, for every width and program; what it is given stays as it was; its memory is its own. No condition. -/
import Derived.Test.YtiiodfcbpmkodaaGreatMT9
import Derived.Test.YtiiodfcbpmkodaaGreatCopy
namespace Go.Proofs.YtiiodfcbpmkodaaGreat
open Go.ChangeShapes Go.WideShapes Go.ChangeAt Go.RowKit
namespace fnExactSavedOps
set_option linter.unusedVariables false in
set_option maxRecDepth 100000 in
set_option maxHeartbeats 8000000 in
theorem walk0 (w : World) (a0 : Int) (ia0 : I64 a0) (v1 : Value) (a1 : List OpM) (ha1 : Ops w (fun b => b < w.heap.size) v1 a1)  (hbt : (a1.length : Int) ≤ 1048576) :
    Calls Tryz.prog 4 #[.int .i64 a0, v1] w fun e w' => e = .returned (.bool true) ∧ Below w.heap.size w w' := by
  have U0 := Lib.hid (Chg.refl Nowhere w)
  obtain ⟨A1, c1, rfl, hl1, hc1, -⟩ := ha1.shape
  have X1 := Lib.hid ha1
  clear ha1
  have hr1 : a1.length ≤ 1048576 := by omega
  go_enter Tryz.func4, Tryz.ntmps4
  have hd1 : decide ((1048576 : Int) - a1.length < 0) = false := decide_eq_false (by omega)
  go_wp2_with fail
  refine (szOps_ok _ _ _ a1 (1048576) (by omega) (by omega) (X1.out.up (by repeat (first | exact Chg.refl _ _ | apply Chg.drew | apply Chg.drewN | refine Chg.alloc ?_ _)))).mono ?_
  rintro e w' ⟨rfl, rfl⟩
  go_wp2_with fail
  refine (toOps _ _ _ a1 (by unfold cntOps; omega) (X1.out.up (by repeat (first | exact Chg.refl _ _ | apply Chg.drew | apply Chg.drewN | refine Chg.alloc ?_ _)))).mono ?_
  rintro e w1 ⟨v1, rfl, k1, g1⟩
  obtain ⟨A1, c1, rfl, hl1, hc1, -⟩ := k1.shape
  have K1 := Lib.hid k1
  clear k1
  have G1 := Lib.hid g1
  obtain ⟨hy1, hz1⟩ := up_prem (show Up w _ from (by repeat (first | exact Chg.refl _ _ | apply Chg.drew | apply Chg.drewN | refine Chg.alloc ?_ _))) G1.out
  clear g1
  have U_2 := Lib.hid (Chg.trans U0.out (Chg.trans (by repeat (first | exact Chg.refl _ _ | apply Chg.drew | apply Chg.drewN | refine Chg.alloc ?_ _)) G1.out))
  clear U0
  have X1_3 := Lib.hid (X1.out.up (Chg.trans (by repeat (first | exact Chg.refl _ _ | apply Chg.drew | apply Chg.drewN | refine Chg.alloc ?_ _)) G1.out))
  clear X1
  clear G1
  have B1_4 := Lib.hid (K1.out)
  clear K1
  go_wp2_with fail
  refine (sSavedOpsT _ a0 _ _ a1 (B1_4.out.up (by repeat (first | exact Chg.refl _ _ | apply Chg.drew | apply Chg.drewN | refine Chg.alloc ?_ _)))).mono ?_
  rintro e w5 ⟨v5, rfl, k1, g1⟩
  obtain ⟨A5, c5, rfl, hl5, hc5, -⟩ := k1.shape
  have K1 := Lib.hid k1
  clear k1
  have G1 := Lib.hid g1
  obtain ⟨hy5, hz5⟩ := up_prem (show Up w1 _ from (by repeat (first | exact Chg.refl _ _ | apply Chg.drew | apply Chg.drewN | refine Chg.alloc ?_ _))) G1.out
  clear g1
  have U_6 := Lib.hid (Chg.trans U_2.out (Chg.trans (by repeat (first | exact Chg.refl _ _ | apply Chg.drew | apply Chg.drewN | refine Chg.alloc ?_ _)) G1.out))
  clear U_2
  have X1_7 := Lib.hid (X1_3.out.up (Chg.trans (by repeat (first | exact Chg.refl _ _ | apply Chg.drew | apply Chg.drewN | refine Chg.alloc ?_ _)) G1.out))
  clear X1_3
  have B1_8 := Lib.hid (B1_4.out.up (Chg.trans (by repeat (first | exact Chg.refl _ _ | apply Chg.drew | apply Chg.drewN | refine Chg.alloc ?_ _)) G1.out))
  clear B1_4
  clear G1
  have W0_9 := Lib.hid (K1.out)
  clear K1
  clear B1_8
  go_wp2_with fail
  refine (toOps _ _ _ a1 (by unfold cntOps; omega) (X1_7.out.up (by repeat (first | exact Chg.refl _ _ | apply Chg.drew | apply Chg.drewN | refine Chg.alloc ?_ _)))).mono ?_
  rintro e w10 ⟨v10, rfl, k1, g1⟩
  obtain ⟨A10, c10, rfl, hl10, hc10, -⟩ := k1.shape
  have K1 := Lib.hid k1
  clear k1
  have G1 := Lib.hid g1
  obtain ⟨hy10, hz10⟩ := up_prem (show Up w5 _ from (by repeat (first | exact Chg.refl _ _ | apply Chg.drew | apply Chg.drewN | refine Chg.alloc ?_ _))) G1.out
  clear g1
  have U_11 := Lib.hid (Chg.trans U_6.out (Chg.trans (by repeat (first | exact Chg.refl _ _ | apply Chg.drew | apply Chg.drewN | refine Chg.alloc ?_ _)) G1.out))
  clear U_6
  have X1_12 := Lib.hid (X1_7.out.up (Chg.trans (by repeat (first | exact Chg.refl _ _ | apply Chg.drew | apply Chg.drewN | refine Chg.alloc ?_ _)) G1.out))
  clear X1_7
  have W0_13 := Lib.hid (W0_9.out.up (Chg.trans (by repeat (first | exact Chg.refl _ _ | apply Chg.drew | apply Chg.drewN | refine Chg.alloc ?_ _)) G1.out))
  clear W0_9
  clear G1
  have C1_14 := Lib.hid (K1.out)
  clear K1
  go_wp2_with fail
  refine (SavedOpsT _ a0 _ _ a1 (C1_14.out.up (by repeat (first | exact Chg.refl _ _ | apply Chg.drew | apply Chg.drewN | refine Chg.alloc ?_ _)))).mono ?_
  rintro e w15 ⟨v15, rfl, k1, g1⟩
  obtain ⟨A15, c15, rfl, hl15, hc15, -⟩ := k1.shape
  have K1 := Lib.hid k1
  clear k1
  have G1 := Lib.hid g1
  obtain ⟨hy15, hz15⟩ := up_prem (show Up w10 _ from (by repeat (first | exact Chg.refl _ _ | apply Chg.drew | apply Chg.drewN | refine Chg.alloc ?_ _))) G1.out
  clear g1
  have U_16 := Lib.hid (Chg.trans U_11.out (Chg.trans (by repeat (first | exact Chg.refl _ _ | apply Chg.drew | apply Chg.drewN | refine Chg.alloc ?_ _)) G1.out))
  clear U_11
  have X1_17 := Lib.hid (X1_12.out.up (Chg.trans (by repeat (first | exact Chg.refl _ _ | apply Chg.drew | apply Chg.drewN | refine Chg.alloc ?_ _)) G1.out))
  clear X1_12
  have W0_18 := Lib.hid (W0_13.out.up (Chg.trans (by repeat (first | exact Chg.refl _ _ | apply Chg.drew | apply Chg.drewN | refine Chg.alloc ?_ _)) G1.out))
  clear W0_13
  have C1_19 := Lib.hid (C1_14.out.up (Chg.trans (by repeat (first | exact Chg.refl _ _ | apply Chg.drew | apply Chg.drewN | refine Chg.alloc ?_ _)) G1.out))
  clear C1_14
  clear G1
  have R0_20 := Lib.hid (K1.out)
  clear K1
  go_wp2_with fail
  refine (eqInts _ _ _ _ _ (savedOut a0 a1) (R0_20.out.up (by repeat (first | exact Chg.refl _ _ | apply Chg.drew | apply Chg.drewN | refine Chg.alloc ?_ _))) (W0_18.out.up (by repeat (first | exact Chg.refl _ _ | apply Chg.drew | apply Chg.drewN | refine Chg.alloc ?_ _)))).mono ?_
  rintro e w21 ⟨rfl, g1⟩
  have G1 := Lib.hid g1
  obtain ⟨hy21, hz21⟩ := up_prem (show Up w15 _ from (by repeat (first | exact Chg.refl _ _ | apply Chg.drew | apply Chg.drewN | refine Chg.alloc ?_ _))) G1.out
  clear g1
  have U_22 := Lib.hid (Chg.trans U_16.out (Chg.trans (by repeat (first | exact Chg.refl _ _ | apply Chg.drew | apply Chg.drewN | refine Chg.alloc ?_ _)) G1.out))
  clear U_16
  have X1_23 := Lib.hid (X1_17.out.up (Chg.trans (by repeat (first | exact Chg.refl _ _ | apply Chg.drew | apply Chg.drewN | refine Chg.alloc ?_ _)) G1.out))
  clear X1_17
  have W0_24 := Lib.hid (W0_18.out.up (Chg.trans (by repeat (first | exact Chg.refl _ _ | apply Chg.drew | apply Chg.drewN | refine Chg.alloc ?_ _)) G1.out))
  clear W0_18
  have C1_25 := Lib.hid (C1_19.out.up (Chg.trans (by repeat (first | exact Chg.refl _ _ | apply Chg.drew | apply Chg.drewN | refine Chg.alloc ?_ _)) G1.out))
  clear C1_19
  have R0_26 := Lib.hid (R0_20.out.up (Chg.trans (by repeat (first | exact Chg.refl _ _ | apply Chg.drew | apply Chg.drewN | refine Chg.alloc ?_ _)) G1.out))
  clear R0_20
  clear G1
  go_wp2_with fail
  refine (toOps _ _ _ a1 (by unfold cntOps; omega) (X1_23.out.up (by repeat (first | exact Chg.refl _ _ | apply Chg.drew | apply Chg.drewN | refine Chg.alloc ?_ _)))).mono ?_
  rintro e w27 ⟨v27, rfl, k1, g1⟩
  obtain ⟨A27, c27, rfl, hl27, hc27, -⟩ := k1.shape
  have K1 := Lib.hid k1
  clear k1
  have G1 := Lib.hid g1
  obtain ⟨hy27, hz27⟩ := up_prem (show Up w21 _ from (by repeat (first | exact Chg.refl _ _ | apply Chg.drew | apply Chg.drewN | refine Chg.alloc ?_ _))) G1.out
  clear g1
  have U_28 := Lib.hid (Chg.trans U_22.out (Chg.trans (by repeat (first | exact Chg.refl _ _ | apply Chg.drew | apply Chg.drewN | refine Chg.alloc ?_ _)) G1.out))
  clear U_22
  have X1_29 := Lib.hid (X1_23.out.up (Chg.trans (by repeat (first | exact Chg.refl _ _ | apply Chg.drew | apply Chg.drewN | refine Chg.alloc ?_ _)) G1.out))
  clear X1_23
  have W0_30 := Lib.hid (W0_24.out.up (Chg.trans (by repeat (first | exact Chg.refl _ _ | apply Chg.drew | apply Chg.drewN | refine Chg.alloc ?_ _)) G1.out))
  clear W0_24
  have C1_31 := Lib.hid (C1_25.out.up (Chg.trans (by repeat (first | exact Chg.refl _ _ | apply Chg.drew | apply Chg.drewN | refine Chg.alloc ?_ _)) G1.out))
  clear C1_25
  have R0_32 := Lib.hid (R0_26.out.up (Chg.trans (by repeat (first | exact Chg.refl _ _ | apply Chg.drew | apply Chg.drewN | refine Chg.alloc ?_ _)) G1.out))
  clear R0_26
  clear G1
  have D1_33 := Lib.hid (K1.out)
  clear K1
  go_wp2_with fail
  refine (eqOps _ _ _ _ _ a1 (C1_31.out.up (by repeat (first | exact Chg.refl _ _ | apply Chg.drew | apply Chg.drewN | refine Chg.alloc ?_ _))) (D1_33.out.up (by repeat (first | exact Chg.refl _ _ | apply Chg.drew | apply Chg.drewN | refine Chg.alloc ?_ _)))).mono ?_
  rintro e w34 ⟨rfl, g1⟩
  have G1 := Lib.hid g1
  obtain ⟨hy34, hz34⟩ := up_prem (show Up w27 _ from (by repeat (first | exact Chg.refl _ _ | apply Chg.drew | apply Chg.drewN | refine Chg.alloc ?_ _))) G1.out
  clear g1
  have U_35 := Lib.hid (Chg.trans U_28.out (Chg.trans (by repeat (first | exact Chg.refl _ _ | apply Chg.drew | apply Chg.drewN | refine Chg.alloc ?_ _)) G1.out))
  clear U_28
  have X1_36 := Lib.hid (X1_29.out.up (Chg.trans (by repeat (first | exact Chg.refl _ _ | apply Chg.drew | apply Chg.drewN | refine Chg.alloc ?_ _)) G1.out))
  clear X1_29
  have W0_37 := Lib.hid (W0_30.out.up (Chg.trans (by repeat (first | exact Chg.refl _ _ | apply Chg.drew | apply Chg.drewN | refine Chg.alloc ?_ _)) G1.out))
  clear W0_30
  have C1_38 := Lib.hid (C1_31.out.up (Chg.trans (by repeat (first | exact Chg.refl _ _ | apply Chg.drew | apply Chg.drewN | refine Chg.alloc ?_ _)) G1.out))
  clear C1_31
  have R0_39 := Lib.hid (R0_32.out.up (Chg.trans (by repeat (first | exact Chg.refl _ _ | apply Chg.drew | apply Chg.drewN | refine Chg.alloc ?_ _)) G1.out))
  clear R0_32
  have D1_40 := Lib.hid (D1_33.out.up (Chg.trans (by repeat (first | exact Chg.refl _ _ | apply Chg.drew | apply Chg.drewN | refine Chg.alloc ?_ _)) G1.out))
  clear D1_33
  clear G1
  clear D1_40
  have hp1 : (0 : Int) ≤ (1 : Int) := by omega
  have hr1' : cntOps a1 ≤ 8388608 := by unfold cntOps; omega
  have hq1 : (1 : Int) + cntOps a1 ≤ 4611686018427387904 := by omega
  go_wp2_with fail
  refine (markOps _ _ _ a1 ((1 : Int)) hp1 hq1 (C1_38.out.up (by repeat (first | exact Chg.refl _ _ | apply Chg.drew | apply Chg.drewN | refine Chg.alloc ?_ _)))).mono ?_
  rintro e w41 ⟨rfl, g1, -⟩
  have G1 := Lib.hid g1
  obtain ⟨hy41, hz41⟩ := up_prem (show Up w34 _ from (by repeat (first | exact Chg.refl _ _ | apply Chg.drew | apply Chg.drewN | refine Chg.alloc ?_ _))) G1.out
  clear g1
  clear C1_38
  have U_42 := Lib.hid (Chg.new (Chg.trans U_35.out (by repeat (first | exact Chg.refl _ _ | apply Chg.drew | apply Chg.drewN | refine Chg.alloc ?_ _))) G1.out (fun i hi h2 => by simp only [New] at h2; first | omega | (simp at h2; omega)))
  clear U_35
  have X1_43 := Lib.hid ((X1_36.out.up (by repeat (first | exact Chg.refl _ _ | apply Chg.drew | apply Chg.drewN | refine Chg.alloc ?_ _))).keep G1.out (fun b hb h1 h2 => by simp only [New] at h1 h2; first | omega | (simp at h1 h2; omega)))
  clear X1_36
  have W0_44 := Lib.hid ((W0_37.out.up (by repeat (first | exact Chg.refl _ _ | apply Chg.drew | apply Chg.drewN | refine Chg.alloc ?_ _))).keep G1.out (fun b hb h1 h2 => by simp only [New] at h1 h2; first | omega | (simp at h1 h2; omega)))
  clear W0_37
  have R0_45 := Lib.hid ((R0_39.out.up (by repeat (first | exact Chg.refl _ _ | apply Chg.drew | apply Chg.drewN | refine Chg.alloc ?_ _))).keep G1.out (fun b hb h1 h2 => by simp only [New] at h1 h2; first | omega | (simp at h1 h2; omega)))
  clear R0_39
  clear G1
  have hneg : decide (((1 : Int) + cntOps a1 : Int) < 0) = false := decide_eq_false (by omega)
  go_wp2_with fail
  refine (eqInts _ _ _ _ _ (savedOut a0 a1) (R0_45.out.up (by repeat (first | exact Chg.refl _ _ | apply Chg.drew | apply Chg.drewN | refine Chg.alloc ?_ _))) (W0_44.out.up (by repeat (first | exact Chg.refl _ _ | apply Chg.drew | apply Chg.drewN | refine Chg.alloc ?_ _)))).mono ?_
  rintro e w46 ⟨rfl, g1⟩
  have G1 := Lib.hid g1
  obtain ⟨hy46, hz46⟩ := up_prem (show Up w41 _ from (by repeat (first | exact Chg.refl _ _ | apply Chg.drew | apply Chg.drewN | refine Chg.alloc ?_ _))) G1.out
  clear g1
  have U_47 := Lib.hid (Chg.trans U_42.out (Chg.trans (by repeat (first | exact Chg.refl _ _ | apply Chg.drew | apply Chg.drewN | refine Chg.alloc ?_ _)) G1.out))
  clear U_42
  have X1_48 := Lib.hid (X1_43.out.up (Chg.trans (by repeat (first | exact Chg.refl _ _ | apply Chg.drew | apply Chg.drewN | refine Chg.alloc ?_ _)) G1.out))
  clear X1_43
  have W0_49 := Lib.hid (W0_44.out.up (Chg.trans (by repeat (first | exact Chg.refl _ _ | apply Chg.drew | apply Chg.drewN | refine Chg.alloc ?_ _)) G1.out))
  clear W0_44
  have R0_50 := Lib.hid (R0_45.out.up (Chg.trans (by repeat (first | exact Chg.refl _ _ | apply Chg.drew | apply Chg.drewN | refine Chg.alloc ?_ _)) G1.out))
  clear R0_45
  clear G1
  clear hneg
  have HR := Lib.hid (show cntInts (savedOut a0 a1) ≤ 9 by have := savedOut_len a0 a1; unfold cntInts; omega)
  have hr1_0 : (0 : Int) ≤ 1 := by omega
  have hr2_0 : (1 : Int) + cntInts (savedOut a0 a1) ≤ 4611686018427387904 := by have := HR.out; omega
  go_wp2_with fail
  refine (markInts _ _ _ (savedOut a0 a1) (1) hr1_0 hr2_0 (R0_50.out.up (by repeat (first | exact Chg.refl _ _ | apply Chg.drew | apply Chg.drewN | refine Chg.alloc ?_ _)))).mono ?_
  rintro e w51 ⟨rfl, g1, k1⟩
  have G1 := Lib.hid g1
  obtain ⟨hy51, hz51⟩ := up_prem (show Up w46 _ from (by repeat (first | exact Chg.refl _ _ | apply Chg.drew | apply Chg.drewN | refine Chg.alloc ?_ _))) G1.out
  have K1 := Lib.hid k1
  clear g1 k1
  clear R0_50
  have U_52 := Lib.hid (Chg.new (Chg.trans U_47.out (by repeat (first | exact Chg.refl _ _ | apply Chg.drew | apply Chg.drewN | refine Chg.alloc ?_ _))) G1.out (fun i hi h2 => by simp only [New] at h2; first | omega | (simp at h2; omega)))
  clear U_47
  have X1_53 := Lib.hid ((X1_48.out.up (by repeat (first | exact Chg.refl _ _ | apply Chg.drew | apply Chg.drewN | refine Chg.alloc ?_ _))).keep G1.out (fun b hb h1 h2 => by simp only [New] at h1 h2; first | omega | (simp at h1 h2; omega)))
  clear X1_48
  have W0_54 := Lib.hid ((W0_49.out.up (by repeat (first | exact Chg.refl _ _ | apply Chg.drew | apply Chg.drewN | refine Chg.alloc ?_ _))).keep G1.out (fun b hb h1 h2 => by simp only [New] at h1 h2; first | omega | (simp at h1 h2; omega)))
  clear W0_49
  clear G1
  have M0_55 := Lib.hid (K1.out)
  clear K1
  have hneg0 : decide ((1 : Int) + cntInts (savedOut a0 a1) < 0) = false := decide_eq_false (by omega)
  go_wp2_with fail
  refine (heldInts _ _ _ (savedOut a0 a1) (1) hr1_0 hr2_0 (M0_55.out.up (by repeat (first | exact Chg.refl _ _ | apply Chg.drew | apply Chg.drewN | refine Chg.alloc ?_ _)))).mono ?_
  rintro e w56 ⟨rfl, g1⟩
  have G1 := Lib.hid g1
  obtain ⟨hy56, hz56⟩ := up_prem (show Up w51 _ from (by repeat (first | exact Chg.refl _ _ | apply Chg.drew | apply Chg.drewN | refine Chg.alloc ?_ _))) G1.out
  clear g1
  have U_57 := Lib.hid (Chg.trans U_52.out (Chg.trans (by repeat (first | exact Chg.refl _ _ | apply Chg.drew | apply Chg.drewN | refine Chg.alloc ?_ _)) G1.out))
  clear U_52
  have X1_58 := Lib.hid (X1_53.out.up (Chg.trans (by repeat (first | exact Chg.refl _ _ | apply Chg.drew | apply Chg.drewN | refine Chg.alloc ?_ _)) G1.out))
  clear X1_53
  have W0_59 := Lib.hid (W0_54.out.up (Chg.trans (by repeat (first | exact Chg.refl _ _ | apply Chg.drew | apply Chg.drewN | refine Chg.alloc ?_ _)) G1.out))
  clear W0_54
  have M0_60 := Lib.hid (M0_55.out.up (Chg.trans (by repeat (first | exact Chg.refl _ _ | apply Chg.drew | apply Chg.drewN | refine Chg.alloc ?_ _)) G1.out))
  clear M0_55
  clear G1
  go_wp2_with fail
  refine (toOps _ _ _ a1 (by unfold cntOps; omega) (X1_58.out.up (by repeat (first | exact Chg.refl _ _ | apply Chg.drew | apply Chg.drewN | refine Chg.alloc ?_ _)))).mono ?_
  rintro e w61 ⟨v61, rfl, k1, g1⟩
  obtain ⟨A61, c61, rfl, hl61, hc61, -⟩ := k1.shape
  have K1 := Lib.hid k1
  clear k1
  have G1 := Lib.hid g1
  obtain ⟨hy61, hz61⟩ := up_prem (show Up w56 _ from (by repeat (first | exact Chg.refl _ _ | apply Chg.drew | apply Chg.drewN | refine Chg.alloc ?_ _))) G1.out
  clear g1
  have U_62 := Lib.hid (Chg.trans U_57.out (Chg.trans (by repeat (first | exact Chg.refl _ _ | apply Chg.drew | apply Chg.drewN | refine Chg.alloc ?_ _)) G1.out))
  clear U_57
  have X1_63 := Lib.hid (X1_58.out.up (Chg.trans (by repeat (first | exact Chg.refl _ _ | apply Chg.drew | apply Chg.drewN | refine Chg.alloc ?_ _)) G1.out))
  clear X1_58
  have W0_64 := Lib.hid (W0_59.out.up (Chg.trans (by repeat (first | exact Chg.refl _ _ | apply Chg.drew | apply Chg.drewN | refine Chg.alloc ?_ _)) G1.out))
  clear W0_59
  have M0_65 := Lib.hid (M0_60.out.up (Chg.trans (by repeat (first | exact Chg.refl _ _ | apply Chg.drew | apply Chg.drewN | refine Chg.alloc ?_ _)) G1.out))
  clear M0_60
  clear G1
  have E1_66 := Lib.hid (K1.out)
  clear K1
  go_wp2_with fail
  refine (SavedOpsT _ a0 _ _ a1 (E1_66.out.up (by repeat (first | exact Chg.refl _ _ | apply Chg.drew | apply Chg.drewN | refine Chg.alloc ?_ _)))).mono ?_
  rintro e w67 ⟨v67, rfl, k1, g1⟩
  obtain ⟨A67, c67, rfl, hl67, hc67, -⟩ := k1.shape
  have K1 := Lib.hid k1
  clear k1
  have G1 := Lib.hid g1
  obtain ⟨hy67, hz67⟩ := up_prem (show Up w61 _ from (by repeat (first | exact Chg.refl _ _ | apply Chg.drew | apply Chg.drewN | refine Chg.alloc ?_ _))) G1.out
  clear g1
  have U_68 := Lib.hid (Chg.trans U_62.out (Chg.trans (by repeat (first | exact Chg.refl _ _ | apply Chg.drew | apply Chg.drewN | refine Chg.alloc ?_ _)) G1.out))
  clear U_62
  have X1_69 := Lib.hid (X1_63.out.up (Chg.trans (by repeat (first | exact Chg.refl _ _ | apply Chg.drew | apply Chg.drewN | refine Chg.alloc ?_ _)) G1.out))
  clear X1_63
  have W0_70 := Lib.hid (W0_64.out.up (Chg.trans (by repeat (first | exact Chg.refl _ _ | apply Chg.drew | apply Chg.drewN | refine Chg.alloc ?_ _)) G1.out))
  clear W0_64
  have M0_71 := Lib.hid (M0_65.out.up (Chg.trans (by repeat (first | exact Chg.refl _ _ | apply Chg.drew | apply Chg.drewN | refine Chg.alloc ?_ _)) G1.out))
  clear M0_65
  have E1_72 := Lib.hid (E1_66.out.up (Chg.trans (by repeat (first | exact Chg.refl _ _ | apply Chg.drew | apply Chg.drewN | refine Chg.alloc ?_ _)) G1.out))
  clear E1_66
  clear G1
  have H0_73 := Lib.hid (K1.out)
  clear K1
  go_wp2_with fail
  refine (eqInts _ _ _ _ _ (savedOut a0 a1) (H0_73.out.up (by repeat (first | exact Chg.refl _ _ | apply Chg.drew | apply Chg.drewN | refine Chg.alloc ?_ _))) (W0_70.out.up (by repeat (first | exact Chg.refl _ _ | apply Chg.drew | apply Chg.drewN | refine Chg.alloc ?_ _)))).mono ?_
  rintro e w74 ⟨rfl, g1⟩
  have G1 := Lib.hid g1
  obtain ⟨hy74, hz74⟩ := up_prem (show Up w67 _ from (by repeat (first | exact Chg.refl _ _ | apply Chg.drew | apply Chg.drewN | refine Chg.alloc ?_ _))) G1.out
  clear g1
  have U_75 := Lib.hid (Chg.trans U_68.out (Chg.trans (by repeat (first | exact Chg.refl _ _ | apply Chg.drew | apply Chg.drewN | refine Chg.alloc ?_ _)) G1.out))
  clear U_68
  have X1_76 := Lib.hid (X1_69.out.up (Chg.trans (by repeat (first | exact Chg.refl _ _ | apply Chg.drew | apply Chg.drewN | refine Chg.alloc ?_ _)) G1.out))
  clear X1_69
  have W0_77 := Lib.hid (W0_70.out.up (Chg.trans (by repeat (first | exact Chg.refl _ _ | apply Chg.drew | apply Chg.drewN | refine Chg.alloc ?_ _)) G1.out))
  clear W0_70
  have M0_78 := Lib.hid (M0_71.out.up (Chg.trans (by repeat (first | exact Chg.refl _ _ | apply Chg.drew | apply Chg.drewN | refine Chg.alloc ?_ _)) G1.out))
  clear M0_71
  have E1_79 := Lib.hid (E1_72.out.up (Chg.trans (by repeat (first | exact Chg.refl _ _ | apply Chg.drew | apply Chg.drewN | refine Chg.alloc ?_ _)) G1.out))
  clear E1_72
  have H0_80 := Lib.hid (H0_73.out.up (Chg.trans (by repeat (first | exact Chg.refl _ _ | apply Chg.drew | apply Chg.drewN | refine Chg.alloc ?_ _)) G1.out))
  clear H0_73
  clear G1
  go_wp2_with fail
  refine (heldInts _ _ _ (savedOut a0 a1) (1) hr1_0 hr2_0 (M0_78.out.up (by repeat (first | exact Chg.refl _ _ | apply Chg.drew | apply Chg.drewN | refine Chg.alloc ?_ _)))).mono ?_
  rintro e w81 ⟨rfl, g1⟩
  have G1 := Lib.hid g1
  obtain ⟨hy81, hz81⟩ := up_prem (show Up w74 _ from (by repeat (first | exact Chg.refl _ _ | apply Chg.drew | apply Chg.drewN | refine Chg.alloc ?_ _))) G1.out
  clear g1
  have U_82 := Lib.hid (Chg.trans U_75.out (Chg.trans (by repeat (first | exact Chg.refl _ _ | apply Chg.drew | apply Chg.drewN | refine Chg.alloc ?_ _)) G1.out))
  clear U_75
  have X1_83 := Lib.hid (X1_76.out.up (Chg.trans (by repeat (first | exact Chg.refl _ _ | apply Chg.drew | apply Chg.drewN | refine Chg.alloc ?_ _)) G1.out))
  clear X1_76
  have W0_84 := Lib.hid (W0_77.out.up (Chg.trans (by repeat (first | exact Chg.refl _ _ | apply Chg.drew | apply Chg.drewN | refine Chg.alloc ?_ _)) G1.out))
  clear W0_77
  have M0_85 := Lib.hid (M0_78.out.up (Chg.trans (by repeat (first | exact Chg.refl _ _ | apply Chg.drew | apply Chg.drewN | refine Chg.alloc ?_ _)) G1.out))
  clear M0_78
  have E1_86 := Lib.hid (E1_79.out.up (Chg.trans (by repeat (first | exact Chg.refl _ _ | apply Chg.drew | apply Chg.drewN | refine Chg.alloc ?_ _)) G1.out))
  clear E1_79
  have H0_87 := Lib.hid (H0_80.out.up (Chg.trans (by repeat (first | exact Chg.refl _ _ | apply Chg.drew | apply Chg.drewN | refine Chg.alloc ?_ _)) G1.out))
  clear H0_80
  clear G1
  go_wp2
  go_ret
  exact ⟨rfl, Up.below (Chg.trans U_82.out (by repeat (first | exact Chg.refl _ _ | apply Chg.drew | apply Chg.drewN | refine Chg.alloc ?_ _)))⟩
set_option maxRecDepth 100000 in
theorem walk (w : World) (a0 : Int) (ia0 : I64 a0) (v1 : Value) (a1 : List OpM) (ha1 : Ops w (fun b => b < w.heap.size) v1 a1) :
    Calls Tryz.prog 4 #[.int .i64 a0, v1] w fun e w' => e = .returned (.bool true) ∧ Below w.heap.size w w' := by
  by_cases hbt : (a1.length : Int) ≤ 1048576
  rotate_left
  · skip
    have X1 := Lib.hid ha1
    have hd : decide ((-1 : Int) < 0) = true := rfl
    obtain ⟨A1, c1, rfl, -⟩ := ha1.shape
    go_enter Tryz.func4, Tryz.ntmps4
    go_wp2_with fail
    refine (szOps_no _ _ _ a1 1048576 (by omega) (by omega) X1.out).mono ?_
    rintro e _ ⟨rfl, rfl⟩
    go_wp2
    go_ret
    exact ⟨rfl, Below.refl _ _⟩
  exact walk0 w a0 ia0 v1 a1 ha1 hbt
end fnExactSavedOps
end Go.Proofs.YtiiodfcbpmkodaaGreat
