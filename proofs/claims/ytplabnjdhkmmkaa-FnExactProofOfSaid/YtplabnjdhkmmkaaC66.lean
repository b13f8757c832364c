/- The program's ProofOf answers as the reference's, for every list of events; what it is given stays as it was, and its memory is its own. No condition. -/
import Derived.Test.YtplabnjdhkmmkaaPrL
set_option linter.unusedSimpArgs false
set_option linter.unusedVariables false
set_option maxRecDepth 100000
set_option maxHeartbeats 8000000
namespace Go.Proofs.Ytplabnjdhkmmkaa
open Go.ChangeShapes Go.WideShapes Go.ChangeAt Go.RowKit
namespace fnExactProofOf
theorem walk0 (w : World) (v0 : Value) (a0 : List EvM) (ha0 : Evs w (fun b => b < w.heap.size) v0 a0)  (hbt : (a0.length : Int) ≤ 1048576) :
    Calls Try.prog 4 #[v0] w fun e w' => e = .returned (.bool true) ∧ Below w.heap.size w w' := by
  have U0 := Lib.hid (Chg.refl Nowhere w)
  obtain ⟨A0, c0, rfl, hl0, hc0, -⟩ := ha0.shape
  have X0 := Lib.hid ha0
  clear ha0
  have hr0 : a0.length ≤ 1048576 := by omega
  go_enter Try.func4, Try.ntmps4
  have hd0 : decide ((1048576 : Int) - a0.length < 0) = false := decide_eq_false (by omega)
  go_wp2_with fail
  refine (szEvs_ok _ _ _ a0 (1048576) (by omega) (by omega) (X0.out.up (by repeat (first | exact Chg.refl _ _ | apply Chg.drew | apply Chg.drewN | refine Chg.alloc ?_ _)))).mono ?_
  rintro e w' ⟨rfl, rfl⟩
  go_wp2_with fail
  refine (toEvs _ _ _ a0 (by unfold cntEvs; omega) (X0.out.up (by repeat (first | exact Chg.refl _ _ | apply Chg.drew | apply Chg.drewN | refine Chg.alloc ?_ _)))).mono ?_
  rintro e w1 ⟨v1, rfl, k1, g1⟩
  obtain ⟨A1, c1, rfl, hl1, hc1, -⟩ := k1.shape
  have K1 := Lib.hid k1
  clear k1
  have G1 := Lib.hid g1
  obtain ⟨hy1, hz1⟩ := up_pre (show Up w _ from (by repeat (first | exact Chg.refl _ _ | apply Chg.drew | apply Chg.drewN | refine Chg.alloc ?_ _))) G1.out
  clear g1
  have U_2 := Lib.hid (Chg.trans U0.out (Chg.trans (by repeat (first | exact Chg.refl _ _ | apply Chg.drew | apply Chg.drewN | refine Chg.alloc ?_ _)) G1.out))
  clear U0
  have X0_3 := Lib.hid (X0.out.up (Chg.trans (by repeat (first | exact Chg.refl _ _ | apply Chg.drew | apply Chg.drewN | refine Chg.alloc ?_ _)) G1.out))
  clear X0
  clear G1
  have B0_4 := Lib.hid (K1.out)
  clear K1
  go_wp2_with fail
  refine (sProofOf_A _ _ _ a0 (B0_4.out.up (by repeat (first | exact Chg.refl _ _ | apply Chg.drew | apply Chg.drewN | refine Chg.alloc ?_ _))) (by omega)).mono ?_
  rintro e w5 ⟨v5, rfl, k1, g1⟩
  have K1 := Lib.hid k1
  clear k1
  have G1 := Lib.hid g1
  obtain ⟨hy5, hz5⟩ := up_pre (show Up w1 _ from (by repeat (first | exact Chg.refl _ _ | apply Chg.drew | apply Chg.drewN | refine Chg.alloc ?_ _))) G1.out
  clear g1
  have U_6 := Lib.hid (Chg.trans U_2.out (Chg.trans (by repeat (first | exact Chg.refl _ _ | apply Chg.drew | apply Chg.drewN | refine Chg.alloc ?_ _)) G1.out))
  clear U_2
  have X0_7 := Lib.hid (X0_3.out.up (Chg.trans (by repeat (first | exact Chg.refl _ _ | apply Chg.drew | apply Chg.drewN | refine Chg.alloc ?_ _)) G1.out))
  clear X0_3
  have B0_8 := Lib.hid (B0_4.out.up (Chg.trans (by repeat (first | exact Chg.refl _ _ | apply Chg.drew | apply Chg.drewN | refine Chg.alloc ?_ _)) G1.out))
  clear B0_4
  clear G1
  have W0_9 := Lib.hid (K1.out)
  clear K1
  obtain ⟨As5, cs5, Zs5, zs5, rfl, ys5⟩ := openProofR W0_9.out
  clear ys5
  clear B0_8
  go_wp2_with fail
  refine (toEvs _ _ _ a0 (by unfold cntEvs; omega) (X0_7.out.up (by repeat (first | exact Chg.refl _ _ | apply Chg.drew | apply Chg.drewN | refine Chg.alloc ?_ _)))).mono ?_
  rintro e w10 ⟨v10, rfl, k1, g1⟩
  obtain ⟨A10, c10, rfl, hl10, hc10, -⟩ := k1.shape
  have K1 := Lib.hid k1
  clear k1
  have G1 := Lib.hid g1
  obtain ⟨hy10, hz10⟩ := up_pre (show Up w5 _ from (by repeat (first | exact Chg.refl _ _ | apply Chg.drew | apply Chg.drewN | refine Chg.alloc ?_ _))) G1.out
  clear g1
  have U_11 := Lib.hid (Chg.trans U_6.out (Chg.trans (by repeat (first | exact Chg.refl _ _ | apply Chg.drew | apply Chg.drewN | refine Chg.alloc ?_ _)) G1.out))
  clear U_6
  have X0_12 := Lib.hid (X0_7.out.up (Chg.trans (by repeat (first | exact Chg.refl _ _ | apply Chg.drew | apply Chg.drewN | refine Chg.alloc ?_ _)) G1.out))
  clear X0_7
  have W0_13 := Lib.hid (W0_9.out.up (Chg.trans (by repeat (first | exact Chg.refl _ _ | apply Chg.drew | apply Chg.drewN | refine Chg.alloc ?_ _)) G1.out))
  clear W0_9
  obtain ⟨W0_0_14c, W0_0_14f⟩ := (show CellF w10 ⟨w5.heap.size, 0, none⟩ (.slice As5 (prfM a0).forms.length cs5) from CellF.up G1.out (by repeat (first | ((refine cellF_at ?_ rfl); (simp; done)) | refine CellF.up ((Chg.refl _ _).alloc _) ?_)))
  obtain ⟨W0_1_15c, W0_1_15f⟩ := (show CellF w10 ⟨w5.heap.size, 1, none⟩ (.slice Zs5 (prfM a0).sts.length zs5) from CellF.up G1.out (by repeat (first | ((refine cellF_at ?_ rfl); (simp; done)) | refine CellF.up ((Chg.refl _ _).alloc _) ?_)))
  clear G1
  have C0_16 := Lib.hid (K1.out)
  clear K1
  have hbz17 : w5.heap.size < w10.heap.size := World.block_lt_of_cell? _ _ W0_0_14c
  go_wp2_with fail
  refine (pProofOf_A _ _ _ a0 (C0_16.out.up (by repeat (first | exact Chg.refl _ _ | apply Chg.drew | apply Chg.drewN | refine Chg.alloc ?_ _))) (by omega)).mono ?_
  rintro e w18 ⟨v18, rfl, k1, g1⟩
  have K1 := Lib.hid k1
  clear k1
  have G1 := Lib.hid g1
  obtain ⟨hy18, hz18⟩ := up_pre (show Up w10 _ from (by repeat (first | exact Chg.refl _ _ | apply Chg.drew | apply Chg.drewN | refine Chg.alloc ?_ _))) G1.out
  clear g1
  have U_19 := Lib.hid (Chg.trans U_11.out (Chg.trans (by repeat (first | exact Chg.refl _ _ | apply Chg.drew | apply Chg.drewN | refine Chg.alloc ?_ _)) G1.out))
  clear U_11
  have X0_20 := Lib.hid (X0_12.out.up (Chg.trans (by repeat (first | exact Chg.refl _ _ | apply Chg.drew | apply Chg.drewN | refine Chg.alloc ?_ _)) G1.out))
  clear X0_12
  have W0_21 := Lib.hid (W0_13.out.up (Chg.trans (by repeat (first | exact Chg.refl _ _ | apply Chg.drew | apply Chg.drewN | refine Chg.alloc ?_ _)) G1.out))
  clear W0_13
  obtain ⟨W0_0_22c, W0_0_22f⟩ := CellF.up (Chg.trans (by repeat (first | exact Chg.refl _ _ | apply Chg.drew | apply Chg.drewN | refine Chg.alloc ?_ _)) G1.out) ⟨W0_0_14c, W0_0_14f⟩
  clear W0_0_14c W0_0_14f
  obtain ⟨W0_1_23c, W0_1_23f⟩ := CellF.up (Chg.trans (by repeat (first | exact Chg.refl _ _ | apply Chg.drew | apply Chg.drewN | refine Chg.alloc ?_ _)) G1.out) ⟨W0_1_15c, W0_1_15f⟩
  clear W0_1_15c W0_1_15f
  have C0_24 := Lib.hid (C0_16.out.up (Chg.trans (by repeat (first | exact Chg.refl _ _ | apply Chg.drew | apply Chg.drewN | refine Chg.alloc ?_ _)) G1.out))
  clear C0_16
  clear G1
  have R0_25 := Lib.hid (K1.out)
  clear K1
  obtain ⟨As18, cs18, Zs18, zs18, rfl, ys18⟩ := openProofR R0_25.out
  clear ys18
  have hbr18_0 : w5.heap.size < w18.heap.size := by omega
  go_wp2_with fail
  refine (eqProofR_same _ _ _ _ _ (prfM a0) (R0_25.out.up (by repeat (first | exact Chg.refl _ _ | apply Chg.drew | apply Chg.drewN | refine Chg.alloc ?_ _))) (W0_21.out.up (by repeat (first | exact Chg.refl _ _ | apply Chg.drew | apply Chg.drewN | refine Chg.alloc ?_ _)))).mono ?_
  rintro e w26 ⟨rfl, g1⟩
  have G1 := Lib.hid g1
  obtain ⟨hy26, hz26⟩ := up_pre (show Up w18 _ from (by repeat (first | exact Chg.refl _ _ | apply Chg.drew | apply Chg.drewN | refine Chg.alloc ?_ _))) G1.out
  clear g1
  have U_27 := Lib.hid (Chg.trans U_19.out (Chg.trans (by repeat (first | exact Chg.refl _ _ | apply Chg.drew | apply Chg.drewN | refine Chg.alloc ?_ _)) G1.out))
  clear U_19
  have X0_28 := Lib.hid (X0_20.out.up (Chg.trans (by repeat (first | exact Chg.refl _ _ | apply Chg.drew | apply Chg.drewN | refine Chg.alloc ?_ _)) G1.out))
  clear X0_20
  have W0_29 := Lib.hid (W0_21.out.up (Chg.trans (by repeat (first | exact Chg.refl _ _ | apply Chg.drew | apply Chg.drewN | refine Chg.alloc ?_ _)) G1.out))
  clear W0_21
  obtain ⟨W0_0_30c, W0_0_30f⟩ := CellF.up (Chg.trans (by repeat (first | exact Chg.refl _ _ | apply Chg.drew | apply Chg.drewN | refine Chg.alloc ?_ _)) G1.out) ⟨W0_0_22c, W0_0_22f⟩
  clear W0_0_22c W0_0_22f
  obtain ⟨W0_1_31c, W0_1_31f⟩ := CellF.up (Chg.trans (by repeat (first | exact Chg.refl _ _ | apply Chg.drew | apply Chg.drewN | refine Chg.alloc ?_ _)) G1.out) ⟨W0_1_23c, W0_1_23f⟩
  clear W0_1_23c W0_1_23f
  have C0_32 := Lib.hid (C0_24.out.up (Chg.trans (by repeat (first | exact Chg.refl _ _ | apply Chg.drew | apply Chg.drewN | refine Chg.alloc ?_ _)) G1.out))
  clear C0_24
  have R0_33 := Lib.hid (R0_25.out.up (Chg.trans (by repeat (first | exact Chg.refl _ _ | apply Chg.drew | apply Chg.drewN | refine Chg.alloc ?_ _)) G1.out))
  clear R0_25
  obtain ⟨R0_0_34c, R0_0_34f⟩ := (show CellF w26 ⟨w18.heap.size, 0, none⟩ (.slice As18 (prfM a0).forms.length cs18) from CellF.up G1.out (by repeat (first | ((refine cellF_at ?_ rfl); (simp; done)) | refine CellF.up ((Chg.refl _ _).alloc _) ?_)))
  obtain ⟨R0_1_35c, R0_1_35f⟩ := (show CellF w26 ⟨w18.heap.size, 1, none⟩ (.slice Zs18 (prfM a0).sts.length zs18) from CellF.up G1.out (by repeat (first | ((refine cellF_at ?_ rfl); (simp; done)) | refine CellF.up ((Chg.refl _ _).alloc _) ?_)))
  clear G1
  have hbz36 : w18.heap.size < w26.heap.size := World.block_lt_of_cell? _ _ R0_0_34c
  go_wp2_with fail
  refine (toEvs _ _ _ a0 (by unfold cntEvs; omega) (X0_28.out.up (by repeat (first | exact Chg.refl _ _ | apply Chg.drew | apply Chg.drewN | refine Chg.alloc ?_ _)))).mono ?_
  rintro e w37 ⟨v37, rfl, k1, g1⟩
  obtain ⟨A37, c37, rfl, hl37, hc37, -⟩ := k1.shape
  have K1 := Lib.hid k1
  clear k1
  have G1 := Lib.hid g1
  obtain ⟨hy37, hz37⟩ := up_pre (show Up w26 _ from (by repeat (first | exact Chg.refl _ _ | apply Chg.drew | apply Chg.drewN | refine Chg.alloc ?_ _))) G1.out
  clear g1
  have U_38 := Lib.hid (Chg.trans U_27.out (Chg.trans (by repeat (first | exact Chg.refl _ _ | apply Chg.drew | apply Chg.drewN | refine Chg.alloc ?_ _)) G1.out))
  clear U_27
  have X0_39 := Lib.hid (X0_28.out.up (Chg.trans (by repeat (first | exact Chg.refl _ _ | apply Chg.drew | apply Chg.drewN | refine Chg.alloc ?_ _)) G1.out))
  clear X0_28
  have W0_40 := Lib.hid (W0_29.out.up (Chg.trans (by repeat (first | exact Chg.refl _ _ | apply Chg.drew | apply Chg.drewN | refine Chg.alloc ?_ _)) G1.out))
  clear W0_29
  obtain ⟨W0_0_41c, W0_0_41f⟩ := CellF.up (Chg.trans (by repeat (first | exact Chg.refl _ _ | apply Chg.drew | apply Chg.drewN | refine Chg.alloc ?_ _)) G1.out) ⟨W0_0_30c, W0_0_30f⟩
  clear W0_0_30c W0_0_30f
  obtain ⟨W0_1_42c, W0_1_42f⟩ := CellF.up (Chg.trans (by repeat (first | exact Chg.refl _ _ | apply Chg.drew | apply Chg.drewN | refine Chg.alloc ?_ _)) G1.out) ⟨W0_1_31c, W0_1_31f⟩
  clear W0_1_31c W0_1_31f
  have C0_43 := Lib.hid (C0_32.out.up (Chg.trans (by repeat (first | exact Chg.refl _ _ | apply Chg.drew | apply Chg.drewN | refine Chg.alloc ?_ _)) G1.out))
  clear C0_32
  have R0_44 := Lib.hid (R0_33.out.up (Chg.trans (by repeat (first | exact Chg.refl _ _ | apply Chg.drew | apply Chg.drewN | refine Chg.alloc ?_ _)) G1.out))
  clear R0_33
  obtain ⟨R0_0_45c, R0_0_45f⟩ := CellF.up (Chg.trans (by repeat (first | exact Chg.refl _ _ | apply Chg.drew | apply Chg.drewN | refine Chg.alloc ?_ _)) G1.out) ⟨R0_0_34c, R0_0_34f⟩
  clear R0_0_34c R0_0_34f
  obtain ⟨R0_1_46c, R0_1_46f⟩ := CellF.up (Chg.trans (by repeat (first | exact Chg.refl _ _ | apply Chg.drew | apply Chg.drewN | refine Chg.alloc ?_ _)) G1.out) ⟨R0_1_35c, R0_1_35f⟩
  clear R0_1_35c R0_1_35f
  clear G1
  have D0_47 := Lib.hid (K1.out)
  clear K1
  go_wp2_with fail
  refine (eqEvs _ _ _ _ _ a0 (C0_43.out.up (by repeat (first | exact Chg.refl _ _ | apply Chg.drew | apply Chg.drewN | refine Chg.alloc ?_ _))) (D0_47.out.up (by repeat (first | exact Chg.refl _ _ | apply Chg.drew | apply Chg.drewN | refine Chg.alloc ?_ _)))).mono ?_
  rintro e w48 ⟨rfl, g1⟩
  have G1 := Lib.hid g1
  obtain ⟨hy48, hz48⟩ := up_pre (show Up w37 _ from (by repeat (first | exact Chg.refl _ _ | apply Chg.drew | apply Chg.drewN | refine Chg.alloc ?_ _))) G1.out
  clear g1
  have U_49 := Lib.hid (Chg.trans U_38.out (Chg.trans (by repeat (first | exact Chg.refl _ _ | apply Chg.drew | apply Chg.drewN | refine Chg.alloc ?_ _)) G1.out))
  clear U_38
  have X0_50 := Lib.hid (X0_39.out.up (Chg.trans (by repeat (first | exact Chg.refl _ _ | apply Chg.drew | apply Chg.drewN | refine Chg.alloc ?_ _)) G1.out))
  clear X0_39
  have W0_51 := Lib.hid (W0_40.out.up (Chg.trans (by repeat (first | exact Chg.refl _ _ | apply Chg.drew | apply Chg.drewN | refine Chg.alloc ?_ _)) G1.out))
  clear W0_40
  obtain ⟨W0_0_52c, W0_0_52f⟩ := CellF.up (Chg.trans (by repeat (first | exact Chg.refl _ _ | apply Chg.drew | apply Chg.drewN | refine Chg.alloc ?_ _)) G1.out) ⟨W0_0_41c, W0_0_41f⟩
  clear W0_0_41c W0_0_41f
  obtain ⟨W0_1_53c, W0_1_53f⟩ := CellF.up (Chg.trans (by repeat (first | exact Chg.refl _ _ | apply Chg.drew | apply Chg.drewN | refine Chg.alloc ?_ _)) G1.out) ⟨W0_1_42c, W0_1_42f⟩
  clear W0_1_42c W0_1_42f
  have C0_54 := Lib.hid (C0_43.out.up (Chg.trans (by repeat (first | exact Chg.refl _ _ | apply Chg.drew | apply Chg.drewN | refine Chg.alloc ?_ _)) G1.out))
  clear C0_43
  have R0_55 := Lib.hid (R0_44.out.up (Chg.trans (by repeat (first | exact Chg.refl _ _ | apply Chg.drew | apply Chg.drewN | refine Chg.alloc ?_ _)) G1.out))
  clear R0_44
  obtain ⟨R0_0_56c, R0_0_56f⟩ := CellF.up (Chg.trans (by repeat (first | exact Chg.refl _ _ | apply Chg.drew | apply Chg.drewN | refine Chg.alloc ?_ _)) G1.out) ⟨R0_0_45c, R0_0_45f⟩
  clear R0_0_45c R0_0_45f
  obtain ⟨R0_1_57c, R0_1_57f⟩ := CellF.up (Chg.trans (by repeat (first | exact Chg.refl _ _ | apply Chg.drew | apply Chg.drewN | refine Chg.alloc ?_ _)) G1.out) ⟨R0_1_46c, R0_1_46f⟩
  clear R0_1_46c R0_1_46f
  have D0_58 := Lib.hid (D0_47.out.up (Chg.trans (by repeat (first | exact Chg.refl _ _ | apply Chg.drew | apply Chg.drewN | refine Chg.alloc ?_ _)) G1.out))
  clear D0_47
  clear G1
  clear D0_58
  have hp0 : (0 : Int) ≤ (1 : Int) := by omega
  have hr0' : cntEvs a0 ≤ 8388608 := by unfold cntEvs; omega
  have hq0 : (1 : Int) + cntEvs a0 ≤ 4611686018427387904 := by omega
  go_wp2_with fail
  refine (markEvs _ _ _ a0 ((1 : Int)) hp0 hq0 (C0_54.out.up (by repeat (first | exact Chg.refl _ _ | apply Chg.drew | apply Chg.drewN | refine Chg.alloc ?_ _)))).mono ?_
  rintro e w59 ⟨rfl, g1, -⟩
  have G1 := Lib.hid g1
  obtain ⟨hy59, hz59⟩ := up_pre (show Up w48 _ from (by repeat (first | exact Chg.refl _ _ | apply Chg.drew | apply Chg.drewN | refine Chg.alloc ?_ _))) G1.out
  clear g1
  clear C0_54
  have U_60 := Lib.hid (Chg.new (Chg.trans U_49.out (by repeat (first | exact Chg.refl _ _ | apply Chg.drew | apply Chg.drewN | refine Chg.alloc ?_ _))) G1.out (fun i hi h2 => by simp only [New] at h2; first | omega | (simp at h2; omega)))
  clear U_49
  have X0_61 := Lib.hid ((X0_50.out.up (by repeat (first | exact Chg.refl _ _ | apply Chg.drew | apply Chg.drewN | refine Chg.alloc ?_ _))).keep G1.out (fun b hb h1 h2 => by simp only [New] at h1 h2; first | omega | (simp at h1 h2; omega)))
  clear X0_50
  have W0_62 := Lib.hid ((W0_51.out.up (by repeat (first | exact Chg.refl _ _ | apply Chg.drew | apply Chg.drewN | refine Chg.alloc ?_ _))).keep G1.out (fun b hb h1 h2 => by simp only [New] at h1 h2; first | omega | (simp at h1 h2; omega)))
  clear W0_51
  obtain ⟨W0_0_63c, W0_0_63f⟩ := CellF.keep G1.out (CellF.up (by repeat (first | exact Chg.refl _ _ | apply Chg.drew | apply Chg.drewN | refine Chg.alloc ?_ _)) ⟨W0_0_52c, W0_0_52f⟩) (fun h2 => by simp only [New] at h2; first | omega | (simp at h2; omega))
  clear W0_0_52c W0_0_52f
  obtain ⟨W0_1_64c, W0_1_64f⟩ := CellF.keep G1.out (CellF.up (by repeat (first | exact Chg.refl _ _ | apply Chg.drew | apply Chg.drewN | refine Chg.alloc ?_ _)) ⟨W0_1_53c, W0_1_53f⟩) (fun h2 => by simp only [New] at h2; first | omega | (simp at h2; omega))
  clear W0_1_53c W0_1_53f
  have R0_65 := Lib.hid ((R0_55.out.up (by repeat (first | exact Chg.refl _ _ | apply Chg.drew | apply Chg.drewN | refine Chg.alloc ?_ _))).keep G1.out (fun b hb h1 h2 => by simp only [New] at h1 h2; first | omega | (simp at h1 h2; omega)))
  clear R0_55
  obtain ⟨R0_0_66c, R0_0_66f⟩ := CellF.keep G1.out (CellF.up (by repeat (first | exact Chg.refl _ _ | apply Chg.drew | apply Chg.drewN | refine Chg.alloc ?_ _)) ⟨R0_0_56c, R0_0_56f⟩) (fun h2 => by simp only [New] at h2; first | omega | (simp at h2; omega))
  clear R0_0_56c R0_0_56f
  obtain ⟨R0_1_67c, R0_1_67f⟩ := CellF.keep G1.out (CellF.up (by repeat (first | exact Chg.refl _ _ | apply Chg.drew | apply Chg.drewN | refine Chg.alloc ?_ _)) ⟨R0_1_57c, R0_1_57f⟩) (fun h2 => by simp only [New] at h2; first | omega | (simp at h2; omega))
  clear R0_1_57c R0_1_57f
  clear G1
  have hneg : decide (((1 : Int) + cntEvs a0 : Int) < 0) = false := decide_eq_false (by omega)
  go_wp2_with fail
  refine (eqProofR_same _ _ _ _ _ (prfM a0) (R0_65.out.up (by repeat (first | exact Chg.refl _ _ | apply Chg.drew | apply Chg.drewN | refine Chg.alloc ?_ _))) (W0_62.out.up (by repeat (first | exact Chg.refl _ _ | apply Chg.drew | apply Chg.drewN | refine Chg.alloc ?_ _)))).mono ?_
  rintro e w68 ⟨rfl, g1⟩
  have G1 := Lib.hid g1
  obtain ⟨hy68, hz68⟩ := up_pre (show Up w59 _ from (by repeat (first | exact Chg.refl _ _ | apply Chg.drew | apply Chg.drewN | refine Chg.alloc ?_ _))) G1.out
  clear g1
  have U_69 := Lib.hid (Chg.trans U_60.out (Chg.trans (by repeat (first | exact Chg.refl _ _ | apply Chg.drew | apply Chg.drewN | refine Chg.alloc ?_ _)) G1.out))
  clear U_60
  have X0_70 := Lib.hid (X0_61.out.up (Chg.trans (by repeat (first | exact Chg.refl _ _ | apply Chg.drew | apply Chg.drewN | refine Chg.alloc ?_ _)) G1.out))
  clear X0_61
  have W0_71 := Lib.hid (W0_62.out.up (Chg.trans (by repeat (first | exact Chg.refl _ _ | apply Chg.drew | apply Chg.drewN | refine Chg.alloc ?_ _)) G1.out))
  clear W0_62
  obtain ⟨W0_0_72c, W0_0_72f⟩ := CellF.up (Chg.trans (by repeat (first | exact Chg.refl _ _ | apply Chg.drew | apply Chg.drewN | refine Chg.alloc ?_ _)) G1.out) ⟨W0_0_63c, W0_0_63f⟩
  clear W0_0_63c W0_0_63f
  obtain ⟨W0_1_73c, W0_1_73f⟩ := CellF.up (Chg.trans (by repeat (first | exact Chg.refl _ _ | apply Chg.drew | apply Chg.drewN | refine Chg.alloc ?_ _)) G1.out) ⟨W0_1_64c, W0_1_64f⟩
  clear W0_1_64c W0_1_64f
  have R0_74 := Lib.hid (R0_65.out.up (Chg.trans (by repeat (first | exact Chg.refl _ _ | apply Chg.drew | apply Chg.drewN | refine Chg.alloc ?_ _)) G1.out))
  clear R0_65
  obtain ⟨R0_0_75c, R0_0_75f⟩ := CellF.up (Chg.trans (by repeat (first | exact Chg.refl _ _ | apply Chg.drew | apply Chg.drewN | refine Chg.alloc ?_ _)) G1.out) ⟨R0_0_66c, R0_0_66f⟩
  clear R0_0_66c R0_0_66f
  obtain ⟨R0_1_76c, R0_1_76f⟩ := CellF.up (Chg.trans (by repeat (first | exact Chg.refl _ _ | apply Chg.drew | apply Chg.drewN | refine Chg.alloc ?_ _)) G1.out) ⟨R0_1_67c, R0_1_67f⟩
  clear R0_1_67c R0_1_67f
  clear G1
  clear hneg
  have HR := Lib.hid (show cntProof (prfM a0) ≤ 9000000 from prfM_cnt a0)
  have hr1_0 : (0 : Int) ≤ 1 := by omega
  have hr2_0 : (1 : Int) + cntProof (prfM a0) ≤ 4611686018427387904 := by have := HR.out; omega
  go_wp2_with fail
  refine (markProof_res _ _ _ (prfM a0) (1) hr1_0 hr2_0 (R0_74.out.up (by repeat (first | exact Chg.refl _ _ | apply Chg.drew | apply Chg.drewN | refine Chg.alloc ?_ _)))).mono ?_
  rintro e w77 ⟨rfl, g1, k1⟩
  have G1 := Lib.hid g1
  obtain ⟨hy77, hz77⟩ := up_pre (show Up w68 _ from (by repeat (first | exact Chg.refl _ _ | apply Chg.drew | apply Chg.drewN | refine Chg.alloc ?_ _))) G1.out
  have K1 := Lib.hid k1
  clear g1 k1
  clear R0_74
  have U_78 := Lib.hid (Chg.new (Chg.trans U_69.out (by repeat (first | exact Chg.refl _ _ | apply Chg.drew | apply Chg.drewN | refine Chg.alloc ?_ _))) G1.out (fun i hi h2 => by simp only [New] at h2; first | omega | (simp at h2; omega)))
  clear U_69
  have X0_79 := Lib.hid ((X0_70.out.up (by repeat (first | exact Chg.refl _ _ | apply Chg.drew | apply Chg.drewN | refine Chg.alloc ?_ _))).keep G1.out (fun b hb h1 h2 => by simp only [New] at h1 h2; first | omega | (simp at h1 h2; omega)))
  clear X0_70
  have W0_80 := Lib.hid ((W0_71.out.up (by repeat (first | exact Chg.refl _ _ | apply Chg.drew | apply Chg.drewN | refine Chg.alloc ?_ _))).keep G1.out (fun b hb h1 h2 => by simp only [New] at h1 h2; first | omega | (simp at h1 h2; omega)))
  clear W0_71
  obtain ⟨W0_0_81c, W0_0_81f⟩ := CellF.keep G1.out (CellF.up (by repeat (first | exact Chg.refl _ _ | apply Chg.drew | apply Chg.drewN | refine Chg.alloc ?_ _)) ⟨W0_0_72c, W0_0_72f⟩) (fun h2 => by simp only [New] at h2; first | omega | (simp at h2; omega))
  clear W0_0_72c W0_0_72f
  obtain ⟨W0_1_82c, W0_1_82f⟩ := CellF.keep G1.out (CellF.up (by repeat (first | exact Chg.refl _ _ | apply Chg.drew | apply Chg.drewN | refine Chg.alloc ?_ _)) ⟨W0_1_73c, W0_1_73f⟩) (fun h2 => by simp only [New] at h2; first | omega | (simp at h2; omega))
  clear W0_1_73c W0_1_73f
  obtain ⟨R0_0_83c, R0_0_83f⟩ := CellF.keep G1.out (CellF.up (by repeat (first | exact Chg.refl _ _ | apply Chg.drew | apply Chg.drewN | refine Chg.alloc ?_ _)) ⟨R0_0_75c, R0_0_75f⟩) (fun h2 => by simp only [New] at h2; first | omega | (simp at h2; omega))
  clear R0_0_75c R0_0_75f
  obtain ⟨R0_1_84c, R0_1_84f⟩ := CellF.keep G1.out (CellF.up (by repeat (first | exact Chg.refl _ _ | apply Chg.drew | apply Chg.drewN | refine Chg.alloc ?_ _)) ⟨R0_1_76c, R0_1_76f⟩) (fun h2 => by simp only [New] at h2; first | omega | (simp at h2; omega))
  clear R0_1_76c R0_1_76f
  clear G1
  have M0_85 := Lib.hid (K1.out)
  clear K1
  have hneg0 : decide ((1 : Int) + cntProof (prfM a0) < 0) = false := decide_eq_false (by omega)
  go_wp2_with fail
  refine (heldProof_any _ _ _ (prfM a0) (1) hr1_0 hr2_0 (M0_85.out.up (by repeat (first | exact Chg.refl _ _ | apply Chg.drew | apply Chg.drewN | refine Chg.alloc ?_ _)))).mono ?_
  rintro e w86 ⟨rfl, g1⟩
  have G1 := Lib.hid g1
  obtain ⟨hy86, hz86⟩ := up_pre (show Up w77 _ from (by repeat (first | exact Chg.refl _ _ | apply Chg.drew | apply Chg.drewN | refine Chg.alloc ?_ _))) G1.out
  clear g1
  have U_87 := Lib.hid (Chg.trans U_78.out (Chg.trans (by repeat (first | exact Chg.refl _ _ | apply Chg.drew | apply Chg.drewN | refine Chg.alloc ?_ _)) G1.out))
  clear U_78
  have X0_88 := Lib.hid (X0_79.out.up (Chg.trans (by repeat (first | exact Chg.refl _ _ | apply Chg.drew | apply Chg.drewN | refine Chg.alloc ?_ _)) G1.out))
  clear X0_79
  have W0_89 := Lib.hid (W0_80.out.up (Chg.trans (by repeat (first | exact Chg.refl _ _ | apply Chg.drew | apply Chg.drewN | refine Chg.alloc ?_ _)) G1.out))
  clear W0_80
  obtain ⟨W0_0_90c, W0_0_90f⟩ := CellF.up (Chg.trans (by repeat (first | exact Chg.refl _ _ | apply Chg.drew | apply Chg.drewN | refine Chg.alloc ?_ _)) G1.out) ⟨W0_0_81c, W0_0_81f⟩
  clear W0_0_81c W0_0_81f
  obtain ⟨W0_1_91c, W0_1_91f⟩ := CellF.up (Chg.trans (by repeat (first | exact Chg.refl _ _ | apply Chg.drew | apply Chg.drewN | refine Chg.alloc ?_ _)) G1.out) ⟨W0_1_82c, W0_1_82f⟩
  clear W0_1_82c W0_1_82f
  obtain ⟨R0_0_92c, R0_0_92f⟩ := CellF.up (Chg.trans (by repeat (first | exact Chg.refl _ _ | apply Chg.drew | apply Chg.drewN | refine Chg.alloc ?_ _)) G1.out) ⟨R0_0_83c, R0_0_83f⟩
  clear R0_0_83c R0_0_83f
  obtain ⟨R0_1_93c, R0_1_93f⟩ := CellF.up (Chg.trans (by repeat (first | exact Chg.refl _ _ | apply Chg.drew | apply Chg.drewN | refine Chg.alloc ?_ _)) G1.out) ⟨R0_1_84c, R0_1_84f⟩
  clear R0_1_84c R0_1_84f
  have M0_94 := Lib.hid (M0_85.out.up (Chg.trans (by repeat (first | exact Chg.refl _ _ | apply Chg.drew | apply Chg.drewN | refine Chg.alloc ?_ _)) G1.out))
  clear M0_85
  clear G1
  go_wp2_with fail
  refine (toEvs _ _ _ a0 (by unfold cntEvs; omega) (X0_88.out.up (by repeat (first | exact Chg.refl _ _ | apply Chg.drew | apply Chg.drewN | refine Chg.alloc ?_ _)))).mono ?_
  rintro e w95 ⟨v95, rfl, k1, g1⟩
  obtain ⟨A95, c95, rfl, hl95, hc95, -⟩ := k1.shape
  have K1 := Lib.hid k1
  clear k1
  have G1 := Lib.hid g1
  obtain ⟨hy95, hz95⟩ := up_pre (show Up w86 _ from (by repeat (first | exact Chg.refl _ _ | apply Chg.drew | apply Chg.drewN | refine Chg.alloc ?_ _))) G1.out
  clear g1
  have U_96 := Lib.hid (Chg.trans U_87.out (Chg.trans (by repeat (first | exact Chg.refl _ _ | apply Chg.drew | apply Chg.drewN | refine Chg.alloc ?_ _)) G1.out))
  clear U_87
  have X0_97 := Lib.hid (X0_88.out.up (Chg.trans (by repeat (first | exact Chg.refl _ _ | apply Chg.drew | apply Chg.drewN | refine Chg.alloc ?_ _)) G1.out))
  clear X0_88
  have W0_98 := Lib.hid (W0_89.out.up (Chg.trans (by repeat (first | exact Chg.refl _ _ | apply Chg.drew | apply Chg.drewN | refine Chg.alloc ?_ _)) G1.out))
  clear W0_89
  obtain ⟨W0_0_99c, W0_0_99f⟩ := CellF.up (Chg.trans (by repeat (first | exact Chg.refl _ _ | apply Chg.drew | apply Chg.drewN | refine Chg.alloc ?_ _)) G1.out) ⟨W0_0_90c, W0_0_90f⟩
  clear W0_0_90c W0_0_90f
  obtain ⟨W0_1_100c, W0_1_100f⟩ := CellF.up (Chg.trans (by repeat (first | exact Chg.refl _ _ | apply Chg.drew | apply Chg.drewN | refine Chg.alloc ?_ _)) G1.out) ⟨W0_1_91c, W0_1_91f⟩
  clear W0_1_91c W0_1_91f
  obtain ⟨R0_0_101c, R0_0_101f⟩ := CellF.up (Chg.trans (by repeat (first | exact Chg.refl _ _ | apply Chg.drew | apply Chg.drewN | refine Chg.alloc ?_ _)) G1.out) ⟨R0_0_92c, R0_0_92f⟩
  clear R0_0_92c R0_0_92f
  obtain ⟨R0_1_102c, R0_1_102f⟩ := CellF.up (Chg.trans (by repeat (first | exact Chg.refl _ _ | apply Chg.drew | apply Chg.drewN | refine Chg.alloc ?_ _)) G1.out) ⟨R0_1_93c, R0_1_93f⟩
  clear R0_1_93c R0_1_93f
  have M0_103 := Lib.hid (M0_94.out.up (Chg.trans (by repeat (first | exact Chg.refl _ _ | apply Chg.drew | apply Chg.drewN | refine Chg.alloc ?_ _)) G1.out))
  clear M0_94
  clear G1
  have E0_104 := Lib.hid (K1.out)
  clear K1
  go_wp2_with fail
  refine (pProofOf_A _ _ _ a0 (E0_104.out.up (by repeat (first | exact Chg.refl _ _ | apply Chg.drew | apply Chg.drewN | refine Chg.alloc ?_ _))) (by omega)).mono ?_
  rintro e w105 ⟨v105, rfl, k1, g1⟩
  have K1 := Lib.hid k1
  clear k1
  have G1 := Lib.hid g1
  obtain ⟨hy105, hz105⟩ := up_pre (show Up w95 _ from (by repeat (first | exact Chg.refl _ _ | apply Chg.drew | apply Chg.drewN | refine Chg.alloc ?_ _))) G1.out
  clear g1
  have U_106 := Lib.hid (Chg.trans U_96.out (Chg.trans (by repeat (first | exact Chg.refl _ _ | apply Chg.drew | apply Chg.drewN | refine Chg.alloc ?_ _)) G1.out))
  clear U_96
  have X0_107 := Lib.hid (X0_97.out.up (Chg.trans (by repeat (first | exact Chg.refl _ _ | apply Chg.drew | apply Chg.drewN | refine Chg.alloc ?_ _)) G1.out))
  clear X0_97
  have W0_108 := Lib.hid (W0_98.out.up (Chg.trans (by repeat (first | exact Chg.refl _ _ | apply Chg.drew | apply Chg.drewN | refine Chg.alloc ?_ _)) G1.out))
  clear W0_98
  obtain ⟨W0_0_109c, W0_0_109f⟩ := CellF.up (Chg.trans (by repeat (first | exact Chg.refl _ _ | apply Chg.drew | apply Chg.drewN | refine Chg.alloc ?_ _)) G1.out) ⟨W0_0_99c, W0_0_99f⟩
  clear W0_0_99c W0_0_99f
  obtain ⟨W0_1_110c, W0_1_110f⟩ := CellF.up (Chg.trans (by repeat (first | exact Chg.refl _ _ | apply Chg.drew | apply Chg.drewN | refine Chg.alloc ?_ _)) G1.out) ⟨W0_1_100c, W0_1_100f⟩
  clear W0_1_100c W0_1_100f
  obtain ⟨R0_0_111c, R0_0_111f⟩ := CellF.up (Chg.trans (by repeat (first | exact Chg.refl _ _ | apply Chg.drew | apply Chg.drewN | refine Chg.alloc ?_ _)) G1.out) ⟨R0_0_101c, R0_0_101f⟩
  clear R0_0_101c R0_0_101f
  obtain ⟨R0_1_112c, R0_1_112f⟩ := CellF.up (Chg.trans (by repeat (first | exact Chg.refl _ _ | apply Chg.drew | apply Chg.drewN | refine Chg.alloc ?_ _)) G1.out) ⟨R0_1_102c, R0_1_102f⟩
  clear R0_1_102c R0_1_102f
  have M0_113 := Lib.hid (M0_103.out.up (Chg.trans (by repeat (first | exact Chg.refl _ _ | apply Chg.drew | apply Chg.drewN | refine Chg.alloc ?_ _)) G1.out))
  clear M0_103
  have E0_114 := Lib.hid (E0_104.out.up (Chg.trans (by repeat (first | exact Chg.refl _ _ | apply Chg.drew | apply Chg.drewN | refine Chg.alloc ?_ _)) G1.out))
  clear E0_104
  clear G1
  have H0_115 := Lib.hid (K1.out)
  clear K1
  obtain ⟨As105, cs105, Zs105, zs105, rfl, ys105⟩ := openProofR H0_115.out
  clear ys105
  have hbr105_0 : w5.heap.size < w105.heap.size := by omega
  have hbr105_1 : w18.heap.size < w105.heap.size := by omega
  go_wp2_with fail
  refine (eqProofR_same _ _ _ _ _ (prfM a0) (H0_115.out.up (by repeat (first | exact Chg.refl _ _ | apply Chg.drew | apply Chg.drewN | refine Chg.alloc ?_ _))) (W0_108.out.up (by repeat (first | exact Chg.refl _ _ | apply Chg.drew | apply Chg.drewN | refine Chg.alloc ?_ _)))).mono ?_
  rintro e w116 ⟨rfl, g1⟩
  have G1 := Lib.hid g1
  obtain ⟨hy116, hz116⟩ := up_pre (show Up w105 _ from (by repeat (first | exact Chg.refl _ _ | apply Chg.drew | apply Chg.drewN | refine Chg.alloc ?_ _))) G1.out
  clear g1
  have U_117 := Lib.hid (Chg.trans U_106.out (Chg.trans (by repeat (first | exact Chg.refl _ _ | apply Chg.drew | apply Chg.drewN | refine Chg.alloc ?_ _)) G1.out))
  clear U_106
  have X0_118 := Lib.hid (X0_107.out.up (Chg.trans (by repeat (first | exact Chg.refl _ _ | apply Chg.drew | apply Chg.drewN | refine Chg.alloc ?_ _)) G1.out))
  clear X0_107
  have W0_119 := Lib.hid (W0_108.out.up (Chg.trans (by repeat (first | exact Chg.refl _ _ | apply Chg.drew | apply Chg.drewN | refine Chg.alloc ?_ _)) G1.out))
  clear W0_108
  obtain ⟨W0_0_120c, W0_0_120f⟩ := CellF.up (Chg.trans (by repeat (first | exact Chg.refl _ _ | apply Chg.drew | apply Chg.drewN | refine Chg.alloc ?_ _)) G1.out) ⟨W0_0_109c, W0_0_109f⟩
  clear W0_0_109c W0_0_109f
  obtain ⟨W0_1_121c, W0_1_121f⟩ := CellF.up (Chg.trans (by repeat (first | exact Chg.refl _ _ | apply Chg.drew | apply Chg.drewN | refine Chg.alloc ?_ _)) G1.out) ⟨W0_1_110c, W0_1_110f⟩
  clear W0_1_110c W0_1_110f
  obtain ⟨R0_0_122c, R0_0_122f⟩ := CellF.up (Chg.trans (by repeat (first | exact Chg.refl _ _ | apply Chg.drew | apply Chg.drewN | refine Chg.alloc ?_ _)) G1.out) ⟨R0_0_111c, R0_0_111f⟩
  clear R0_0_111c R0_0_111f
  obtain ⟨R0_1_123c, R0_1_123f⟩ := CellF.up (Chg.trans (by repeat (first | exact Chg.refl _ _ | apply Chg.drew | apply Chg.drewN | refine Chg.alloc ?_ _)) G1.out) ⟨R0_1_112c, R0_1_112f⟩
  clear R0_1_112c R0_1_112f
  have M0_124 := Lib.hid (M0_113.out.up (Chg.trans (by repeat (first | exact Chg.refl _ _ | apply Chg.drew | apply Chg.drewN | refine Chg.alloc ?_ _)) G1.out))
  clear M0_113
  have E0_125 := Lib.hid (E0_114.out.up (Chg.trans (by repeat (first | exact Chg.refl _ _ | apply Chg.drew | apply Chg.drewN | refine Chg.alloc ?_ _)) G1.out))
  clear E0_114
  have H0_126 := Lib.hid (H0_115.out.up (Chg.trans (by repeat (first | exact Chg.refl _ _ | apply Chg.drew | apply Chg.drewN | refine Chg.alloc ?_ _)) G1.out))
  clear H0_115
  obtain ⟨H0_0_127c, H0_0_127f⟩ := (show CellF w116 ⟨w105.heap.size, 0, none⟩ (.slice As105 (prfM a0).forms.length cs105) from CellF.up G1.out (by repeat (first | ((refine cellF_at ?_ rfl); (simp; done)) | refine CellF.up ((Chg.refl _ _).alloc _) ?_)))
  obtain ⟨H0_1_128c, H0_1_128f⟩ := (show CellF w116 ⟨w105.heap.size, 1, none⟩ (.slice Zs105 (prfM a0).sts.length zs105) from CellF.up G1.out (by repeat (first | ((refine cellF_at ?_ rfl); (simp; done)) | refine CellF.up ((Chg.refl _ _).alloc _) ?_)))
  clear G1
  have hbz129 : w105.heap.size < w116.heap.size := World.block_lt_of_cell? _ _ H0_0_127c
  go_wp2_with fail
  refine (heldProof_any _ _ _ (prfM a0) (1) hr1_0 hr2_0 (M0_124.out.up (by repeat (first | exact Chg.refl _ _ | apply Chg.drew | apply Chg.drewN | refine Chg.alloc ?_ _)))).mono ?_
  rintro e w130 ⟨rfl, g1⟩
  have G1 := Lib.hid g1
  obtain ⟨hy130, hz130⟩ := up_pre (show Up w116 _ from (by repeat (first | exact Chg.refl _ _ | apply Chg.drew | apply Chg.drewN | refine Chg.alloc ?_ _))) G1.out
  clear g1
  have U_131 := Lib.hid (Chg.trans U_117.out (Chg.trans (by repeat (first | exact Chg.refl _ _ | apply Chg.drew | apply Chg.drewN | refine Chg.alloc ?_ _)) G1.out))
  clear U_117
  have X0_132 := Lib.hid (X0_118.out.up (Chg.trans (by repeat (first | exact Chg.refl _ _ | apply Chg.drew | apply Chg.drewN | refine Chg.alloc ?_ _)) G1.out))
  clear X0_118
  have W0_133 := Lib.hid (W0_119.out.up (Chg.trans (by repeat (first | exact Chg.refl _ _ | apply Chg.drew | apply Chg.drewN | refine Chg.alloc ?_ _)) G1.out))
  clear W0_119
  obtain ⟨W0_0_134c, W0_0_134f⟩ := CellF.up (Chg.trans (by repeat (first | exact Chg.refl _ _ | apply Chg.drew | apply Chg.drewN | refine Chg.alloc ?_ _)) G1.out) ⟨W0_0_120c, W0_0_120f⟩
  clear W0_0_120c W0_0_120f
  obtain ⟨W0_1_135c, W0_1_135f⟩ := CellF.up (Chg.trans (by repeat (first | exact Chg.refl _ _ | apply Chg.drew | apply Chg.drewN | refine Chg.alloc ?_ _)) G1.out) ⟨W0_1_121c, W0_1_121f⟩
  clear W0_1_121c W0_1_121f
  obtain ⟨R0_0_136c, R0_0_136f⟩ := CellF.up (Chg.trans (by repeat (first | exact Chg.refl _ _ | apply Chg.drew | apply Chg.drewN | refine Chg.alloc ?_ _)) G1.out) ⟨R0_0_122c, R0_0_122f⟩
  clear R0_0_122c R0_0_122f
  obtain ⟨R0_1_137c, R0_1_137f⟩ := CellF.up (Chg.trans (by repeat (first | exact Chg.refl _ _ | apply Chg.drew | apply Chg.drewN | refine Chg.alloc ?_ _)) G1.out) ⟨R0_1_123c, R0_1_123f⟩
  clear R0_1_123c R0_1_123f
  have M0_138 := Lib.hid (M0_124.out.up (Chg.trans (by repeat (first | exact Chg.refl _ _ | apply Chg.drew | apply Chg.drewN | refine Chg.alloc ?_ _)) G1.out))
  clear M0_124
  have E0_139 := Lib.hid (E0_125.out.up (Chg.trans (by repeat (first | exact Chg.refl _ _ | apply Chg.drew | apply Chg.drewN | refine Chg.alloc ?_ _)) G1.out))
  clear E0_125
  have H0_140 := Lib.hid (H0_126.out.up (Chg.trans (by repeat (first | exact Chg.refl _ _ | apply Chg.drew | apply Chg.drewN | refine Chg.alloc ?_ _)) G1.out))
  clear H0_126
  obtain ⟨H0_0_141c, H0_0_141f⟩ := CellF.up (Chg.trans (by repeat (first | exact Chg.refl _ _ | apply Chg.drew | apply Chg.drewN | refine Chg.alloc ?_ _)) G1.out) ⟨H0_0_127c, H0_0_127f⟩
  clear H0_0_127c H0_0_127f
  obtain ⟨H0_1_142c, H0_1_142f⟩ := CellF.up (Chg.trans (by repeat (first | exact Chg.refl _ _ | apply Chg.drew | apply Chg.drewN | refine Chg.alloc ?_ _)) G1.out) ⟨H0_1_128c, H0_1_128f⟩
  clear H0_1_128c H0_1_128f
  clear G1
  go_wp2
  go_ret
  exact ⟨rfl, Up.below (Chg.trans U_131.out (by repeat (first | exact Chg.refl _ _ | apply Chg.drew | apply Chg.drewN | refine Chg.alloc ?_ _)))⟩
theorem walk (w : World) (v0 : Value) (a0 : List EvM) (ha0 : Evs w (fun b => b < w.heap.size) v0 a0) :
    Calls Try.prog 4 #[v0] w fun e w' => e = .returned (.bool true) ∧ Below w.heap.size w w' := by
  by_cases hbt : (a0.length : Int) ≤ 1048576
  rotate_left
  · skip
    have X0 := Lib.hid ha0
    have hd : decide ((-1 : Int) < 0) = true := rfl
    obtain ⟨A0, c0, rfl, -⟩ := ha0.shape
    go_enter Try.func4, Try.ntmps4
    go_wp2_with fail
    refine (szEvs_no _ _ _ a0 1048576 (by omega) (by omega) X0.out).mono ?_
    rintro e _ ⟨rfl, rfl⟩
    go_wp2
    go_ret
    exact ⟨rfl, Below.refl _ _⟩
  exact walk0 w v0 a0 ha0 hbt
end fnExactProofOf
end Go.Proofs.Ytplabnjdhkmmkaa
