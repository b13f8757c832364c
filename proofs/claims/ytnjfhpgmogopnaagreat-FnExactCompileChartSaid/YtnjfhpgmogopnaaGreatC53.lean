/- The program's CompileChart answers as the reference's, for every chart; what it is given stays as it was; its memory is its own. No condition. -/
import Derived.Test.YtnjfhpgmogopnaaGreatPG11
import Derived.Test.YtnjfhpgmogopnaaGreatPG8
namespace Go.Proofs.YtnjfhpgmogopnaaGreat
open Go.ChangeShapes Go.WideShapes Go.ChangeAt Go.RowKit
namespace fnExactCompileChart
set_option linter.unusedVariables false in
set_option maxRecDepth 100000 in
set_option maxHeartbeats 8000000 in
theorem walk0 (w : World) (v0 : Value) (a0 : ChartM) (ha0 : ChartV w (fun b => b < w.heap.size) v0 a0)  (hbt : (cntRs a0.rs : Int) ≤ 1048576) :
    Calls Tryz.prog 5 #[v0] w fun e w' => e = .returned (.bool true) ∧ Below w.heap.size w w' := by
  have U0 := Lib.hid (Chg.refl Nowhere w)
  obtain ⟨A0, c0, rfl, y0, hl0, hc0⟩ := openChart ha0
  have X0 := Lib.hid ha0
  clear ha0 y0
  have U_1 := Lib.hid (Chg.trans U0.out ((Chg.refl Nowhere w).alloc (.cells #[.int .i64 a0.n, .slice A0 a0.rs.length c0] 24)))
  clear U0
  have X0_2 := Lib.hid (X0.out.up ((Chg.refl Nowhere w).alloc (.cells #[.int .i64 a0.n, .slice A0 a0.rs.length c0] 24)))
  clear X0
  have q0_0_3 := (show (w.alloc (.cells #[.int .i64 a0.n, .slice A0 a0.rs.length c0] 24)).cell? ⟨w.heap.size, 0, none⟩ = some (.int .i64 a0.n) from cell_new _ _ _ _)
  have q0_1_4 := (show (w.alloc (.cells #[.int .i64 a0.n, .slice A0 a0.rs.length c0] 24)).cell? ⟨w.heap.size, 1, none⟩ = some (.slice A0 a0.rs.length c0) from cell_new _ _ _ _)
  have hbx5 : w.heap.size < (w.alloc (.cells #[.int .i64 a0.n, .slice A0 a0.rs.length c0] 24)).heap.size := by simp
  have hr0 : cntRs a0.rs ≤ 1048576 := by omega
  go_enter Tryz.func5, Tryz.ntmps5
  have hd0 : decide ((1048576 : Int) - cntRs a0.rs < 0) = false := decide_eq_false (by omega)
  go_wp2_with fail
  refine (szChart_ok _ _ _ a0 (1048576) (by omega) (by omega) (X0_2.out.up (by repeat (first | exact Chg.refl _ _ | apply Chg.drew | apply Chg.drewN | refine Chg.alloc ?_ _)))).mono ?_
  rintro e w6 ⟨rfl, g1⟩
  have G1 := Lib.hid g1
  obtain ⟨hy6, hz6⟩ := up_pre (show Up (w.alloc (.cells #[.int .i64 a0.n, .slice A0 a0.rs.length c0] 24)) _ from (by repeat (first | exact Chg.refl _ _ | apply Chg.drew | apply Chg.drewN | refine Chg.alloc ?_ _))) G1.out
  clear g1
  have U_7 := Lib.hid (Chg.trans U_1.out (Chg.trans (by repeat (first | exact Chg.refl _ _ | apply Chg.drew | apply Chg.drewN | refine Chg.alloc ?_ _)) G1.out))
  clear U_1
  have X0_8 := Lib.hid (X0_2.out.up (Chg.trans (by repeat (first | exact Chg.refl _ _ | apply Chg.drew | apply Chg.drewN | refine Chg.alloc ?_ _)) G1.out))
  clear X0_2
  have q0_0_9 := Chg.cell (Chg.trans (by repeat (first | exact Chg.refl _ _ | apply Chg.drew | apply Chg.drewN | refine Chg.alloc ?_ _)) G1.out) q0_0_3 id
  clear q0_0_3
  have q0_1_10 := Chg.cell (Chg.trans (by repeat (first | exact Chg.refl _ _ | apply Chg.drew | apply Chg.drewN | refine Chg.alloc ?_ _)) G1.out) q0_1_4 id
  clear q0_1_4
  clear G1
  go_wp2_with fail
  refine (toChartX_any _ _ _ a0 (by omega) (X0_8.out.up (by repeat (first | exact Chg.refl _ _ | apply Chg.drew | apply Chg.drewN | refine Chg.alloc ?_ _)))).mono ?_
  rintro e w11 ⟨v11, rfl, k1, g1⟩
  have K1 := Lib.hid k1
  clear k1
  have G1 := Lib.hid g1
  obtain ⟨hy11, hz11⟩ := up_pre (show Up w6 _ from (by repeat (first | exact Chg.refl _ _ | apply Chg.drew | apply Chg.drewN | refine Chg.alloc ?_ _))) G1.out
  clear g1
  have U_12 := Lib.hid (Chg.trans U_7.out (Chg.trans (by repeat (first | exact Chg.refl _ _ | apply Chg.drew | apply Chg.drewN | refine Chg.alloc ?_ _)) G1.out))
  clear U_7
  have X0_13 := Lib.hid (X0_8.out.up (Chg.trans (by repeat (first | exact Chg.refl _ _ | apply Chg.drew | apply Chg.drewN | refine Chg.alloc ?_ _)) G1.out))
  clear X0_8
  have q0_0_14 := Chg.cell (Chg.trans (by repeat (first | exact Chg.refl _ _ | apply Chg.drew | apply Chg.drewN | refine Chg.alloc ?_ _)) G1.out) q0_0_9 id
  clear q0_0_9
  have q0_1_15 := Chg.cell (Chg.trans (by repeat (first | exact Chg.refl _ _ | apply Chg.drew | apply Chg.drewN | refine Chg.alloc ?_ _)) G1.out) q0_1_10 id
  clear q0_1_10
  clear G1
  have B0_16 := Lib.hid (K1.out)
  clear K1
  obtain ⟨As11, cs11, rfl, ys11, hls11, hcs11⟩ := openChartX B0_16.out
  clear ys11
  go_wp2_with fail
  refine (sCompileChart_X _ _ _ a0 (B0_16.out.up (by repeat (first | exact Chg.refl _ _ | apply Chg.drew | apply Chg.drewN | refine Chg.alloc ?_ _)))).mono ?_
  rintro e w17 ⟨v17, rfl, k1, g1⟩
  obtain ⟨A17, c17, rfl, hl17, hc17, -⟩ := k1.shape
  have K1 := Lib.hid k1
  clear k1
  have G1 := Lib.hid g1
  obtain ⟨hy17, hz17⟩ := up_pre (show Up w11 _ from (by repeat (first | exact Chg.refl _ _ | apply Chg.drew | apply Chg.drewN | refine Chg.alloc ?_ _))) G1.out
  clear g1
  have U_18 := Lib.hid (Chg.trans U_12.out (Chg.trans (by repeat (first | exact Chg.refl _ _ | apply Chg.drew | apply Chg.drewN | refine Chg.alloc ?_ _)) G1.out))
  clear U_12
  have X0_19 := Lib.hid (X0_13.out.up (Chg.trans (by repeat (first | exact Chg.refl _ _ | apply Chg.drew | apply Chg.drewN | refine Chg.alloc ?_ _)) G1.out))
  clear X0_13
  have q0_0_20 := Chg.cell (Chg.trans (by repeat (first | exact Chg.refl _ _ | apply Chg.drew | apply Chg.drewN | refine Chg.alloc ?_ _)) G1.out) q0_0_14 id
  clear q0_0_14
  have q0_1_21 := Chg.cell (Chg.trans (by repeat (first | exact Chg.refl _ _ | apply Chg.drew | apply Chg.drewN | refine Chg.alloc ?_ _)) G1.out) q0_1_15 id
  clear q0_1_15
  have B0_22 := Lib.hid (B0_16.out.up (Chg.trans (by repeat (first | exact Chg.refl _ _ | apply Chg.drew | apply Chg.drewN | refine Chg.alloc ?_ _)) G1.out))
  clear B0_16
  clear G1
  have W0_23 := Lib.hid (K1.out)
  clear K1
  clear B0_22
  go_wp2_with fail
  refine (toChartX_any _ _ _ a0 (by omega) (X0_19.out.up (by repeat (first | exact Chg.refl _ _ | apply Chg.drew | apply Chg.drewN | refine Chg.alloc ?_ _)))).mono ?_
  rintro e w24 ⟨v24, rfl, k1, g1⟩
  have K1 := Lib.hid k1
  clear k1
  have G1 := Lib.hid g1
  obtain ⟨hy24, hz24⟩ := up_pre (show Up w17 _ from (by repeat (first | exact Chg.refl _ _ | apply Chg.drew | apply Chg.drewN | refine Chg.alloc ?_ _))) G1.out
  clear g1
  have U_25 := Lib.hid (Chg.trans U_18.out (Chg.trans (by repeat (first | exact Chg.refl _ _ | apply Chg.drew | apply Chg.drewN | refine Chg.alloc ?_ _)) G1.out))
  clear U_18
  have X0_26 := Lib.hid (X0_19.out.up (Chg.trans (by repeat (first | exact Chg.refl _ _ | apply Chg.drew | apply Chg.drewN | refine Chg.alloc ?_ _)) G1.out))
  clear X0_19
  have q0_0_27 := Chg.cell (Chg.trans (by repeat (first | exact Chg.refl _ _ | apply Chg.drew | apply Chg.drewN | refine Chg.alloc ?_ _)) G1.out) q0_0_20 id
  clear q0_0_20
  have q0_1_28 := Chg.cell (Chg.trans (by repeat (first | exact Chg.refl _ _ | apply Chg.drew | apply Chg.drewN | refine Chg.alloc ?_ _)) G1.out) q0_1_21 id
  clear q0_1_21
  have W0_29 := Lib.hid (W0_23.out.up (Chg.trans (by repeat (first | exact Chg.refl _ _ | apply Chg.drew | apply Chg.drewN | refine Chg.alloc ?_ _)) G1.out))
  clear W0_23
  clear G1
  have C0_30 := Lib.hid (K1.out)
  clear K1
  obtain ⟨As24, cs24, rfl, ys24, hls24, hcs24⟩ := openChartX C0_30.out
  clear ys24
  go_wp2_with fail
  refine (CompileChart_X _ _ _ a0 (C0_30.out.up (by repeat (first | exact Chg.refl _ _ | apply Chg.drew | apply Chg.drewN | refine Chg.alloc ?_ _)))).mono ?_
  rintro e w31 ⟨v31, rfl, k1, g1⟩
  obtain ⟨A31, c31, rfl, hl31, hc31, -⟩ := k1.shape
  have K1 := Lib.hid k1
  clear k1
  have G1 := Lib.hid g1
  obtain ⟨hy31, hz31⟩ := up_pre (show Up w24 _ from (by repeat (first | exact Chg.refl _ _ | apply Chg.drew | apply Chg.drewN | refine Chg.alloc ?_ _))) G1.out
  clear g1
  have U_32 := Lib.hid (Chg.trans U_25.out (Chg.trans (by repeat (first | exact Chg.refl _ _ | apply Chg.drew | apply Chg.drewN | refine Chg.alloc ?_ _)) G1.out))
  clear U_25
  have X0_33 := Lib.hid (X0_26.out.up (Chg.trans (by repeat (first | exact Chg.refl _ _ | apply Chg.drew | apply Chg.drewN | refine Chg.alloc ?_ _)) G1.out))
  clear X0_26
  have q0_0_34 := Chg.cell (Chg.trans (by repeat (first | exact Chg.refl _ _ | apply Chg.drew | apply Chg.drewN | refine Chg.alloc ?_ _)) G1.out) q0_0_27 id
  clear q0_0_27
  have q0_1_35 := Chg.cell (Chg.trans (by repeat (first | exact Chg.refl _ _ | apply Chg.drew | apply Chg.drewN | refine Chg.alloc ?_ _)) G1.out) q0_1_28 id
  clear q0_1_28
  have W0_36 := Lib.hid (W0_29.out.up (Chg.trans (by repeat (first | exact Chg.refl _ _ | apply Chg.drew | apply Chg.drewN | refine Chg.alloc ?_ _)) G1.out))
  clear W0_29
  have C0_37 := Lib.hid (C0_30.out.up (Chg.trans (by repeat (first | exact Chg.refl _ _ | apply Chg.drew | apply Chg.drewN | refine Chg.alloc ?_ _)) G1.out))
  clear C0_30
  obtain ⟨x0_0_38c, x0_0_38f⟩ := (show CellF w31 ⟨w24.heap.size, 0, none⟩ (.int .i64 a0.n) from CellF.up G1.out (by repeat (first | ((refine cellF_at ?_ rfl); (simp; done)) | refine CellF.up ((Chg.refl _ _).alloc _) ?_)))
  obtain ⟨x0_1_39c, x0_1_39f⟩ := (show CellF w31 ⟨w24.heap.size, 1, none⟩ (.slice As24 a0.rs.length cs24) from CellF.up G1.out (by repeat (first | ((refine cellF_at ?_ rfl); (simp; done)) | refine CellF.up ((Chg.refl _ _).alloc _) ?_)))
  clear G1
  have R0_40 := Lib.hid (K1.out)
  clear K1
  go_wp2_with fail
  refine (eqOps _ _ _ _ _ (chO a0) (R0_40.out.up (by repeat (first | exact Chg.refl _ _ | apply Chg.drew | apply Chg.drewN | refine Chg.alloc ?_ _))) (W0_36.out.up (by repeat (first | exact Chg.refl _ _ | apply Chg.drew | apply Chg.drewN | refine Chg.alloc ?_ _)))).mono ?_
  rintro e w41 ⟨rfl, g1⟩
  have G1 := Lib.hid g1
  obtain ⟨hy41, hz41⟩ := up_pre (show Up w31 _ from (by repeat (first | exact Chg.refl _ _ | apply Chg.drew | apply Chg.drewN | refine Chg.alloc ?_ _))) G1.out
  clear g1
  have U_42 := Lib.hid (Chg.trans U_32.out (Chg.trans (by repeat (first | exact Chg.refl _ _ | apply Chg.drew | apply Chg.drewN | refine Chg.alloc ?_ _)) G1.out))
  clear U_32
  have X0_43 := Lib.hid (X0_33.out.up (Chg.trans (by repeat (first | exact Chg.refl _ _ | apply Chg.drew | apply Chg.drewN | refine Chg.alloc ?_ _)) G1.out))
  clear X0_33
  have q0_0_44 := Chg.cell (Chg.trans (by repeat (first | exact Chg.refl _ _ | apply Chg.drew | apply Chg.drewN | refine Chg.alloc ?_ _)) G1.out) q0_0_34 id
  clear q0_0_34
  have q0_1_45 := Chg.cell (Chg.trans (by repeat (first | exact Chg.refl _ _ | apply Chg.drew | apply Chg.drewN | refine Chg.alloc ?_ _)) G1.out) q0_1_35 id
  clear q0_1_35
  have W0_46 := Lib.hid (W0_36.out.up (Chg.trans (by repeat (first | exact Chg.refl _ _ | apply Chg.drew | apply Chg.drewN | refine Chg.alloc ?_ _)) G1.out))
  clear W0_36
  have C0_47 := Lib.hid (C0_37.out.up (Chg.trans (by repeat (first | exact Chg.refl _ _ | apply Chg.drew | apply Chg.drewN | refine Chg.alloc ?_ _)) G1.out))
  clear C0_37
  obtain ⟨x0_0_48c, x0_0_48f⟩ := CellF.up (Chg.trans (by repeat (first | exact Chg.refl _ _ | apply Chg.drew | apply Chg.drewN | refine Chg.alloc ?_ _)) G1.out) ⟨x0_0_38c, x0_0_38f⟩
  clear x0_0_38c x0_0_38f
  obtain ⟨x0_1_49c, x0_1_49f⟩ := CellF.up (Chg.trans (by repeat (first | exact Chg.refl _ _ | apply Chg.drew | apply Chg.drewN | refine Chg.alloc ?_ _)) G1.out) ⟨x0_1_39c, x0_1_39f⟩
  clear x0_1_39c x0_1_39f
  have R0_50 := Lib.hid (R0_40.out.up (Chg.trans (by repeat (first | exact Chg.refl _ _ | apply Chg.drew | apply Chg.drewN | refine Chg.alloc ?_ _)) G1.out))
  clear R0_40
  clear G1
  go_wp2
  go_region_held3 (fun w' => w'.cell? ⟨w.heap.size, 0, none⟩ = some (.int .i64 a0.n) ∧ w'.cell? ⟨w.heap.size, 1, none⟩ = some (.slice A0 a0.rs.length c0) ∧ w'.cell? ⟨w24.heap.size, 0, none⟩ = some (.int .i64 a0.n) ∧ w'.cell? ⟨w24.heap.size, 1, none⟩ = some (.slice As24 a0.rs.length cs24))
      (first | (exact ⟨q0_0_44, q0_1_45, x0_0_48c, x0_1_49c⟩) | (obtain ⟨p0, p1, p2, p3⟩ : (World.cell? _ _ = _ ∧ World.cell? _ _ = _ ∧ World.cell? _ _ = _ ∧ World.cell? _ _ = _) := (by assumption); exact ⟨Chg.cell g1 p0 id, Chg.cell g1 p1 id, Chg.cell g1 p2 id, Chg.cell g1 p3 id⟩))
      (first | (go_at_call 9; refine (toChartX_any _ _ _ a0 (by omega) (X0_43.out.up (by repeat (first | exact Chg.refl _ _ | apply Chg.drew | apply Chg.drewN | refine Chg.alloc ?_ _)))).mono ?_; rintro e w51 ⟨v51, rfl, k1, g1⟩; obtain ⟨As51, cs51, rfl, ys51, hls51, hcs51⟩ := openChartX k1; have K1 := Lib.hid k1; clear k1 ys51; have G1 := Lib.hid g1; obtain ⟨hy51, hz51⟩ := up_pre (show Up w41 _ from (by repeat (first | exact Chg.refl _ _ | apply Chg.drew | apply Chg.drewN | refine Chg.alloc ?_ _))) G1.out; have U_53 := Lib.hid (Chg.trans U_42.out (Chg.trans (by repeat (first | exact Chg.refl _ _ | apply Chg.drew | apply Chg.drewN | refine Chg.alloc ?_ _)) G1.out)); have X0_54 := Lib.hid (X0_43.out.up (Chg.trans (by repeat (first | exact Chg.refl _ _ | apply Chg.drew | apply Chg.drewN | refine Chg.alloc ?_ _)) G1.out)); have W0_55 := Lib.hid (W0_46.out.up (Chg.trans (by repeat (first | exact Chg.refl _ _ | apply Chg.drew | apply Chg.drewN | refine Chg.alloc ?_ _)) G1.out)); have C0_56 := Lib.hid (C0_47.out.up (Chg.trans (by repeat (first | exact Chg.refl _ _ | apply Chg.drew | apply Chg.drewN | refine Chg.alloc ?_ _)) G1.out)); have R0_57 := Lib.hid (R0_50.out.up (Chg.trans (by repeat (first | exact Chg.refl _ _ | apply Chg.drew | apply Chg.drewN | refine Chg.alloc ?_ _)) G1.out))) | (go_at_call 12; refine (eqChartX_same _ _ _ _ _ a0 (C0_56.out.up (by repeat (first | exact Chg.refl _ _ | apply Chg.drew | apply Chg.drewN | refine Chg.alloc ?_ _))) (K1.out.up (by repeat (first | exact Chg.refl _ _ | apply Chg.drew | apply Chg.drewN | refine Chg.alloc ?_ _)))).mono ?_; rintro e w52 ⟨rfl, g1⟩; have G2 := Lib.hid g1; obtain ⟨hy52, hz52⟩ := up_pre (show Up w51 _ from (by repeat (first | exact Chg.refl _ _ | apply Chg.drew | apply Chg.drewN | refine Chg.alloc ?_ _))) G2.out; have U_58 := Lib.hid (Chg.trans U_53.out (Chg.trans (by repeat (first | exact Chg.refl _ _ | apply Chg.drew | apply Chg.drewN | refine Chg.alloc ?_ _)) G2.out)); have X0_59 := Lib.hid (X0_54.out.up (Chg.trans (by repeat (first | exact Chg.refl _ _ | apply Chg.drew | apply Chg.drewN | refine Chg.alloc ?_ _)) G2.out)); have W0_60 := Lib.hid (W0_55.out.up (Chg.trans (by repeat (first | exact Chg.refl _ _ | apply Chg.drew | apply Chg.drewN | refine Chg.alloc ?_ _)) G2.out)); have C0_61 := Lib.hid (C0_56.out.up (Chg.trans (by repeat (first | exact Chg.refl _ _ | apply Chg.drew | apply Chg.drewN | refine Chg.alloc ?_ _)) G2.out)); have R0_62 := Lib.hid (R0_57.out.up (Chg.trans (by repeat (first | exact Chg.refl _ _ | apply Chg.drew | apply Chg.drewN | refine Chg.alloc ?_ _)) G2.out))))
  have q0_0_63 := Chg.cell (Chg.trans (Chg.trans (by repeat (first | exact Chg.refl _ _ | apply Chg.drew | apply Chg.drewN | refine Chg.alloc ?_ _)) G1.out) (Chg.trans (by repeat (first | exact Chg.refl _ _ | apply Chg.drew | apply Chg.drewN | refine Chg.alloc ?_ _)) G2.out)) q0_0_44 id
  have q0_1_64 := Chg.cell (Chg.trans (Chg.trans (by repeat (first | exact Chg.refl _ _ | apply Chg.drew | apply Chg.drewN | refine Chg.alloc ?_ _)) G1.out) (Chg.trans (by repeat (first | exact Chg.refl _ _ | apply Chg.drew | apply Chg.drewN | refine Chg.alloc ?_ _)) G2.out)) q0_1_45 id
  obtain ⟨x0_0_65c, x0_0_65f⟩ := CellF.up (Chg.trans (Chg.trans (by repeat (first | exact Chg.refl _ _ | apply Chg.drew | apply Chg.drewN | refine Chg.alloc ?_ _)) G1.out) (Chg.trans (by repeat (first | exact Chg.refl _ _ | apply Chg.drew | apply Chg.drewN | refine Chg.alloc ?_ _)) G2.out)) ⟨x0_0_48c, x0_0_48f⟩
  obtain ⟨x0_1_66c, x0_1_66f⟩ := CellF.up (Chg.trans (Chg.trans (by repeat (first | exact Chg.refl _ _ | apply Chg.drew | apply Chg.drewN | refine Chg.alloc ?_ _)) G1.out) (Chg.trans (by repeat (first | exact Chg.refl _ _ | apply Chg.drew | apply Chg.drewN | refine Chg.alloc ?_ _)) G2.out)) ⟨x0_1_49c, x0_1_49f⟩
  clear g1 G1 G2 K1
  clear U_42
  clear X0_43
  clear q0_0_44
  clear q0_1_45
  clear W0_46
  clear C0_47
  clear x0_0_48c x0_0_48f
  clear x0_1_49c x0_1_49f
  clear R0_50
  clear U_53
  clear X0_54
  clear W0_55
  clear C0_56
  clear R0_57
  have hp0 : (0 : Int) ≤ (1 : Int) := by omega
  have hr0' : cntC a0.rs ≤ 8388608 := by have := cntC_le a0.rs; omega
  have hq0 : (1 : Int) + cntC a0.rs ≤ 4611686018427387904 := by omega
  go_wp2_with fail
  refine (markChartX_any _ _ _ a0 ((1 : Int)) hp0 hq0 (C0_61.out.up (by repeat (first | exact Chg.refl _ _ | apply Chg.drew | apply Chg.drewN | refine Chg.alloc ?_ _)))).mono ?_
  rintro e w67 ⟨rfl, g1⟩
  have G1 := Lib.hid g1
  obtain ⟨hy67, hz67⟩ := up_pre (show Up w52 _ from (by repeat (first | exact Chg.refl _ _ | apply Chg.drew | apply Chg.drewN | refine Chg.alloc ?_ _))) G1.out
  clear g1
  clear C0_61
  clear x0_0_65c x0_0_65f
  clear x0_1_66c x0_1_66f
  have U_68 := Lib.hid (Chg.new (Chg.trans U_58.out (by repeat (first | exact Chg.refl _ _ | apply Chg.drew | apply Chg.drewN | refine Chg.alloc ?_ _))) G1.out (fun i hi h2 => by simp only [New] at h2; first | omega | (simp at h2; omega)))
  clear U_58
  have X0_69 := Lib.hid ((X0_59.out.up (by repeat (first | exact Chg.refl _ _ | apply Chg.drew | apply Chg.drewN | refine Chg.alloc ?_ _))).keep G1.out (fun b hb h1 h2 => by simp only [New] at h1 h2; first | omega | (simp at h1 h2; omega)))
  clear X0_59
  have W0_70 := Lib.hid ((W0_60.out.up (by repeat (first | exact Chg.refl _ _ | apply Chg.drew | apply Chg.drewN | refine Chg.alloc ?_ _))).keep G1.out (fun b hb h1 h2 => by simp only [New] at h1 h2; first | omega | (simp at h1 h2; omega)))
  clear W0_60
  have R0_71 := Lib.hid ((R0_62.out.up (by repeat (first | exact Chg.refl _ _ | apply Chg.drew | apply Chg.drewN | refine Chg.alloc ?_ _))).keep G1.out (fun b hb h1 h2 => by simp only [New] at h1 h2; first | omega | (simp at h1 h2; omega)))
  clear R0_62
  have q0_0_72 := Chg.cell G1.out (Chg.cell (S := Nowhere) (by repeat (first | exact Chg.refl _ _ | apply Chg.drew | apply Chg.drewN | refine Chg.alloc ?_ _)) q0_0_63 id) (fun h2 => by simp only [New] at h2; first | omega | (simp at h2; omega))
  clear q0_0_63
  have q0_1_73 := Chg.cell G1.out (Chg.cell (S := Nowhere) (by repeat (first | exact Chg.refl _ _ | apply Chg.drew | apply Chg.drewN | refine Chg.alloc ?_ _)) q0_1_64 id) (fun h2 => by simp only [New] at h2; first | omega | (simp at h2; omega))
  clear q0_1_64
  clear G1
  have hneg : decide (((1 : Int) + cntC a0.rs : Int) < 0) = false := decide_eq_false (by omega)
  go_wp2_with fail
  refine (eqOps _ _ _ _ _ (chO a0) (R0_71.out.up (by repeat (first | exact Chg.refl _ _ | apply Chg.drew | apply Chg.drewN | refine Chg.alloc ?_ _))) (W0_70.out.up (by repeat (first | exact Chg.refl _ _ | apply Chg.drew | apply Chg.drewN | refine Chg.alloc ?_ _)))).mono ?_
  rintro e w74 ⟨rfl, g1⟩
  have G1 := Lib.hid g1
  obtain ⟨hy74, hz74⟩ := up_pre (show Up w67 _ from (by repeat (first | exact Chg.refl _ _ | apply Chg.drew | apply Chg.drewN | refine Chg.alloc ?_ _))) G1.out
  clear g1
  have U_75 := Lib.hid (Chg.trans U_68.out (Chg.trans (by repeat (first | exact Chg.refl _ _ | apply Chg.drew | apply Chg.drewN | refine Chg.alloc ?_ _)) G1.out))
  clear U_68
  have X0_76 := Lib.hid (X0_69.out.up (Chg.trans (by repeat (first | exact Chg.refl _ _ | apply Chg.drew | apply Chg.drewN | refine Chg.alloc ?_ _)) G1.out))
  clear X0_69
  have W0_77 := Lib.hid (W0_70.out.up (Chg.trans (by repeat (first | exact Chg.refl _ _ | apply Chg.drew | apply Chg.drewN | refine Chg.alloc ?_ _)) G1.out))
  clear W0_70
  have R0_78 := Lib.hid (R0_71.out.up (Chg.trans (by repeat (first | exact Chg.refl _ _ | apply Chg.drew | apply Chg.drewN | refine Chg.alloc ?_ _)) G1.out))
  clear R0_71
  have q0_0_79 := Chg.cell (Chg.trans (by repeat (first | exact Chg.refl _ _ | apply Chg.drew | apply Chg.drewN | refine Chg.alloc ?_ _)) G1.out) q0_0_72 id
  clear q0_0_72
  have q0_1_80 := Chg.cell (Chg.trans (by repeat (first | exact Chg.refl _ _ | apply Chg.drew | apply Chg.drewN | refine Chg.alloc ?_ _)) G1.out) q0_1_73 id
  clear q0_1_73
  clear G1
  clear hneg
  have HR := Lib.hid (show cntOps (chO a0) ≤ 9000000 by have := chO_cnt a0; omega)
  have hr1_0 : (0 : Int) ≤ 1 := by omega
  have hr2_0 : (1 : Int) + cntOps (chO a0) ≤ 4611686018427387904 := by have := HR.out; omega
  go_wp2_with fail
  refine (markOps _ _ _ (chO a0) (1) hr1_0 hr2_0 (R0_78.out.up (by repeat (first | exact Chg.refl _ _ | apply Chg.drew | apply Chg.drewN | refine Chg.alloc ?_ _)))).mono ?_
  rintro e w81 ⟨rfl, g1, k1⟩
  have G1 := Lib.hid g1
  obtain ⟨hy81, hz81⟩ := up_pre (show Up w74 _ from (by repeat (first | exact Chg.refl _ _ | apply Chg.drew | apply Chg.drewN | refine Chg.alloc ?_ _))) G1.out
  have K1 := Lib.hid k1
  clear g1 k1
  clear R0_78
  have U_82 := Lib.hid (Chg.new (Chg.trans U_75.out (by repeat (first | exact Chg.refl _ _ | apply Chg.drew | apply Chg.drewN | refine Chg.alloc ?_ _))) G1.out (fun i hi h2 => by simp only [New] at h2; first | omega | (simp at h2; omega)))
  clear U_75
  have X0_83 := Lib.hid ((X0_76.out.up (by repeat (first | exact Chg.refl _ _ | apply Chg.drew | apply Chg.drewN | refine Chg.alloc ?_ _))).keep G1.out (fun b hb h1 h2 => by simp only [New] at h1 h2; first | omega | (simp at h1 h2; omega)))
  clear X0_76
  have W0_84 := Lib.hid ((W0_77.out.up (by repeat (first | exact Chg.refl _ _ | apply Chg.drew | apply Chg.drewN | refine Chg.alloc ?_ _))).keep G1.out (fun b hb h1 h2 => by simp only [New] at h1 h2; first | omega | (simp at h1 h2; omega)))
  clear W0_77
  have q0_0_85 := Chg.cell G1.out (Chg.cell (S := Nowhere) (by repeat (first | exact Chg.refl _ _ | apply Chg.drew | apply Chg.drewN | refine Chg.alloc ?_ _)) q0_0_79 id) (fun h2 => by simp only [New] at h2; first | omega | (simp at h2; omega))
  clear q0_0_79
  have q0_1_86 := Chg.cell G1.out (Chg.cell (S := Nowhere) (by repeat (first | exact Chg.refl _ _ | apply Chg.drew | apply Chg.drewN | refine Chg.alloc ?_ _)) q0_1_80 id) (fun h2 => by simp only [New] at h2; first | omega | (simp at h2; omega))
  clear q0_1_80
  clear G1
  have M0_87 := Lib.hid (K1.out)
  clear K1
  have hneg0 : decide ((1 : Int) + cntOps (chO a0) < 0) = false := decide_eq_false (by omega)
  go_wp2_with fail
  refine (heldOps _ _ _ (chO a0) (1) hr1_0 hr2_0 (M0_87.out.up (by repeat (first | exact Chg.refl _ _ | apply Chg.drew | apply Chg.drewN | refine Chg.alloc ?_ _)))).mono ?_
  rintro e w88 ⟨rfl, g1⟩
  have G1 := Lib.hid g1
  obtain ⟨hy88, hz88⟩ := up_pre (show Up w81 _ from (by repeat (first | exact Chg.refl _ _ | apply Chg.drew | apply Chg.drewN | refine Chg.alloc ?_ _))) G1.out
  clear g1
  have U_89 := Lib.hid (Chg.trans U_82.out (Chg.trans (by repeat (first | exact Chg.refl _ _ | apply Chg.drew | apply Chg.drewN | refine Chg.alloc ?_ _)) G1.out))
  clear U_82
  have X0_90 := Lib.hid (X0_83.out.up (Chg.trans (by repeat (first | exact Chg.refl _ _ | apply Chg.drew | apply Chg.drewN | refine Chg.alloc ?_ _)) G1.out))
  clear X0_83
  have W0_91 := Lib.hid (W0_84.out.up (Chg.trans (by repeat (first | exact Chg.refl _ _ | apply Chg.drew | apply Chg.drewN | refine Chg.alloc ?_ _)) G1.out))
  clear W0_84
  have q0_0_92 := Chg.cell (Chg.trans (by repeat (first | exact Chg.refl _ _ | apply Chg.drew | apply Chg.drewN | refine Chg.alloc ?_ _)) G1.out) q0_0_85 id
  clear q0_0_85
  have q0_1_93 := Chg.cell (Chg.trans (by repeat (first | exact Chg.refl _ _ | apply Chg.drew | apply Chg.drewN | refine Chg.alloc ?_ _)) G1.out) q0_1_86 id
  clear q0_1_86
  have M0_94 := Lib.hid (M0_87.out.up (Chg.trans (by repeat (first | exact Chg.refl _ _ | apply Chg.drew | apply Chg.drewN | refine Chg.alloc ?_ _)) G1.out))
  clear M0_87
  clear G1
  go_wp2_with fail
  refine (toChartX_any _ _ _ a0 (by omega) (X0_90.out.up (by repeat (first | exact Chg.refl _ _ | apply Chg.drew | apply Chg.drewN | refine Chg.alloc ?_ _)))).mono ?_
  rintro e w95 ⟨v95, rfl, k1, g1⟩
  have K1 := Lib.hid k1
  clear k1
  have G1 := Lib.hid g1
  obtain ⟨hy95, hz95⟩ := up_pre (show Up w88 _ from (by repeat (first | exact Chg.refl _ _ | apply Chg.drew | apply Chg.drewN | refine Chg.alloc ?_ _))) G1.out
  clear g1
  have U_96 := Lib.hid (Chg.trans U_89.out (Chg.trans (by repeat (first | exact Chg.refl _ _ | apply Chg.drew | apply Chg.drewN | refine Chg.alloc ?_ _)) G1.out))
  clear U_89
  have X0_97 := Lib.hid (X0_90.out.up (Chg.trans (by repeat (first | exact Chg.refl _ _ | apply Chg.drew | apply Chg.drewN | refine Chg.alloc ?_ _)) G1.out))
  clear X0_90
  have W0_98 := Lib.hid (W0_91.out.up (Chg.trans (by repeat (first | exact Chg.refl _ _ | apply Chg.drew | apply Chg.drewN | refine Chg.alloc ?_ _)) G1.out))
  clear W0_91
  have q0_0_99 := Chg.cell (Chg.trans (by repeat (first | exact Chg.refl _ _ | apply Chg.drew | apply Chg.drewN | refine Chg.alloc ?_ _)) G1.out) q0_0_92 id
  clear q0_0_92
  have q0_1_100 := Chg.cell (Chg.trans (by repeat (first | exact Chg.refl _ _ | apply Chg.drew | apply Chg.drewN | refine Chg.alloc ?_ _)) G1.out) q0_1_93 id
  clear q0_1_93
  have M0_101 := Lib.hid (M0_94.out.up (Chg.trans (by repeat (first | exact Chg.refl _ _ | apply Chg.drew | apply Chg.drewN | refine Chg.alloc ?_ _)) G1.out))
  clear M0_94
  clear G1
  have E0_102 := Lib.hid (K1.out)
  clear K1
  obtain ⟨As95, cs95, rfl, ys95, hls95, hcs95⟩ := openChartX E0_102.out
  clear ys95
  go_wp2_with fail
  refine (CompileChart_X _ _ _ a0 (E0_102.out.up (by repeat (first | exact Chg.refl _ _ | apply Chg.drew | apply Chg.drewN | refine Chg.alloc ?_ _)))).mono ?_
  rintro e w103 ⟨v103, rfl, k1, g1⟩
  obtain ⟨A103, c103, rfl, hl103, hc103, -⟩ := k1.shape
  have K1 := Lib.hid k1
  clear k1
  have G1 := Lib.hid g1
  obtain ⟨hy103, hz103⟩ := up_pre (show Up w95 _ from (by repeat (first | exact Chg.refl _ _ | apply Chg.drew | apply Chg.drewN | refine Chg.alloc ?_ _))) G1.out
  clear g1
  have U_104 := Lib.hid (Chg.trans U_96.out (Chg.trans (by repeat (first | exact Chg.refl _ _ | apply Chg.drew | apply Chg.drewN | refine Chg.alloc ?_ _)) G1.out))
  clear U_96
  have X0_105 := Lib.hid (X0_97.out.up (Chg.trans (by repeat (first | exact Chg.refl _ _ | apply Chg.drew | apply Chg.drewN | refine Chg.alloc ?_ _)) G1.out))
  clear X0_97
  have W0_106 := Lib.hid (W0_98.out.up (Chg.trans (by repeat (first | exact Chg.refl _ _ | apply Chg.drew | apply Chg.drewN | refine Chg.alloc ?_ _)) G1.out))
  clear W0_98
  have q0_0_107 := Chg.cell (Chg.trans (by repeat (first | exact Chg.refl _ _ | apply Chg.drew | apply Chg.drewN | refine Chg.alloc ?_ _)) G1.out) q0_0_99 id
  clear q0_0_99
  have q0_1_108 := Chg.cell (Chg.trans (by repeat (first | exact Chg.refl _ _ | apply Chg.drew | apply Chg.drewN | refine Chg.alloc ?_ _)) G1.out) q0_1_100 id
  clear q0_1_100
  have M0_109 := Lib.hid (M0_101.out.up (Chg.trans (by repeat (first | exact Chg.refl _ _ | apply Chg.drew | apply Chg.drewN | refine Chg.alloc ?_ _)) G1.out))
  clear M0_101
  have E0_110 := Lib.hid (E0_102.out.up (Chg.trans (by repeat (first | exact Chg.refl _ _ | apply Chg.drew | apply Chg.drewN | refine Chg.alloc ?_ _)) G1.out))
  clear E0_102
  clear G1
  have H0_111 := Lib.hid (K1.out)
  clear K1
  go_wp2_with fail
  refine (eqOps _ _ _ _ _ (chO a0) (H0_111.out.up (by repeat (first | exact Chg.refl _ _ | apply Chg.drew | apply Chg.drewN | refine Chg.alloc ?_ _))) (W0_106.out.up (by repeat (first | exact Chg.refl _ _ | apply Chg.drew | apply Chg.drewN | refine Chg.alloc ?_ _)))).mono ?_
  rintro e w112 ⟨rfl, g1⟩
  have G1 := Lib.hid g1
  obtain ⟨hy112, hz112⟩ := up_pre (show Up w103 _ from (by repeat (first | exact Chg.refl _ _ | apply Chg.drew | apply Chg.drewN | refine Chg.alloc ?_ _))) G1.out
  clear g1
  have U_113 := Lib.hid (Chg.trans U_104.out (Chg.trans (by repeat (first | exact Chg.refl _ _ | apply Chg.drew | apply Chg.drewN | refine Chg.alloc ?_ _)) G1.out))
  clear U_104
  have X0_114 := Lib.hid (X0_105.out.up (Chg.trans (by repeat (first | exact Chg.refl _ _ | apply Chg.drew | apply Chg.drewN | refine Chg.alloc ?_ _)) G1.out))
  clear X0_105
  have W0_115 := Lib.hid (W0_106.out.up (Chg.trans (by repeat (first | exact Chg.refl _ _ | apply Chg.drew | apply Chg.drewN | refine Chg.alloc ?_ _)) G1.out))
  clear W0_106
  have q0_0_116 := Chg.cell (Chg.trans (by repeat (first | exact Chg.refl _ _ | apply Chg.drew | apply Chg.drewN | refine Chg.alloc ?_ _)) G1.out) q0_0_107 id
  clear q0_0_107
  have q0_1_117 := Chg.cell (Chg.trans (by repeat (first | exact Chg.refl _ _ | apply Chg.drew | apply Chg.drewN | refine Chg.alloc ?_ _)) G1.out) q0_1_108 id
  clear q0_1_108
  have M0_118 := Lib.hid (M0_109.out.up (Chg.trans (by repeat (first | exact Chg.refl _ _ | apply Chg.drew | apply Chg.drewN | refine Chg.alloc ?_ _)) G1.out))
  clear M0_109
  have E0_119 := Lib.hid (E0_110.out.up (Chg.trans (by repeat (first | exact Chg.refl _ _ | apply Chg.drew | apply Chg.drewN | refine Chg.alloc ?_ _)) G1.out))
  clear E0_110
  have H0_120 := Lib.hid (H0_111.out.up (Chg.trans (by repeat (first | exact Chg.refl _ _ | apply Chg.drew | apply Chg.drewN | refine Chg.alloc ?_ _)) G1.out))
  clear H0_111
  clear G1
  go_wp2_with fail
  refine (heldOps _ _ _ (chO a0) (1) hr1_0 hr2_0 (M0_118.out.up (by repeat (first | exact Chg.refl _ _ | apply Chg.drew | apply Chg.drewN | refine Chg.alloc ?_ _)))).mono ?_
  rintro e w121 ⟨rfl, g1⟩
  have G1 := Lib.hid g1
  obtain ⟨hy121, hz121⟩ := up_pre (show Up w112 _ from (by repeat (first | exact Chg.refl _ _ | apply Chg.drew | apply Chg.drewN | refine Chg.alloc ?_ _))) G1.out
  clear g1
  have U_122 := Lib.hid (Chg.trans U_113.out (Chg.trans (by repeat (first | exact Chg.refl _ _ | apply Chg.drew | apply Chg.drewN | refine Chg.alloc ?_ _)) G1.out))
  clear U_113
  have X0_123 := Lib.hid (X0_114.out.up (Chg.trans (by repeat (first | exact Chg.refl _ _ | apply Chg.drew | apply Chg.drewN | refine Chg.alloc ?_ _)) G1.out))
  clear X0_114
  have W0_124 := Lib.hid (W0_115.out.up (Chg.trans (by repeat (first | exact Chg.refl _ _ | apply Chg.drew | apply Chg.drewN | refine Chg.alloc ?_ _)) G1.out))
  clear W0_115
  have q0_0_125 := Chg.cell (Chg.trans (by repeat (first | exact Chg.refl _ _ | apply Chg.drew | apply Chg.drewN | refine Chg.alloc ?_ _)) G1.out) q0_0_116 id
  clear q0_0_116
  have q0_1_126 := Chg.cell (Chg.trans (by repeat (first | exact Chg.refl _ _ | apply Chg.drew | apply Chg.drewN | refine Chg.alloc ?_ _)) G1.out) q0_1_117 id
  clear q0_1_117
  have M0_127 := Lib.hid (M0_118.out.up (Chg.trans (by repeat (first | exact Chg.refl _ _ | apply Chg.drew | apply Chg.drewN | refine Chg.alloc ?_ _)) G1.out))
  clear M0_118
  have E0_128 := Lib.hid (E0_119.out.up (Chg.trans (by repeat (first | exact Chg.refl _ _ | apply Chg.drew | apply Chg.drewN | refine Chg.alloc ?_ _)) G1.out))
  clear E0_119
  have H0_129 := Lib.hid (H0_120.out.up (Chg.trans (by repeat (first | exact Chg.refl _ _ | apply Chg.drew | apply Chg.drewN | refine Chg.alloc ?_ _)) G1.out))
  clear H0_120
  clear G1
  go_wp2
  go_ret
  exact ⟨rfl, Up.below (Chg.trans U_122.out (by repeat (first | exact Chg.refl _ _ | apply Chg.drew | apply Chg.drewN | refine Chg.alloc ?_ _)))⟩
set_option maxRecDepth 100000 in
theorem walk (w : World) (v0 : Value) (a0 : ChartM) (ha0 : ChartV w (fun b => b < w.heap.size) v0 a0) :
    Calls Tryz.prog 5 #[v0] w fun e w' => e = .returned (.bool true) ∧ Below w.heap.size w w' := by
  by_cases hbt : (cntRs a0.rs : Int) ≤ 1048576
  rotate_left
  · skip
    obtain ⟨A0, c0, rfl, y0, hl0, hc0⟩ := openChart ha0
    have X0 := Lib.hid ha0
    clear ha0 y0
    have U0 := Lib.hid (Chg.refl Nowhere w)
    have hd : decide ((-1 : Int) < 0) = true := rfl
    have U_1 := Lib.hid (Chg.trans U0.out ((Chg.refl Nowhere w).alloc (.cells #[.int .i64 a0.n, .slice A0 a0.rs.length c0] 24)))
    clear U0
    have X_2 := Lib.hid (X0.out.up ((Chg.refl Nowhere w).alloc (.cells #[.int .i64 a0.n, .slice A0 a0.rs.length c0] 24)))
    clear X0
    have q0_3 := (show (w.alloc (.cells #[.int .i64 a0.n, .slice A0 a0.rs.length c0] 24)).cell? ⟨w.heap.size, 0, none⟩ = some (.int .i64 a0.n) from cell_new _ _ _ _)
    have q1_4 := (show (w.alloc (.cells #[.int .i64 a0.n, .slice A0 a0.rs.length c0] 24)).cell? ⟨w.heap.size, 1, none⟩ = some (.slice A0 a0.rs.length c0) from cell_new _ _ _ _)
    have hbx5 : w.heap.size < (w.alloc (.cells #[.int .i64 a0.n, .slice A0 a0.rs.length c0] 24)).heap.size := by simp
    go_enter Tryz.func5, Tryz.ntmps5
    go_wp2_with fail
    refine (szChart_no _ _ _ a0 1048576 (by omega) (by omega) (X_2.out.up (by repeat (first | exact Chg.refl _ _ | apply Chg.drew | apply Chg.drewN | refine Chg.alloc ?_ _)))).mono ?_
    rintro e w6 ⟨rfl, g1⟩
    have G1 := Lib.hid g1
    have hz6 := G1.out.size
    clear g1
    have U_7 := Lib.hid (Chg.trans U_1.out (Chg.trans (by repeat (first | exact Chg.refl _ _ | apply Chg.drew | apply Chg.drewN | refine Chg.alloc ?_ _)) G1.out))
    clear U_1
    have X_8 := Lib.hid (X_2.out.up (Chg.trans (by repeat (first | exact Chg.refl _ _ | apply Chg.drew | apply Chg.drewN | refine Chg.alloc ?_ _)) G1.out))
    clear X_2
    have q0_9 := Chg.cell (Chg.trans (by repeat (first | exact Chg.refl _ _ | apply Chg.drew | apply Chg.drewN | refine Chg.alloc ?_ _)) G1.out) q0_3 id
    clear q0_3
    have q1_10 := Chg.cell (Chg.trans (by repeat (first | exact Chg.refl _ _ | apply Chg.drew | apply Chg.drewN | refine Chg.alloc ?_ _)) G1.out) q1_4 id
    clear q1_4
    clear G1
    go_wp2
    go_ret
    exact ⟨rfl, Up.below (Chg.trans U_7.out (by repeat (first | exact Chg.refl _ _ | apply Chg.drew | apply Chg.drewN | refine Chg.alloc ?_ _)))⟩
  exact walk0 w v0 a0 ha0 hbt
end fnExactCompileChart
end Go.Proofs.YtnjfhpgmogopnaaGreat
