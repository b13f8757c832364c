/- The program's CatchFloats answers as the reference's, for every colour chart and number; what it is given stays as it was, and its memory is its own. No condition. -/
import Derived.Test.YtchfjglofmphfaaCtcL
namespace Go.Proofs.Ytchfjglofmphfaa
open Go.ChangeShapes Go.WideShapes Go.ChangeAt Go.RowKit
namespace fnExactCatchFloats
set_option linter.unusedVariables false in
set_option maxRecDepth 100000 in
set_option maxHeartbeats 8000000 in
theorem walk0 (w : World) (v0 : Value) (a0 : ColM) (ha0 : ColA w (fun b => b < w.heap.size) v0 a0) (a1 : Int) (ia1 : I64 a1)  (hbt : (szCo a0 : Int) ≤ 1048576) :
    Calls Try.prog 4 #[v0, .int .i64 a1] w fun e w' => e = .returned (.bool true) ∧ Below w.heap.size w w' := by
  have U0 := Lib.hid (Chg.refl Nowhere w)
  obtain ⟨A0, c0, rfl, y0⟩ := openCol ha0
  have X0 := Lib.hid ha0
  clear ha0 y0
  have U_1 := Lib.hid (Chg.trans U0.out ((Chg.refl Nowhere w).alloc (.cells #[.int .i64 a0.n, .slice A0 a0.rs.length c0] 43)))
  clear U0
  have X0_2 := Lib.hid (X0.out.up ((Chg.refl Nowhere w).alloc (.cells #[.int .i64 a0.n, .slice A0 a0.rs.length c0] 43)))
  clear X0
  have q0_0_3 := (show (w.alloc (.cells #[.int .i64 a0.n, .slice A0 a0.rs.length c0] 43)).cell? ⟨w.heap.size, 0, none⟩ = some (.int .i64 a0.n) from cell_new _ _ _ _)
  have q0_1_4 := (show (w.alloc (.cells #[.int .i64 a0.n, .slice A0 a0.rs.length c0] 43)).cell? ⟨w.heap.size, 1, none⟩ = some (.slice A0 a0.rs.length c0) from cell_new _ _ _ _)
  have hbx5 : w.heap.size < (w.alloc (.cells #[.int .i64 a0.n, .slice A0 a0.rs.length c0] 43)).heap.size := by simp
  have hr0 : szCo a0 ≤ 1048576 := by omega
  go_enter Try.func4, Try.ntmps4
  have hd0 : decide ((1048576 : Int) - szCo a0 < 0) = false := decide_eq_false (by omega)
  go_wp2_with fail
  refine (szColA_ok _ _ _ a0 (1048576) (by omega) (by omega) (X0_2.out.up (by repeat (first | exact Chg.refl _ _ | apply Chg.drew | apply Chg.drewN | refine Chg.alloc ?_ _)))).mono ?_
  rintro e w6 ⟨rfl, g1⟩
  have G1 := Lib.hid g1
  obtain ⟨hy6, hz6⟩ := up_pre (show Up (w.alloc (.cells #[.int .i64 a0.n, .slice A0 a0.rs.length c0] 43)) _ from (by repeat (first | exact Chg.refl _ _ | apply Chg.drew | apply Chg.drewN | refine Chg.alloc ?_ _))) G1.out
  clear g1
  have U_7 := Lib.hid (Chg.trans U_1.out (Chg.trans (by repeat (first | exact Chg.refl _ _ | apply Chg.drew | apply Chg.drewN | refine Chg.alloc ?_ _)) G1.out))
  clear U_1
  have X0_8 := Lib.hid (X0_2.out.up (Chg.trans (by repeat (first | exact Chg.refl _ _ | apply Chg.drew | apply Chg.drewN | refine Chg.alloc ?_ _)) G1.out))
  clear X0_2
  have q0_0_9 := Chg.cell (Chg.trans (by repeat (first | exact Chg.refl _ _ | apply Chg.drew | apply Chg.drewN | refine Chg.alloc ?_ _)) G1.out) q0_0_3 id
  clear q0_0_3
  have q0_1_10 := Chg.cell (Chg.trans (by repeat (first | exact Chg.refl _ _ | apply Chg.drew | apply Chg.drewN | refine Chg.alloc ?_ _)) G1.out) q0_1_4 id
  clear q0_1_4
  clear G1
  go_wp2_with fail
  refine (toColA_any _ _ _ a0 (by omega) (X0_8.out.up (by repeat (first | exact Chg.refl _ _ | apply Chg.drew | apply Chg.drewN | refine Chg.alloc ?_ _)))).mono ?_
  rintro e w11 ⟨v11, rfl, k1, g1⟩
  have K1 := Lib.hid k1
  clear k1
  have G1 := Lib.hid g1
  obtain ⟨hy11, hz11⟩ := up_pre (show Up w6 _ from (by repeat (first | exact Chg.refl _ _ | apply Chg.drew | apply Chg.drewN | refine Chg.alloc ?_ _))) G1.out
  clear g1
  have U_12 := Lib.hid (Chg.trans U_7.out (Chg.trans (by repeat (first | exact Chg.refl _ _ | apply Chg.drew | apply Chg.drewN | refine Chg.alloc ?_ _)) G1.out))
  clear U_7
  have X0_13 := Lib.hid (X0_8.out.up (Chg.trans (by repeat (first | exact Chg.refl _ _ | apply Chg.drew | apply Chg.drewN | refine Chg.alloc ?_ _)) G1.out))
  clear X0_8
  have q0_0_14 := Chg.cell (Chg.trans (by repeat (first | exact Chg.refl _ _ | apply Chg.drew | apply Chg.drewN | refine Chg.alloc ?_ _)) G1.out) q0_0_9 id
  clear q0_0_9
  have q0_1_15 := Chg.cell (Chg.trans (by repeat (first | exact Chg.refl _ _ | apply Chg.drew | apply Chg.drewN | refine Chg.alloc ?_ _)) G1.out) q0_1_10 id
  clear q0_1_10
  clear G1
  have B0_16 := Lib.hid (K1.out)
  clear K1
  obtain ⟨As11, cs11, rfl, ys11⟩ := openCol B0_16.out
  clear ys11
  go_wp2_with fail
  refine (sCatchFloats_A _ _ _ a0 (B0_16.out.up (by repeat (first | exact Chg.refl _ _ | apply Chg.drew | apply Chg.drewN | refine Chg.alloc ?_ _))) a1).mono ?_
  rintro e w17 ⟨v17, rfl, k1, g1⟩
  have K1 := Lib.hid k1
  clear k1
  have G1 := Lib.hid g1
  obtain ⟨hy17, hz17⟩ := up_pre (show Up w11 _ from (by repeat (first | exact Chg.refl _ _ | apply Chg.drew | apply Chg.drewN | refine Chg.alloc ?_ _))) G1.out
  clear g1
  have U_18 := Lib.hid (Chg.trans U_12.out (Chg.trans (by repeat (first | exact Chg.refl _ _ | apply Chg.drew | apply Chg.drewN | refine Chg.alloc ?_ _)) G1.out))
  clear U_12
  have X0_19 := Lib.hid (X0_13.out.up (Chg.trans (by repeat (first | exact Chg.refl _ _ | apply Chg.drew | apply Chg.drewN | refine Chg.alloc ?_ _)) G1.out))
  clear X0_13
  have q0_0_20 := Chg.cell (Chg.trans (by repeat (first | exact Chg.refl _ _ | apply Chg.drew | apply Chg.drewN | refine Chg.alloc ?_ _)) G1.out) q0_0_14 id
  clear q0_0_14
  have q0_1_21 := Chg.cell (Chg.trans (by repeat (first | exact Chg.refl _ _ | apply Chg.drew | apply Chg.drewN | refine Chg.alloc ?_ _)) G1.out) q0_1_15 id
  clear q0_1_15
  have B0_22 := Lib.hid (B0_16.out.up (Chg.trans (by repeat (first | exact Chg.refl _ _ | apply Chg.drew | apply Chg.drewN | refine Chg.alloc ?_ _)) G1.out))
  clear B0_16
  clear G1
  have W0_23 := Lib.hid (K1.out)
  clear K1
  obtain ⟨As17, cs17, rfl, ys17, hls17, hcs17⟩ := openChartX W0_23.out
  clear ys17
  have hbq17_0 : w.heap.size < w17.heap.size := by omega
  clear B0_22
  go_wp2_with fail
  refine (toColA_any _ _ _ a0 (by omega) (X0_19.out.up (by repeat (first | exact Chg.refl _ _ | apply Chg.drew | apply Chg.drewN | refine Chg.alloc ?_ _)))).mono ?_
  rintro e w24 ⟨v24, rfl, k1, g1⟩
  have K1 := Lib.hid k1
  clear k1
  have G1 := Lib.hid g1
  obtain ⟨hy24, hz24⟩ := up_pre (show Up w17 _ from (by repeat (first | exact Chg.refl _ _ | apply Chg.drew | apply Chg.drewN | refine Chg.alloc ?_ _))) G1.out
  clear g1
  have U_25 := Lib.hid (Chg.trans U_18.out (Chg.trans (by repeat (first | exact Chg.refl _ _ | apply Chg.drew | apply Chg.drewN | refine Chg.alloc ?_ _)) G1.out))
  clear U_18
  have X0_26 := Lib.hid (X0_19.out.up (Chg.trans (by repeat (first | exact Chg.refl _ _ | apply Chg.drew | apply Chg.drewN | refine Chg.alloc ?_ _)) G1.out))
  clear X0_19
  have q0_0_27 := Chg.cell (Chg.trans (by repeat (first | exact Chg.refl _ _ | apply Chg.drew | apply Chg.drewN | refine Chg.alloc ?_ _)) G1.out) q0_0_20 id
  clear q0_0_20
  have q0_1_28 := Chg.cell (Chg.trans (by repeat (first | exact Chg.refl _ _ | apply Chg.drew | apply Chg.drewN | refine Chg.alloc ?_ _)) G1.out) q0_1_21 id
  clear q0_1_21
  have W0_29 := Lib.hid (W0_23.out.up (Chg.trans (by repeat (first | exact Chg.refl _ _ | apply Chg.drew | apply Chg.drewN | refine Chg.alloc ?_ _)) G1.out))
  clear W0_23
  obtain ⟨W0_0_30c, W0_0_30f⟩ := (show CellF w24 ⟨w17.heap.size, 0, none⟩ (.int .i64 (catchL a0 a1).n) from CellF.up G1.out (by repeat (first | ((refine cellF_at ?_ rfl); (simp; done)) | refine CellF.up ((Chg.refl _ _).alloc _) ?_)))
  obtain ⟨W0_1_31c, W0_1_31f⟩ := (show CellF w24 ⟨w17.heap.size, 1, none⟩ (.slice As17 (catchL a0 a1).rs.length cs17) from CellF.up G1.out (by repeat (first | ((refine cellF_at ?_ rfl); (simp; done)) | refine CellF.up ((Chg.refl _ _).alloc _) ?_)))
  clear G1
  have C0_32 := Lib.hid (K1.out)
  clear K1
  have hbz33 : w17.heap.size < w24.heap.size := World.block_lt_of_cell? _ _ W0_0_30c
  obtain ⟨As24, cs24, rfl, ys24⟩ := openCol C0_32.out
  clear ys24
  go_wp2_with fail
  refine (pCatchFloats_A _ _ _ a0 (C0_32.out.up (by repeat (first | exact Chg.refl _ _ | apply Chg.drew | apply Chg.drewN | refine Chg.alloc ?_ _))) a1).mono ?_
  rintro e w34 ⟨v34, rfl, k1, g1⟩
  have K1 := Lib.hid k1
  clear k1
  have G1 := Lib.hid g1
  obtain ⟨hy34, hz34⟩ := up_pre (show Up w24 _ from (by repeat (first | exact Chg.refl _ _ | apply Chg.drew | apply Chg.drewN | refine Chg.alloc ?_ _))) G1.out
  clear g1
  have U_35 := Lib.hid (Chg.trans U_25.out (Chg.trans (by repeat (first | exact Chg.refl _ _ | apply Chg.drew | apply Chg.drewN | refine Chg.alloc ?_ _)) G1.out))
  clear U_25
  have X0_36 := Lib.hid (X0_26.out.up (Chg.trans (by repeat (first | exact Chg.refl _ _ | apply Chg.drew | apply Chg.drewN | refine Chg.alloc ?_ _)) G1.out))
  clear X0_26
  have q0_0_37 := Chg.cell (Chg.trans (by repeat (first | exact Chg.refl _ _ | apply Chg.drew | apply Chg.drewN | refine Chg.alloc ?_ _)) G1.out) q0_0_27 id
  clear q0_0_27
  have q0_1_38 := Chg.cell (Chg.trans (by repeat (first | exact Chg.refl _ _ | apply Chg.drew | apply Chg.drewN | refine Chg.alloc ?_ _)) G1.out) q0_1_28 id
  clear q0_1_28
  have W0_39 := Lib.hid (W0_29.out.up (Chg.trans (by repeat (first | exact Chg.refl _ _ | apply Chg.drew | apply Chg.drewN | refine Chg.alloc ?_ _)) G1.out))
  clear W0_29
  obtain ⟨W0_0_40c, W0_0_40f⟩ := CellF.up (Chg.trans (by repeat (first | exact Chg.refl _ _ | apply Chg.drew | apply Chg.drewN | refine Chg.alloc ?_ _)) G1.out) ⟨W0_0_30c, W0_0_30f⟩
  clear W0_0_30c W0_0_30f
  obtain ⟨W0_1_41c, W0_1_41f⟩ := CellF.up (Chg.trans (by repeat (first | exact Chg.refl _ _ | apply Chg.drew | apply Chg.drewN | refine Chg.alloc ?_ _)) G1.out) ⟨W0_1_31c, W0_1_31f⟩
  clear W0_1_31c W0_1_31f
  have C0_42 := Lib.hid (C0_32.out.up (Chg.trans (by repeat (first | exact Chg.refl _ _ | apply Chg.drew | apply Chg.drewN | refine Chg.alloc ?_ _)) G1.out))
  clear C0_32
  obtain ⟨x0_0_43c, x0_0_43f⟩ := (show CellF w34 ⟨w24.heap.size, 0, none⟩ (.int .i64 a0.n) from CellF.up G1.out (by repeat (first | ((refine cellF_at ?_ rfl); (simp; done)) | refine CellF.up ((Chg.refl _ _).alloc _) ?_)))
  obtain ⟨x0_1_44c, x0_1_44f⟩ := (show CellF w34 ⟨w24.heap.size, 1, none⟩ (.slice As24 a0.rs.length cs24) from CellF.up G1.out (by repeat (first | ((refine cellF_at ?_ rfl); (simp; done)) | refine CellF.up ((Chg.refl _ _).alloc _) ?_)))
  clear G1
  have R0_45 := Lib.hid (K1.out)
  clear K1
  have hbz46 : w24.heap.size < w34.heap.size := World.block_lt_of_cell? _ _ x0_0_43c
  obtain ⟨As34, cs34, rfl, ys34, hls34, hcs34⟩ := openChartX R0_45.out
  clear ys34
  have hbq34_0 : w.heap.size < w34.heap.size := by omega
  have hbr34_0 : w17.heap.size < w34.heap.size := by omega
  have hbr34_1 : w24.heap.size < w34.heap.size := by omega
  go_wp2_with fail
  refine (eqChartX_same _ _ _ _ _ (catchL a0 a1) (R0_45.out.up (by repeat (first | exact Chg.refl _ _ | apply Chg.drew | apply Chg.drewN | refine Chg.alloc ?_ _))) (W0_39.out.up (by repeat (first | exact Chg.refl _ _ | apply Chg.drew | apply Chg.drewN | refine Chg.alloc ?_ _)))).mono ?_
  rintro e w47 ⟨rfl, g1⟩
  have G1 := Lib.hid g1
  obtain ⟨hy47, hz47⟩ := up_pre (show Up w34 _ from (by repeat (first | exact Chg.refl _ _ | apply Chg.drew | apply Chg.drewN | refine Chg.alloc ?_ _))) G1.out
  clear g1
  have U_48 := Lib.hid (Chg.trans U_35.out (Chg.trans (by repeat (first | exact Chg.refl _ _ | apply Chg.drew | apply Chg.drewN | refine Chg.alloc ?_ _)) G1.out))
  clear U_35
  have X0_49 := Lib.hid (X0_36.out.up (Chg.trans (by repeat (first | exact Chg.refl _ _ | apply Chg.drew | apply Chg.drewN | refine Chg.alloc ?_ _)) G1.out))
  clear X0_36
  have q0_0_50 := Chg.cell (Chg.trans (by repeat (first | exact Chg.refl _ _ | apply Chg.drew | apply Chg.drewN | refine Chg.alloc ?_ _)) G1.out) q0_0_37 id
  clear q0_0_37
  have q0_1_51 := Chg.cell (Chg.trans (by repeat (first | exact Chg.refl _ _ | apply Chg.drew | apply Chg.drewN | refine Chg.alloc ?_ _)) G1.out) q0_1_38 id
  clear q0_1_38
  have W0_52 := Lib.hid (W0_39.out.up (Chg.trans (by repeat (first | exact Chg.refl _ _ | apply Chg.drew | apply Chg.drewN | refine Chg.alloc ?_ _)) G1.out))
  clear W0_39
  obtain ⟨W0_0_53c, W0_0_53f⟩ := CellF.up (Chg.trans (by repeat (first | exact Chg.refl _ _ | apply Chg.drew | apply Chg.drewN | refine Chg.alloc ?_ _)) G1.out) ⟨W0_0_40c, W0_0_40f⟩
  clear W0_0_40c W0_0_40f
  obtain ⟨W0_1_54c, W0_1_54f⟩ := CellF.up (Chg.trans (by repeat (first | exact Chg.refl _ _ | apply Chg.drew | apply Chg.drewN | refine Chg.alloc ?_ _)) G1.out) ⟨W0_1_41c, W0_1_41f⟩
  clear W0_1_41c W0_1_41f
  have C0_55 := Lib.hid (C0_42.out.up (Chg.trans (by repeat (first | exact Chg.refl _ _ | apply Chg.drew | apply Chg.drewN | refine Chg.alloc ?_ _)) G1.out))
  clear C0_42
  obtain ⟨x0_0_56c, x0_0_56f⟩ := CellF.up (Chg.trans (by repeat (first | exact Chg.refl _ _ | apply Chg.drew | apply Chg.drewN | refine Chg.alloc ?_ _)) G1.out) ⟨x0_0_43c, x0_0_43f⟩
  clear x0_0_43c x0_0_43f
  obtain ⟨x0_1_57c, x0_1_57f⟩ := CellF.up (Chg.trans (by repeat (first | exact Chg.refl _ _ | apply Chg.drew | apply Chg.drewN | refine Chg.alloc ?_ _)) G1.out) ⟨x0_1_44c, x0_1_44f⟩
  clear x0_1_44c x0_1_44f
  have R0_58 := Lib.hid (R0_45.out.up (Chg.trans (by repeat (first | exact Chg.refl _ _ | apply Chg.drew | apply Chg.drewN | refine Chg.alloc ?_ _)) G1.out))
  clear R0_45
  obtain ⟨R0_0_59c, R0_0_59f⟩ := (show CellF w47 ⟨w34.heap.size, 0, none⟩ (.int .i64 (catchL a0 a1).n) from CellF.up G1.out (by repeat (first | ((refine cellF_at ?_ rfl); (simp; done)) | refine CellF.up ((Chg.refl _ _).alloc _) ?_)))
  obtain ⟨R0_1_60c, R0_1_60f⟩ := (show CellF w47 ⟨w34.heap.size, 1, none⟩ (.slice As34 (catchL a0 a1).rs.length cs34) from CellF.up G1.out (by repeat (first | ((refine cellF_at ?_ rfl); (simp; done)) | refine CellF.up ((Chg.refl _ _).alloc _) ?_)))
  clear G1
  have hbz61 : w34.heap.size < w47.heap.size := World.block_lt_of_cell? _ _ R0_0_59c
  go_wp2
  go_region_held3 (fun w' => w'.cell? ⟨w.heap.size, 0, none⟩ = some (.int .i64 a0.n) ∧ w'.cell? ⟨w.heap.size, 1, none⟩ = some (.slice A0 a0.rs.length c0) ∧ w'.cell? ⟨w24.heap.size, 0, none⟩ = some (.int .i64 a0.n) ∧ w'.cell? ⟨w24.heap.size, 1, none⟩ = some (.slice As24 a0.rs.length cs24))
      (first | (exact ⟨q0_0_50, q0_1_51, x0_0_56c, x0_1_57c⟩) | (obtain ⟨p0, p1, p2, p3⟩ : (World.cell? _ _ = _ ∧ World.cell? _ _ = _ ∧ World.cell? _ _ = _ ∧ World.cell? _ _ = _) := (by assumption); exact ⟨Chg.cell g1 p0 id, Chg.cell g1 p1 id, Chg.cell g1 p2 id, Chg.cell g1 p3 id⟩))
      (first | (go_at_call 18; refine (toColA_any _ _ _ a0 (by omega) (X0_49.out.up (by repeat (first | exact Chg.refl _ _ | apply Chg.drew | apply Chg.drewN | refine Chg.alloc ?_ _)))).mono ?_; rintro e w62 ⟨v62, rfl, k1, g1⟩; obtain ⟨As62, cs62, rfl, ys62⟩ := openCol k1; have K1 := Lib.hid k1; clear k1 ys62; have G1 := Lib.hid g1; obtain ⟨hy62, hz62⟩ := up_pre (show Up w47 _ from (by repeat (first | exact Chg.refl _ _ | apply Chg.drew | apply Chg.drewN | refine Chg.alloc ?_ _))) G1.out; have U_64 := Lib.hid (Chg.trans U_48.out (Chg.trans (by repeat (first | exact Chg.refl _ _ | apply Chg.drew | apply Chg.drewN | refine Chg.alloc ?_ _)) G1.out)); have X0_65 := Lib.hid (X0_49.out.up (Chg.trans (by repeat (first | exact Chg.refl _ _ | apply Chg.drew | apply Chg.drewN | refine Chg.alloc ?_ _)) G1.out)); have W0_66 := Lib.hid (W0_52.out.up (Chg.trans (by repeat (first | exact Chg.refl _ _ | apply Chg.drew | apply Chg.drewN | refine Chg.alloc ?_ _)) G1.out)); obtain ⟨W0_0_67c, W0_0_67f⟩ := CellF.up (Chg.trans (by repeat (first | exact Chg.refl _ _ | apply Chg.drew | apply Chg.drewN | refine Chg.alloc ?_ _)) G1.out) ⟨W0_0_53c, W0_0_53f⟩; obtain ⟨W0_1_68c, W0_1_68f⟩ := CellF.up (Chg.trans (by repeat (first | exact Chg.refl _ _ | apply Chg.drew | apply Chg.drewN | refine Chg.alloc ?_ _)) G1.out) ⟨W0_1_54c, W0_1_54f⟩; have C0_69 := Lib.hid (C0_55.out.up (Chg.trans (by repeat (first | exact Chg.refl _ _ | apply Chg.drew | apply Chg.drewN | refine Chg.alloc ?_ _)) G1.out)); have R0_70 := Lib.hid (R0_58.out.up (Chg.trans (by repeat (first | exact Chg.refl _ _ | apply Chg.drew | apply Chg.drewN | refine Chg.alloc ?_ _)) G1.out)); obtain ⟨R0_0_71c, R0_0_71f⟩ := CellF.up (Chg.trans (by repeat (first | exact Chg.refl _ _ | apply Chg.drew | apply Chg.drewN | refine Chg.alloc ?_ _)) G1.out) ⟨R0_0_59c, R0_0_59f⟩; obtain ⟨R0_1_72c, R0_1_72f⟩ := CellF.up (Chg.trans (by repeat (first | exact Chg.refl _ _ | apply Chg.drew | apply Chg.drewN | refine Chg.alloc ?_ _)) G1.out) ⟨R0_1_60c, R0_1_60f⟩) | (go_at_call 21; refine (eqColA_same _ _ _ _ _ a0 (C0_69.out.up (by repeat (first | exact Chg.refl _ _ | apply Chg.drew | apply Chg.drewN | refine Chg.alloc ?_ _))) (K1.out.up (by repeat (first | exact Chg.refl _ _ | apply Chg.drew | apply Chg.drewN | refine Chg.alloc ?_ _)))).mono ?_; rintro e w63 ⟨rfl, g1⟩; have G2 := Lib.hid g1; obtain ⟨hy63, hz63⟩ := up_pre (show Up w62 _ from (by repeat (first | exact Chg.refl _ _ | apply Chg.drew | apply Chg.drewN | refine Chg.alloc ?_ _))) G2.out; have U_73 := Lib.hid (Chg.trans U_64.out (Chg.trans (by repeat (first | exact Chg.refl _ _ | apply Chg.drew | apply Chg.drewN | refine Chg.alloc ?_ _)) G2.out)); have X0_74 := Lib.hid (X0_65.out.up (Chg.trans (by repeat (first | exact Chg.refl _ _ | apply Chg.drew | apply Chg.drewN | refine Chg.alloc ?_ _)) G2.out)); have W0_75 := Lib.hid (W0_66.out.up (Chg.trans (by repeat (first | exact Chg.refl _ _ | apply Chg.drew | apply Chg.drewN | refine Chg.alloc ?_ _)) G2.out)); obtain ⟨W0_0_76c, W0_0_76f⟩ := CellF.up (Chg.trans (by repeat (first | exact Chg.refl _ _ | apply Chg.drew | apply Chg.drewN | refine Chg.alloc ?_ _)) G2.out) ⟨W0_0_67c, W0_0_67f⟩; obtain ⟨W0_1_77c, W0_1_77f⟩ := CellF.up (Chg.trans (by repeat (first | exact Chg.refl _ _ | apply Chg.drew | apply Chg.drewN | refine Chg.alloc ?_ _)) G2.out) ⟨W0_1_68c, W0_1_68f⟩; have C0_78 := Lib.hid (C0_69.out.up (Chg.trans (by repeat (first | exact Chg.refl _ _ | apply Chg.drew | apply Chg.drewN | refine Chg.alloc ?_ _)) G2.out)); have R0_79 := Lib.hid (R0_70.out.up (Chg.trans (by repeat (first | exact Chg.refl _ _ | apply Chg.drew | apply Chg.drewN | refine Chg.alloc ?_ _)) G2.out)); obtain ⟨R0_0_80c, R0_0_80f⟩ := CellF.up (Chg.trans (by repeat (first | exact Chg.refl _ _ | apply Chg.drew | apply Chg.drewN | refine Chg.alloc ?_ _)) G2.out) ⟨R0_0_71c, R0_0_71f⟩; obtain ⟨R0_1_81c, R0_1_81f⟩ := CellF.up (Chg.trans (by repeat (first | exact Chg.refl _ _ | apply Chg.drew | apply Chg.drewN | refine Chg.alloc ?_ _)) G2.out) ⟨R0_1_72c, R0_1_72f⟩))
  have q0_0_82 := Chg.cell (Chg.trans (Chg.trans (by repeat (first | exact Chg.refl _ _ | apply Chg.drew | apply Chg.drewN | refine Chg.alloc ?_ _)) G1.out) (Chg.trans (by repeat (first | exact Chg.refl _ _ | apply Chg.drew | apply Chg.drewN | refine Chg.alloc ?_ _)) G2.out)) q0_0_50 id
  have q0_1_83 := Chg.cell (Chg.trans (Chg.trans (by repeat (first | exact Chg.refl _ _ | apply Chg.drew | apply Chg.drewN | refine Chg.alloc ?_ _)) G1.out) (Chg.trans (by repeat (first | exact Chg.refl _ _ | apply Chg.drew | apply Chg.drewN | refine Chg.alloc ?_ _)) G2.out)) q0_1_51 id
  obtain ⟨x0_0_84c, x0_0_84f⟩ := CellF.up (Chg.trans (Chg.trans (by repeat (first | exact Chg.refl _ _ | apply Chg.drew | apply Chg.drewN | refine Chg.alloc ?_ _)) G1.out) (Chg.trans (by repeat (first | exact Chg.refl _ _ | apply Chg.drew | apply Chg.drewN | refine Chg.alloc ?_ _)) G2.out)) ⟨x0_0_56c, x0_0_56f⟩
  obtain ⟨x0_1_85c, x0_1_85f⟩ := CellF.up (Chg.trans (Chg.trans (by repeat (first | exact Chg.refl _ _ | apply Chg.drew | apply Chg.drewN | refine Chg.alloc ?_ _)) G1.out) (Chg.trans (by repeat (first | exact Chg.refl _ _ | apply Chg.drew | apply Chg.drewN | refine Chg.alloc ?_ _)) G2.out)) ⟨x0_1_57c, x0_1_57f⟩
  clear g1 G1 G2 K1
  clear U_48
  clear X0_49
  clear q0_0_50
  clear q0_1_51
  clear W0_52
  clear W0_0_53c W0_0_53f
  clear W0_1_54c W0_1_54f
  clear C0_55
  clear x0_0_56c x0_0_56f
  clear x0_1_57c x0_1_57f
  clear R0_58
  clear R0_0_59c R0_0_59f
  clear R0_1_60c R0_1_60f
  clear U_64
  clear X0_65
  clear W0_66
  clear W0_0_67c W0_0_67f
  clear W0_1_68c W0_1_68f
  clear C0_69
  clear R0_70
  clear R0_0_71c R0_0_71f
  clear R0_1_72c R0_1_72f
  have hp0 : (0 : Int) ≤ (1 : Int) := by omega
  have hr0' : cSSB a0.rs ≤ 8388608 := by have := cCol_le a0; omega
  have hq0 : (1 : Int) + cSSB a0.rs ≤ 4611686018427387904 := by omega
  go_wp2_with fail
  refine (markColA_any _ _ _ a0 ((1 : Int)) hp0 hq0 (C0_78.out.up (by repeat (first | exact Chg.refl _ _ | apply Chg.drew | apply Chg.drewN | refine Chg.alloc ?_ _)))).mono ?_
  rintro e w86 ⟨rfl, g1⟩
  have G1 := Lib.hid g1
  obtain ⟨hy86, hz86⟩ := up_pre (show Up w63 _ from (by repeat (first | exact Chg.refl _ _ | apply Chg.drew | apply Chg.drewN | refine Chg.alloc ?_ _))) G1.out
  clear g1
  clear C0_78
  clear x0_0_84c x0_0_84f
  clear x0_1_85c x0_1_85f
  have U_87 := Lib.hid (Chg.new (Chg.trans U_73.out (by repeat (first | exact Chg.refl _ _ | apply Chg.drew | apply Chg.drewN | refine Chg.alloc ?_ _))) G1.out (fun i hi h2 => by simp only [New] at h2; first | omega | (simp at h2; omega)))
  clear U_73
  have X0_88 := Lib.hid ((X0_74.out.up (by repeat (first | exact Chg.refl _ _ | apply Chg.drew | apply Chg.drewN | refine Chg.alloc ?_ _))).keep G1.out (fun b hb h1 h2 => by simp only [New] at h1 h2; first | omega | (simp at h1 h2; omega)))
  clear X0_74
  have W0_89 := Lib.hid ((W0_75.out.up (by repeat (first | exact Chg.refl _ _ | apply Chg.drew | apply Chg.drewN | refine Chg.alloc ?_ _))).keep G1.out (fun b hb h1 h2 => by simp only [New] at h1 h2; first | omega | (simp at h1 h2; omega)))
  clear W0_75
  obtain ⟨W0_0_90c, W0_0_90f⟩ := CellF.keep G1.out (CellF.up (by repeat (first | exact Chg.refl _ _ | apply Chg.drew | apply Chg.drewN | refine Chg.alloc ?_ _)) ⟨W0_0_76c, W0_0_76f⟩) (fun h2 => by simp only [New] at h2; first | omega | (simp at h2; omega))
  clear W0_0_76c W0_0_76f
  obtain ⟨W0_1_91c, W0_1_91f⟩ := CellF.keep G1.out (CellF.up (by repeat (first | exact Chg.refl _ _ | apply Chg.drew | apply Chg.drewN | refine Chg.alloc ?_ _)) ⟨W0_1_77c, W0_1_77f⟩) (fun h2 => by simp only [New] at h2; first | omega | (simp at h2; omega))
  clear W0_1_77c W0_1_77f
  have R0_92 := Lib.hid ((R0_79.out.up (by repeat (first | exact Chg.refl _ _ | apply Chg.drew | apply Chg.drewN | refine Chg.alloc ?_ _))).keep G1.out (fun b hb h1 h2 => by simp only [New] at h1 h2; first | omega | (simp at h1 h2; omega)))
  clear R0_79
  obtain ⟨R0_0_93c, R0_0_93f⟩ := CellF.keep G1.out (CellF.up (by repeat (first | exact Chg.refl _ _ | apply Chg.drew | apply Chg.drewN | refine Chg.alloc ?_ _)) ⟨R0_0_80c, R0_0_80f⟩) (fun h2 => by simp only [New] at h2; first | omega | (simp at h2; omega))
  clear R0_0_80c R0_0_80f
  obtain ⟨R0_1_94c, R0_1_94f⟩ := CellF.keep G1.out (CellF.up (by repeat (first | exact Chg.refl _ _ | apply Chg.drew | apply Chg.drewN | refine Chg.alloc ?_ _)) ⟨R0_1_81c, R0_1_81f⟩) (fun h2 => by simp only [New] at h2; first | omega | (simp at h2; omega))
  clear R0_1_81c R0_1_81f
  have q0_0_95 := Chg.cell G1.out (Chg.cell (S := Nowhere) (by repeat (first | exact Chg.refl _ _ | apply Chg.drew | apply Chg.drewN | refine Chg.alloc ?_ _)) q0_0_82 id) (fun h2 => by simp only [New] at h2; first | omega | (simp at h2; omega))
  clear q0_0_82
  have q0_1_96 := Chg.cell G1.out (Chg.cell (S := Nowhere) (by repeat (first | exact Chg.refl _ _ | apply Chg.drew | apply Chg.drewN | refine Chg.alloc ?_ _)) q0_1_83 id) (fun h2 => by simp only [New] at h2; first | omega | (simp at h2; omega))
  clear q0_1_83
  clear G1
  have hneg : decide (((1 : Int) + cSSB a0.rs : Int) < 0) = false := decide_eq_false (by omega)
  go_wp2_with fail
  refine (eqChartX_same _ _ _ _ _ (catchL a0 a1) (R0_92.out.up (by repeat (first | exact Chg.refl _ _ | apply Chg.drew | apply Chg.drewN | refine Chg.alloc ?_ _))) (W0_89.out.up (by repeat (first | exact Chg.refl _ _ | apply Chg.drew | apply Chg.drewN | refine Chg.alloc ?_ _)))).mono ?_
  rintro e w97 ⟨rfl, g1⟩
  have G1 := Lib.hid g1
  obtain ⟨hy97, hz97⟩ := up_pre (show Up w86 _ from (by repeat (first | exact Chg.refl _ _ | apply Chg.drew | apply Chg.drewN | refine Chg.alloc ?_ _))) G1.out
  clear g1
  have U_98 := Lib.hid (Chg.trans U_87.out (Chg.trans (by repeat (first | exact Chg.refl _ _ | apply Chg.drew | apply Chg.drewN | refine Chg.alloc ?_ _)) G1.out))
  clear U_87
  have X0_99 := Lib.hid (X0_88.out.up (Chg.trans (by repeat (first | exact Chg.refl _ _ | apply Chg.drew | apply Chg.drewN | refine Chg.alloc ?_ _)) G1.out))
  clear X0_88
  have W0_100 := Lib.hid (W0_89.out.up (Chg.trans (by repeat (first | exact Chg.refl _ _ | apply Chg.drew | apply Chg.drewN | refine Chg.alloc ?_ _)) G1.out))
  clear W0_89
  obtain ⟨W0_0_101c, W0_0_101f⟩ := CellF.up (Chg.trans (by repeat (first | exact Chg.refl _ _ | apply Chg.drew | apply Chg.drewN | refine Chg.alloc ?_ _)) G1.out) ⟨W0_0_90c, W0_0_90f⟩
  clear W0_0_90c W0_0_90f
  obtain ⟨W0_1_102c, W0_1_102f⟩ := CellF.up (Chg.trans (by repeat (first | exact Chg.refl _ _ | apply Chg.drew | apply Chg.drewN | refine Chg.alloc ?_ _)) G1.out) ⟨W0_1_91c, W0_1_91f⟩
  clear W0_1_91c W0_1_91f
  have R0_103 := Lib.hid (R0_92.out.up (Chg.trans (by repeat (first | exact Chg.refl _ _ | apply Chg.drew | apply Chg.drewN | refine Chg.alloc ?_ _)) G1.out))
  clear R0_92
  obtain ⟨R0_0_104c, R0_0_104f⟩ := CellF.up (Chg.trans (by repeat (first | exact Chg.refl _ _ | apply Chg.drew | apply Chg.drewN | refine Chg.alloc ?_ _)) G1.out) ⟨R0_0_93c, R0_0_93f⟩
  clear R0_0_93c R0_0_93f
  obtain ⟨R0_1_105c, R0_1_105f⟩ := CellF.up (Chg.trans (by repeat (first | exact Chg.refl _ _ | apply Chg.drew | apply Chg.drewN | refine Chg.alloc ?_ _)) G1.out) ⟨R0_1_94c, R0_1_94f⟩
  clear R0_1_94c R0_1_94f
  have q0_0_106 := Chg.cell (Chg.trans (by repeat (first | exact Chg.refl _ _ | apply Chg.drew | apply Chg.drewN | refine Chg.alloc ?_ _)) G1.out) q0_0_95 id
  clear q0_0_95
  have q0_1_107 := Chg.cell (Chg.trans (by repeat (first | exact Chg.refl _ _ | apply Chg.drew | apply Chg.drewN | refine Chg.alloc ?_ _)) G1.out) q0_1_96 id
  clear q0_1_96
  clear G1
  clear hneg
  have HR := Lib.hid (catchL_cnt a0 a1)
  have hr1_0 : (0 : Int) ≤ 1 := by omega
  have hr2_0 : (1 : Int) + cntChart (catchL a0 a1) ≤ 4611686018427387904 := by have := HR.out; omega
  go_wp2_with fail
  refine (markChart_res _ _ _ (catchL a0 a1) (1) hr1_0 hr2_0 (R0_103.out.up (by repeat (first | exact Chg.refl _ _ | apply Chg.drew | apply Chg.drewN | refine Chg.alloc ?_ _)))).mono ?_
  rintro e w108 ⟨rfl, g1, k1⟩
  have G1 := Lib.hid g1
  obtain ⟨hy108, hz108⟩ := up_pre (show Up w97 _ from (by repeat (first | exact Chg.refl _ _ | apply Chg.drew | apply Chg.drewN | refine Chg.alloc ?_ _))) G1.out
  have K1 := Lib.hid k1
  clear g1 k1
  clear R0_103
  have U_109 := Lib.hid (Chg.new (Chg.trans U_98.out (by repeat (first | exact Chg.refl _ _ | apply Chg.drew | apply Chg.drewN | refine Chg.alloc ?_ _))) G1.out (fun i hi h2 => by simp only [New] at h2; first | omega | (simp at h2; omega)))
  clear U_98
  have X0_110 := Lib.hid ((X0_99.out.up (by repeat (first | exact Chg.refl _ _ | apply Chg.drew | apply Chg.drewN | refine Chg.alloc ?_ _))).keep G1.out (fun b hb h1 h2 => by simp only [New] at h1 h2; first | omega | (simp at h1 h2; omega)))
  clear X0_99
  have W0_111 := Lib.hid ((W0_100.out.up (by repeat (first | exact Chg.refl _ _ | apply Chg.drew | apply Chg.drewN | refine Chg.alloc ?_ _))).keep G1.out (fun b hb h1 h2 => by simp only [New] at h1 h2; first | omega | (simp at h1 h2; omega)))
  clear W0_100
  obtain ⟨W0_0_112c, W0_0_112f⟩ := CellF.keep G1.out (CellF.up (by repeat (first | exact Chg.refl _ _ | apply Chg.drew | apply Chg.drewN | refine Chg.alloc ?_ _)) ⟨W0_0_101c, W0_0_101f⟩) (fun h2 => by simp only [New] at h2; first | omega | (simp at h2; omega))
  clear W0_0_101c W0_0_101f
  obtain ⟨W0_1_113c, W0_1_113f⟩ := CellF.keep G1.out (CellF.up (by repeat (first | exact Chg.refl _ _ | apply Chg.drew | apply Chg.drewN | refine Chg.alloc ?_ _)) ⟨W0_1_102c, W0_1_102f⟩) (fun h2 => by simp only [New] at h2; first | omega | (simp at h2; omega))
  clear W0_1_102c W0_1_102f
  obtain ⟨R0_0_114c, R0_0_114f⟩ := CellF.keep G1.out (CellF.up (by repeat (first | exact Chg.refl _ _ | apply Chg.drew | apply Chg.drewN | refine Chg.alloc ?_ _)) ⟨R0_0_104c, R0_0_104f⟩) (fun h2 => by simp only [New] at h2; first | omega | (simp at h2; omega))
  clear R0_0_104c R0_0_104f
  obtain ⟨R0_1_115c, R0_1_115f⟩ := CellF.keep G1.out (CellF.up (by repeat (first | exact Chg.refl _ _ | apply Chg.drew | apply Chg.drewN | refine Chg.alloc ?_ _)) ⟨R0_1_105c, R0_1_105f⟩) (fun h2 => by simp only [New] at h2; first | omega | (simp at h2; omega))
  clear R0_1_105c R0_1_105f
  have q0_0_116 := Chg.cell G1.out (Chg.cell (S := Nowhere) (by repeat (first | exact Chg.refl _ _ | apply Chg.drew | apply Chg.drewN | refine Chg.alloc ?_ _)) q0_0_106 id) (fun h2 => by simp only [New] at h2; first | omega | (simp at h2; omega))
  clear q0_0_106
  have q0_1_117 := Chg.cell G1.out (Chg.cell (S := Nowhere) (by repeat (first | exact Chg.refl _ _ | apply Chg.drew | apply Chg.drewN | refine Chg.alloc ?_ _)) q0_1_107 id) (fun h2 => by simp only [New] at h2; first | omega | (simp at h2; omega))
  clear q0_1_107
  clear G1
  have M0_118 := Lib.hid (K1.out)
  clear K1
  have hneg0 : decide ((1 : Int) + cntChart (catchL a0 a1) < 0) = false := decide_eq_false (by omega)
  go_wp2_with fail
  refine (heldChart_any _ _ _ (catchL a0 a1) (1) hr1_0 hr2_0 (M0_118.out.up (by repeat (first | exact Chg.refl _ _ | apply Chg.drew | apply Chg.drewN | refine Chg.alloc ?_ _)))).mono ?_
  rintro e w119 ⟨rfl, g1⟩
  have G1 := Lib.hid g1
  obtain ⟨hy119, hz119⟩ := up_pre (show Up w108 _ from (by repeat (first | exact Chg.refl _ _ | apply Chg.drew | apply Chg.drewN | refine Chg.alloc ?_ _))) G1.out
  clear g1
  have U_120 := Lib.hid (Chg.trans U_109.out (Chg.trans (by repeat (first | exact Chg.refl _ _ | apply Chg.drew | apply Chg.drewN | refine Chg.alloc ?_ _)) G1.out))
  clear U_109
  have X0_121 := Lib.hid (X0_110.out.up (Chg.trans (by repeat (first | exact Chg.refl _ _ | apply Chg.drew | apply Chg.drewN | refine Chg.alloc ?_ _)) G1.out))
  clear X0_110
  have W0_122 := Lib.hid (W0_111.out.up (Chg.trans (by repeat (first | exact Chg.refl _ _ | apply Chg.drew | apply Chg.drewN | refine Chg.alloc ?_ _)) G1.out))
  clear W0_111
  obtain ⟨W0_0_123c, W0_0_123f⟩ := CellF.up (Chg.trans (by repeat (first | exact Chg.refl _ _ | apply Chg.drew | apply Chg.drewN | refine Chg.alloc ?_ _)) G1.out) ⟨W0_0_112c, W0_0_112f⟩
  clear W0_0_112c W0_0_112f
  obtain ⟨W0_1_124c, W0_1_124f⟩ := CellF.up (Chg.trans (by repeat (first | exact Chg.refl _ _ | apply Chg.drew | apply Chg.drewN | refine Chg.alloc ?_ _)) G1.out) ⟨W0_1_113c, W0_1_113f⟩
  clear W0_1_113c W0_1_113f
  obtain ⟨R0_0_125c, R0_0_125f⟩ := CellF.up (Chg.trans (by repeat (first | exact Chg.refl _ _ | apply Chg.drew | apply Chg.drewN | refine Chg.alloc ?_ _)) G1.out) ⟨R0_0_114c, R0_0_114f⟩
  clear R0_0_114c R0_0_114f
  obtain ⟨R0_1_126c, R0_1_126f⟩ := CellF.up (Chg.trans (by repeat (first | exact Chg.refl _ _ | apply Chg.drew | apply Chg.drewN | refine Chg.alloc ?_ _)) G1.out) ⟨R0_1_115c, R0_1_115f⟩
  clear R0_1_115c R0_1_115f
  have q0_0_127 := Chg.cell (Chg.trans (by repeat (first | exact Chg.refl _ _ | apply Chg.drew | apply Chg.drewN | refine Chg.alloc ?_ _)) G1.out) q0_0_116 id
  clear q0_0_116
  have q0_1_128 := Chg.cell (Chg.trans (by repeat (first | exact Chg.refl _ _ | apply Chg.drew | apply Chg.drewN | refine Chg.alloc ?_ _)) G1.out) q0_1_117 id
  clear q0_1_117
  have M0_129 := Lib.hid (M0_118.out.up (Chg.trans (by repeat (first | exact Chg.refl _ _ | apply Chg.drew | apply Chg.drewN | refine Chg.alloc ?_ _)) G1.out))
  clear M0_118
  clear G1
  go_wp2_with fail
  refine (toColA_any _ _ _ a0 (by omega) (X0_121.out.up (by repeat (first | exact Chg.refl _ _ | apply Chg.drew | apply Chg.drewN | refine Chg.alloc ?_ _)))).mono ?_
  rintro e w130 ⟨v130, rfl, k1, g1⟩
  have K1 := Lib.hid k1
  clear k1
  have G1 := Lib.hid g1
  obtain ⟨hy130, hz130⟩ := up_pre (show Up w119 _ from (by repeat (first | exact Chg.refl _ _ | apply Chg.drew | apply Chg.drewN | refine Chg.alloc ?_ _))) G1.out
  clear g1
  have U_131 := Lib.hid (Chg.trans U_120.out (Chg.trans (by repeat (first | exact Chg.refl _ _ | apply Chg.drew | apply Chg.drewN | refine Chg.alloc ?_ _)) G1.out))
  clear U_120
  have X0_132 := Lib.hid (X0_121.out.up (Chg.trans (by repeat (first | exact Chg.refl _ _ | apply Chg.drew | apply Chg.drewN | refine Chg.alloc ?_ _)) G1.out))
  clear X0_121
  have W0_133 := Lib.hid (W0_122.out.up (Chg.trans (by repeat (first | exact Chg.refl _ _ | apply Chg.drew | apply Chg.drewN | refine Chg.alloc ?_ _)) G1.out))
  clear W0_122
  obtain ⟨W0_0_134c, W0_0_134f⟩ := CellF.up (Chg.trans (by repeat (first | exact Chg.refl _ _ | apply Chg.drew | apply Chg.drewN | refine Chg.alloc ?_ _)) G1.out) ⟨W0_0_123c, W0_0_123f⟩
  clear W0_0_123c W0_0_123f
  obtain ⟨W0_1_135c, W0_1_135f⟩ := CellF.up (Chg.trans (by repeat (first | exact Chg.refl _ _ | apply Chg.drew | apply Chg.drewN | refine Chg.alloc ?_ _)) G1.out) ⟨W0_1_124c, W0_1_124f⟩
  clear W0_1_124c W0_1_124f
  obtain ⟨R0_0_136c, R0_0_136f⟩ := CellF.up (Chg.trans (by repeat (first | exact Chg.refl _ _ | apply Chg.drew | apply Chg.drewN | refine Chg.alloc ?_ _)) G1.out) ⟨R0_0_125c, R0_0_125f⟩
  clear R0_0_125c R0_0_125f
  obtain ⟨R0_1_137c, R0_1_137f⟩ := CellF.up (Chg.trans (by repeat (first | exact Chg.refl _ _ | apply Chg.drew | apply Chg.drewN | refine Chg.alloc ?_ _)) G1.out) ⟨R0_1_126c, R0_1_126f⟩
  clear R0_1_126c R0_1_126f
  have q0_0_138 := Chg.cell (Chg.trans (by repeat (first | exact Chg.refl _ _ | apply Chg.drew | apply Chg.drewN | refine Chg.alloc ?_ _)) G1.out) q0_0_127 id
  clear q0_0_127
  have q0_1_139 := Chg.cell (Chg.trans (by repeat (first | exact Chg.refl _ _ | apply Chg.drew | apply Chg.drewN | refine Chg.alloc ?_ _)) G1.out) q0_1_128 id
  clear q0_1_128
  have M0_140 := Lib.hid (M0_129.out.up (Chg.trans (by repeat (first | exact Chg.refl _ _ | apply Chg.drew | apply Chg.drewN | refine Chg.alloc ?_ _)) G1.out))
  clear M0_129
  clear G1
  have E0_141 := Lib.hid (K1.out)
  clear K1
  obtain ⟨As130, cs130, rfl, ys130⟩ := openCol E0_141.out
  clear ys130
  go_wp2_with fail
  refine (pCatchFloats_A _ _ _ a0 (E0_141.out.up (by repeat (first | exact Chg.refl _ _ | apply Chg.drew | apply Chg.drewN | refine Chg.alloc ?_ _))) a1).mono ?_
  rintro e w142 ⟨v142, rfl, k1, g1⟩
  have K1 := Lib.hid k1
  clear k1
  have G1 := Lib.hid g1
  obtain ⟨hy142, hz142⟩ := up_pre (show Up w130 _ from (by repeat (first | exact Chg.refl _ _ | apply Chg.drew | apply Chg.drewN | refine Chg.alloc ?_ _))) G1.out
  clear g1
  have U_143 := Lib.hid (Chg.trans U_131.out (Chg.trans (by repeat (first | exact Chg.refl _ _ | apply Chg.drew | apply Chg.drewN | refine Chg.alloc ?_ _)) G1.out))
  clear U_131
  have X0_144 := Lib.hid (X0_132.out.up (Chg.trans (by repeat (first | exact Chg.refl _ _ | apply Chg.drew | apply Chg.drewN | refine Chg.alloc ?_ _)) G1.out))
  clear X0_132
  have W0_145 := Lib.hid (W0_133.out.up (Chg.trans (by repeat (first | exact Chg.refl _ _ | apply Chg.drew | apply Chg.drewN | refine Chg.alloc ?_ _)) G1.out))
  clear W0_133
  obtain ⟨W0_0_146c, W0_0_146f⟩ := CellF.up (Chg.trans (by repeat (first | exact Chg.refl _ _ | apply Chg.drew | apply Chg.drewN | refine Chg.alloc ?_ _)) G1.out) ⟨W0_0_134c, W0_0_134f⟩
  clear W0_0_134c W0_0_134f
  obtain ⟨W0_1_147c, W0_1_147f⟩ := CellF.up (Chg.trans (by repeat (first | exact Chg.refl _ _ | apply Chg.drew | apply Chg.drewN | refine Chg.alloc ?_ _)) G1.out) ⟨W0_1_135c, W0_1_135f⟩
  clear W0_1_135c W0_1_135f
  obtain ⟨R0_0_148c, R0_0_148f⟩ := CellF.up (Chg.trans (by repeat (first | exact Chg.refl _ _ | apply Chg.drew | apply Chg.drewN | refine Chg.alloc ?_ _)) G1.out) ⟨R0_0_136c, R0_0_136f⟩
  clear R0_0_136c R0_0_136f
  obtain ⟨R0_1_149c, R0_1_149f⟩ := CellF.up (Chg.trans (by repeat (first | exact Chg.refl _ _ | apply Chg.drew | apply Chg.drewN | refine Chg.alloc ?_ _)) G1.out) ⟨R0_1_137c, R0_1_137f⟩
  clear R0_1_137c R0_1_137f
  have q0_0_150 := Chg.cell (Chg.trans (by repeat (first | exact Chg.refl _ _ | apply Chg.drew | apply Chg.drewN | refine Chg.alloc ?_ _)) G1.out) q0_0_138 id
  clear q0_0_138
  have q0_1_151 := Chg.cell (Chg.trans (by repeat (first | exact Chg.refl _ _ | apply Chg.drew | apply Chg.drewN | refine Chg.alloc ?_ _)) G1.out) q0_1_139 id
  clear q0_1_139
  have M0_152 := Lib.hid (M0_140.out.up (Chg.trans (by repeat (first | exact Chg.refl _ _ | apply Chg.drew | apply Chg.drewN | refine Chg.alloc ?_ _)) G1.out))
  clear M0_140
  have E0_153 := Lib.hid (E0_141.out.up (Chg.trans (by repeat (first | exact Chg.refl _ _ | apply Chg.drew | apply Chg.drewN | refine Chg.alloc ?_ _)) G1.out))
  clear E0_141
  clear G1
  have H0_154 := Lib.hid (K1.out)
  clear K1
  obtain ⟨As142, cs142, rfl, ys142, hls142, hcs142⟩ := openChartX H0_154.out
  clear ys142
  have hbq142_0 : w.heap.size < w142.heap.size := by omega
  have hbr142_0 : w17.heap.size < w142.heap.size := by omega
  have hbr142_1 : w24.heap.size < w142.heap.size := by omega
  have hbr142_2 : w34.heap.size < w142.heap.size := by omega
  go_wp2_with fail
  refine (eqChartX_same _ _ _ _ _ (catchL a0 a1) (H0_154.out.up (by repeat (first | exact Chg.refl _ _ | apply Chg.drew | apply Chg.drewN | refine Chg.alloc ?_ _))) (W0_145.out.up (by repeat (first | exact Chg.refl _ _ | apply Chg.drew | apply Chg.drewN | refine Chg.alloc ?_ _)))).mono ?_
  rintro e w155 ⟨rfl, g1⟩
  have G1 := Lib.hid g1
  obtain ⟨hy155, hz155⟩ := up_pre (show Up w142 _ from (by repeat (first | exact Chg.refl _ _ | apply Chg.drew | apply Chg.drewN | refine Chg.alloc ?_ _))) G1.out
  clear g1
  have U_156 := Lib.hid (Chg.trans U_143.out (Chg.trans (by repeat (first | exact Chg.refl _ _ | apply Chg.drew | apply Chg.drewN | refine Chg.alloc ?_ _)) G1.out))
  clear U_143
  have X0_157 := Lib.hid (X0_144.out.up (Chg.trans (by repeat (first | exact Chg.refl _ _ | apply Chg.drew | apply Chg.drewN | refine Chg.alloc ?_ _)) G1.out))
  clear X0_144
  have W0_158 := Lib.hid (W0_145.out.up (Chg.trans (by repeat (first | exact Chg.refl _ _ | apply Chg.drew | apply Chg.drewN | refine Chg.alloc ?_ _)) G1.out))
  clear W0_145
  obtain ⟨W0_0_159c, W0_0_159f⟩ := CellF.up (Chg.trans (by repeat (first | exact Chg.refl _ _ | apply Chg.drew | apply Chg.drewN | refine Chg.alloc ?_ _)) G1.out) ⟨W0_0_146c, W0_0_146f⟩
  clear W0_0_146c W0_0_146f
  obtain ⟨W0_1_160c, W0_1_160f⟩ := CellF.up (Chg.trans (by repeat (first | exact Chg.refl _ _ | apply Chg.drew | apply Chg.drewN | refine Chg.alloc ?_ _)) G1.out) ⟨W0_1_147c, W0_1_147f⟩
  clear W0_1_147c W0_1_147f
  obtain ⟨R0_0_161c, R0_0_161f⟩ := CellF.up (Chg.trans (by repeat (first | exact Chg.refl _ _ | apply Chg.drew | apply Chg.drewN | refine Chg.alloc ?_ _)) G1.out) ⟨R0_0_148c, R0_0_148f⟩
  clear R0_0_148c R0_0_148f
  obtain ⟨R0_1_162c, R0_1_162f⟩ := CellF.up (Chg.trans (by repeat (first | exact Chg.refl _ _ | apply Chg.drew | apply Chg.drewN | refine Chg.alloc ?_ _)) G1.out) ⟨R0_1_149c, R0_1_149f⟩
  clear R0_1_149c R0_1_149f
  have q0_0_163 := Chg.cell (Chg.trans (by repeat (first | exact Chg.refl _ _ | apply Chg.drew | apply Chg.drewN | refine Chg.alloc ?_ _)) G1.out) q0_0_150 id
  clear q0_0_150
  have q0_1_164 := Chg.cell (Chg.trans (by repeat (first | exact Chg.refl _ _ | apply Chg.drew | apply Chg.drewN | refine Chg.alloc ?_ _)) G1.out) q0_1_151 id
  clear q0_1_151
  have M0_165 := Lib.hid (M0_152.out.up (Chg.trans (by repeat (first | exact Chg.refl _ _ | apply Chg.drew | apply Chg.drewN | refine Chg.alloc ?_ _)) G1.out))
  clear M0_152
  have E0_166 := Lib.hid (E0_153.out.up (Chg.trans (by repeat (first | exact Chg.refl _ _ | apply Chg.drew | apply Chg.drewN | refine Chg.alloc ?_ _)) G1.out))
  clear E0_153
  have H0_167 := Lib.hid (H0_154.out.up (Chg.trans (by repeat (first | exact Chg.refl _ _ | apply Chg.drew | apply Chg.drewN | refine Chg.alloc ?_ _)) G1.out))
  clear H0_154
  obtain ⟨H0_0_168c, H0_0_168f⟩ := (show CellF w155 ⟨w142.heap.size, 0, none⟩ (.int .i64 (catchL a0 a1).n) from CellF.up G1.out (by repeat (first | ((refine cellF_at ?_ rfl); (simp; done)) | refine CellF.up ((Chg.refl _ _).alloc _) ?_)))
  obtain ⟨H0_1_169c, H0_1_169f⟩ := (show CellF w155 ⟨w142.heap.size, 1, none⟩ (.slice As142 (catchL a0 a1).rs.length cs142) from CellF.up G1.out (by repeat (first | ((refine cellF_at ?_ rfl); (simp; done)) | refine CellF.up ((Chg.refl _ _).alloc _) ?_)))
  clear G1
  have hbz170 : w142.heap.size < w155.heap.size := World.block_lt_of_cell? _ _ H0_0_168c
  go_wp2_with fail
  refine (heldChart_any _ _ _ (catchL a0 a1) (1) hr1_0 hr2_0 (M0_165.out.up (by repeat (first | exact Chg.refl _ _ | apply Chg.drew | apply Chg.drewN | refine Chg.alloc ?_ _)))).mono ?_
  rintro e w171 ⟨rfl, g1⟩
  have G1 := Lib.hid g1
  obtain ⟨hy171, hz171⟩ := up_pre (show Up w155 _ from (by repeat (first | exact Chg.refl _ _ | apply Chg.drew | apply Chg.drewN | refine Chg.alloc ?_ _))) G1.out
  clear g1
  have U_172 := Lib.hid (Chg.trans U_156.out (Chg.trans (by repeat (first | exact Chg.refl _ _ | apply Chg.drew | apply Chg.drewN | refine Chg.alloc ?_ _)) G1.out))
  clear U_156
  have X0_173 := Lib.hid (X0_157.out.up (Chg.trans (by repeat (first | exact Chg.refl _ _ | apply Chg.drew | apply Chg.drewN | refine Chg.alloc ?_ _)) G1.out))
  clear X0_157
  have W0_174 := Lib.hid (W0_158.out.up (Chg.trans (by repeat (first | exact Chg.refl _ _ | apply Chg.drew | apply Chg.drewN | refine Chg.alloc ?_ _)) G1.out))
  clear W0_158
  obtain ⟨W0_0_175c, W0_0_175f⟩ := CellF.up (Chg.trans (by repeat (first | exact Chg.refl _ _ | apply Chg.drew | apply Chg.drewN | refine Chg.alloc ?_ _)) G1.out) ⟨W0_0_159c, W0_0_159f⟩
  clear W0_0_159c W0_0_159f
  obtain ⟨W0_1_176c, W0_1_176f⟩ := CellF.up (Chg.trans (by repeat (first | exact Chg.refl _ _ | apply Chg.drew | apply Chg.drewN | refine Chg.alloc ?_ _)) G1.out) ⟨W0_1_160c, W0_1_160f⟩
  clear W0_1_160c W0_1_160f
  obtain ⟨R0_0_177c, R0_0_177f⟩ := CellF.up (Chg.trans (by repeat (first | exact Chg.refl _ _ | apply Chg.drew | apply Chg.drewN | refine Chg.alloc ?_ _)) G1.out) ⟨R0_0_161c, R0_0_161f⟩
  clear R0_0_161c R0_0_161f
  obtain ⟨R0_1_178c, R0_1_178f⟩ := CellF.up (Chg.trans (by repeat (first | exact Chg.refl _ _ | apply Chg.drew | apply Chg.drewN | refine Chg.alloc ?_ _)) G1.out) ⟨R0_1_162c, R0_1_162f⟩
  clear R0_1_162c R0_1_162f
  have q0_0_179 := Chg.cell (Chg.trans (by repeat (first | exact Chg.refl _ _ | apply Chg.drew | apply Chg.drewN | refine Chg.alloc ?_ _)) G1.out) q0_0_163 id
  clear q0_0_163
  have q0_1_180 := Chg.cell (Chg.trans (by repeat (first | exact Chg.refl _ _ | apply Chg.drew | apply Chg.drewN | refine Chg.alloc ?_ _)) G1.out) q0_1_164 id
  clear q0_1_164
  have M0_181 := Lib.hid (M0_165.out.up (Chg.trans (by repeat (first | exact Chg.refl _ _ | apply Chg.drew | apply Chg.drewN | refine Chg.alloc ?_ _)) G1.out))
  clear M0_165
  have E0_182 := Lib.hid (E0_166.out.up (Chg.trans (by repeat (first | exact Chg.refl _ _ | apply Chg.drew | apply Chg.drewN | refine Chg.alloc ?_ _)) G1.out))
  clear E0_166
  have H0_183 := Lib.hid (H0_167.out.up (Chg.trans (by repeat (first | exact Chg.refl _ _ | apply Chg.drew | apply Chg.drewN | refine Chg.alloc ?_ _)) G1.out))
  clear H0_167
  obtain ⟨H0_0_184c, H0_0_184f⟩ := CellF.up (Chg.trans (by repeat (first | exact Chg.refl _ _ | apply Chg.drew | apply Chg.drewN | refine Chg.alloc ?_ _)) G1.out) ⟨H0_0_168c, H0_0_168f⟩
  clear H0_0_168c H0_0_168f
  obtain ⟨H0_1_185c, H0_1_185f⟩ := CellF.up (Chg.trans (by repeat (first | exact Chg.refl _ _ | apply Chg.drew | apply Chg.drewN | refine Chg.alloc ?_ _)) G1.out) ⟨H0_1_169c, H0_1_169f⟩
  clear H0_1_169c H0_1_169f
  clear G1
  go_wp2
  go_ret
  exact ⟨rfl, Up.below (Chg.trans U_172.out (by repeat (first | exact Chg.refl _ _ | apply Chg.drew | apply Chg.drewN | refine Chg.alloc ?_ _)))⟩
set_option maxRecDepth 100000 in
theorem walk (w : World) (v0 : Value) (a0 : ColM) (ha0 : ColA w (fun b => b < w.heap.size) v0 a0) (a1 : Int) (ia1 : I64 a1) :
    Calls Try.prog 4 #[v0, .int .i64 a1] w fun e w' => e = .returned (.bool true) ∧ Below w.heap.size w w' := by
  by_cases hbt : (szCo a0 : Int) ≤ 1048576
  rotate_left
  · skip
    obtain ⟨A0, c0, rfl, y0⟩ := openCol ha0
    have X0 := Lib.hid ha0
    clear ha0 y0
    have U0 := Lib.hid (Chg.refl Nowhere w)
    have hd : decide ((-1 : Int) < 0) = true := rfl
    have U_1 := Lib.hid (Chg.trans U0.out ((Chg.refl Nowhere w).alloc (.cells #[.int .i64 a0.n, .slice A0 a0.rs.length c0] 43)))
    clear U0
    have X_2 := Lib.hid (X0.out.up ((Chg.refl Nowhere w).alloc (.cells #[.int .i64 a0.n, .slice A0 a0.rs.length c0] 43)))
    clear X0
    have q0_3 := (show (w.alloc (.cells #[.int .i64 a0.n, .slice A0 a0.rs.length c0] 43)).cell? ⟨w.heap.size, 0, none⟩ = some (.int .i64 a0.n) from cell_new _ _ _ _)
    have q1_4 := (show (w.alloc (.cells #[.int .i64 a0.n, .slice A0 a0.rs.length c0] 43)).cell? ⟨w.heap.size, 1, none⟩ = some (.slice A0 a0.rs.length c0) from cell_new _ _ _ _)
    have hbx5 : w.heap.size < (w.alloc (.cells #[.int .i64 a0.n, .slice A0 a0.rs.length c0] 43)).heap.size := by simp
    go_enter Try.func4, Try.ntmps4
    go_wp2_with fail
    refine (szColA_no _ _ _ a0 1048576 (by omega) (by omega) (X_2.out.up (by repeat (first | exact Chg.refl _ _ | apply Chg.drew | apply Chg.drewN | refine Chg.alloc ?_ _)))).mono ?_
    rintro e w6 ⟨rfl, g1⟩
    have G1 := Lib.hid g1
    have hz6 := G1.out.size
    clear g1
    have U_7 := Lib.hid (Chg.trans U_1.out (Chg.trans (by repeat (first | exact Chg.refl _ _ | apply Chg.drew | apply Chg.drewN | refine Chg.alloc ?_ _)) G1.out))
    clear U_1
    have X_8 := Lib.hid (X_2.out.up (Chg.trans (by repeat (first | exact Chg.refl _ _ | apply Chg.drew | apply Chg.drewN | refine Chg.alloc ?_ _)) G1.out))
    clear X_2
    have q0_9 := Chg.cell (Chg.trans (by repeat (first | exact Chg.refl _ _ | apply Chg.drew | apply Chg.drewN | refine Chg.alloc ?_ _)) G1.out) q0_3 id
    clear q0_3
    have q1_10 := Chg.cell (Chg.trans (by repeat (first | exact Chg.refl _ _ | apply Chg.drew | apply Chg.drewN | refine Chg.alloc ?_ _)) G1.out) q1_4 id
    clear q1_4
    clear G1
    go_wp2
    go_ret
    exact ⟨rfl, Up.below (Chg.trans U_7.out (by repeat (first | exact Chg.refl _ _ | apply Chg.drew | apply Chg.drewN | refine Chg.alloc ?_ _)))⟩
  exact walk0 w v0 a0 ha0 a1 ia1 hbt
end fnExactCatchFloats
end Go.Proofs.Ytchfjglofmphfaa
