/- The program's RowTargets answers as the reference's, for every row; what it is given stays as it was; its memory is its own. No condition. -/
import Derived.Test.YtfaloanahffdmaaRow8
namespace Go.Proofs.Ytfaloanahffdmaa
open Go.ChangeShapes Go.WideShapes Go.ChangeAt Go.RowKit
namespace fnExactRowTargets
set_option linter.unusedVariables false in
set_option maxRecDepth 100000 in
set_option maxHeartbeats 8000000 in
theorem walk0 (w : World) (v0 : Value) (a0 : RowM) (ha0 : RowV w (fun b => b < w.heap.size) v0 a0)  (hbt : (a0.xs.length : Int) ≤ 1048576) :
    Calls Try.prog 10 #[v0] w fun e w' => e = .returned (.bool true) ∧ Below w.heap.size w w' := by
  have U0 := Lib.hid (Chg.refl Nowhere w)
  obtain ⟨A0, c0, rfl, y0, hl0, hc0⟩ := openRow ha0
  have X0 := Lib.hid ha0
  clear ha0 y0
  have U_1 := Lib.hid (Chg.trans U0.out ((Chg.refl Nowhere w).alloc (.cells #[.int .i64 a0.d, .int .i64 a0.c, .slice A0 a0.xs.length c0] 52)))
  clear U0
  have X0_2 := Lib.hid (X0.out.up ((Chg.refl Nowhere w).alloc (.cells #[.int .i64 a0.d, .int .i64 a0.c, .slice A0 a0.xs.length c0] 52)))
  clear X0
  have q0_0_3 := (show (w.alloc (.cells #[.int .i64 a0.d, .int .i64 a0.c, .slice A0 a0.xs.length c0] 52)).cell? ⟨w.heap.size, 0, none⟩ = some (.int .i64 a0.d) from cell_new _ _ _ _)
  have q0_1_4 := (show (w.alloc (.cells #[.int .i64 a0.d, .int .i64 a0.c, .slice A0 a0.xs.length c0] 52)).cell? ⟨w.heap.size, 1, none⟩ = some (.int .i64 a0.c) from cell_new _ _ _ _)
  have q0_2_5 := (show (w.alloc (.cells #[.int .i64 a0.d, .int .i64 a0.c, .slice A0 a0.xs.length c0] 52)).cell? ⟨w.heap.size, 2, none⟩ = some (.slice A0 a0.xs.length c0) from cell_new _ _ _ _)
  have hbx6 : w.heap.size < (w.alloc (.cells #[.int .i64 a0.d, .int .i64 a0.c, .slice A0 a0.xs.length c0] 52)).heap.size := by simp
  have hr0 : a0.xs.length ≤ 1048576 := by omega
  go_enter Try.func10, Try.ntmps10
  have hd0 : decide ((1048576 : Int) - a0.xs.length < 0) = false := decide_eq_false (by omega)
  go_wp2_with fail
  refine (szRow_ok _ _ _ a0 (1048576) (by omega) (by omega) (X0_2.out.up (by repeat (first | exact Chg.refl _ _ | apply Chg.drew | apply Chg.drewN | refine Chg.alloc ?_ _)))).mono ?_
  rintro e w7 ⟨rfl, g1⟩
  have G1 := Lib.hid g1
  obtain ⟨hy7, hz7⟩ := up_pre (show Up (w.alloc (.cells #[.int .i64 a0.d, .int .i64 a0.c, .slice A0 a0.xs.length c0] 52)) _ from (by repeat (first | exact Chg.refl _ _ | apply Chg.drew | apply Chg.drewN | refine Chg.alloc ?_ _))) G1.out
  clear g1
  have U_8 := Lib.hid (Chg.trans U_1.out (Chg.trans (by repeat (first | exact Chg.refl _ _ | apply Chg.drew | apply Chg.drewN | refine Chg.alloc ?_ _)) G1.out))
  clear U_1
  have X0_9 := Lib.hid (X0_2.out.up (Chg.trans (by repeat (first | exact Chg.refl _ _ | apply Chg.drew | apply Chg.drewN | refine Chg.alloc ?_ _)) G1.out))
  clear X0_2
  have q0_0_10 := Chg.cell (Chg.trans (by repeat (first | exact Chg.refl _ _ | apply Chg.drew | apply Chg.drewN | refine Chg.alloc ?_ _)) G1.out) q0_0_3 id
  clear q0_0_3
  have q0_1_11 := Chg.cell (Chg.trans (by repeat (first | exact Chg.refl _ _ | apply Chg.drew | apply Chg.drewN | refine Chg.alloc ?_ _)) G1.out) q0_1_4 id
  clear q0_1_4
  have q0_2_12 := Chg.cell (Chg.trans (by repeat (first | exact Chg.refl _ _ | apply Chg.drew | apply Chg.drewN | refine Chg.alloc ?_ _)) G1.out) q0_2_5 id
  clear q0_2_5
  clear G1
  go_wp2_with fail
  refine (toRow_any _ _ _ a0 (by unfold cntInts; omega) (X0_9.out.up (by repeat (first | exact Chg.refl _ _ | apply Chg.drew | apply Chg.drewN | refine Chg.alloc ?_ _)))).mono ?_
  rintro e w13 ⟨v13, rfl, k1, g1⟩
  have K1 := Lib.hid k1
  clear k1
  have G1 := Lib.hid g1
  obtain ⟨hy13, hz13⟩ := up_pre (show Up w7 _ from (by repeat (first | exact Chg.refl _ _ | apply Chg.drew | apply Chg.drewN | refine Chg.alloc ?_ _))) G1.out
  clear g1
  have U_14 := Lib.hid (Chg.trans U_8.out (Chg.trans (by repeat (first | exact Chg.refl _ _ | apply Chg.drew | apply Chg.drewN | refine Chg.alloc ?_ _)) G1.out))
  clear U_8
  have X0_15 := Lib.hid (X0_9.out.up (Chg.trans (by repeat (first | exact Chg.refl _ _ | apply Chg.drew | apply Chg.drewN | refine Chg.alloc ?_ _)) G1.out))
  clear X0_9
  have q0_0_16 := Chg.cell (Chg.trans (by repeat (first | exact Chg.refl _ _ | apply Chg.drew | apply Chg.drewN | refine Chg.alloc ?_ _)) G1.out) q0_0_10 id
  clear q0_0_10
  have q0_1_17 := Chg.cell (Chg.trans (by repeat (first | exact Chg.refl _ _ | apply Chg.drew | apply Chg.drewN | refine Chg.alloc ?_ _)) G1.out) q0_1_11 id
  clear q0_1_11
  have q0_2_18 := Chg.cell (Chg.trans (by repeat (first | exact Chg.refl _ _ | apply Chg.drew | apply Chg.drewN | refine Chg.alloc ?_ _)) G1.out) q0_2_12 id
  clear q0_2_12
  clear G1
  have B0_19 := Lib.hid (K1.out)
  clear K1
  obtain ⟨As13, cs13, rfl, ys13, hls13, hcs13⟩ := openRow B0_19.out
  clear ys13
  go_wp2_with fail
  refine (sRowTargets_any _ _ _ a0 (B0_19.out.up (by repeat (first | exact Chg.refl _ _ | apply Chg.drew | apply Chg.drewN | refine Chg.alloc ?_ _)))).mono ?_
  rintro e w20 ⟨v20_0, v20_1, v20_2, SW0, SW1, SW2, rfl, k0, k1, k2, hDW20, hNW20, g1⟩
  obtain ⟨A20_0, c20_0, rfl, hl20_0, hc20_0, -⟩ := k0.shape
  have K0 := Lib.hid k0
  clear k0
  obtain ⟨A20_1, c20_1, rfl, hl20_1, hc20_1, -⟩ := k1.shape
  have K1 := Lib.hid k1
  clear k1
  obtain ⟨A20_2, c20_2, rfl, hl20_2, hc20_2, -⟩ := k2.shape
  have K2 := Lib.hid k2
  clear k2
  have DDW := Lib.hid hDW20
  have DNW := Lib.hid hNW20
  clear hDW20 hNW20
  have G1 := Lib.hid g1
  obtain ⟨hy20, hz20⟩ := up_pre (show Up w13 _ from (by repeat (first | exact Chg.refl _ _ | apply Chg.drew | apply Chg.drewN | refine Chg.alloc ?_ _))) G1.out
  clear g1
  have U_21 := Lib.hid (Chg.trans U_14.out (Chg.trans (by repeat (first | exact Chg.refl _ _ | apply Chg.drew | apply Chg.drewN | refine Chg.alloc ?_ _)) G1.out))
  clear U_14
  have X0_22 := Lib.hid (X0_15.out.up (Chg.trans (by repeat (first | exact Chg.refl _ _ | apply Chg.drew | apply Chg.drewN | refine Chg.alloc ?_ _)) G1.out))
  clear X0_15
  have q0_0_23 := Chg.cell (Chg.trans (by repeat (first | exact Chg.refl _ _ | apply Chg.drew | apply Chg.drewN | refine Chg.alloc ?_ _)) G1.out) q0_0_16 id
  clear q0_0_16
  have q0_1_24 := Chg.cell (Chg.trans (by repeat (first | exact Chg.refl _ _ | apply Chg.drew | apply Chg.drewN | refine Chg.alloc ?_ _)) G1.out) q0_1_17 id
  clear q0_1_17
  have q0_2_25 := Chg.cell (Chg.trans (by repeat (first | exact Chg.refl _ _ | apply Chg.drew | apply Chg.drewN | refine Chg.alloc ?_ _)) G1.out) q0_2_18 id
  clear q0_2_18
  have B0_26 := Lib.hid (B0_19.out.up (Chg.trans (by repeat (first | exact Chg.refl _ _ | apply Chg.drew | apply Chg.drewN | refine Chg.alloc ?_ _)) G1.out))
  clear B0_19
  clear G1
  have W0_27 := Lib.hid (K0.out)
  clear K0
  have W1_28 := Lib.hid (K1.out)
  clear K1
  have W2_29 := Lib.hid (K2.out)
  clear K2
  clear B0_26
  go_wp2_with fail
  refine (toRow_any _ _ _ a0 (by unfold cntInts; omega) (X0_22.out.up (by repeat (first | exact Chg.refl _ _ | apply Chg.drew | apply Chg.drewN | refine Chg.alloc ?_ _)))).mono ?_
  rintro e w30 ⟨v30, rfl, k1, g1⟩
  have K1 := Lib.hid k1
  clear k1
  have G1 := Lib.hid g1
  obtain ⟨hy30, hz30⟩ := up_pre (show Up w20 _ from (by repeat (first | exact Chg.refl _ _ | apply Chg.drew | apply Chg.drewN | refine Chg.alloc ?_ _))) G1.out
  clear g1
  have U_31 := Lib.hid (Chg.trans U_21.out (Chg.trans (by repeat (first | exact Chg.refl _ _ | apply Chg.drew | apply Chg.drewN | refine Chg.alloc ?_ _)) G1.out))
  clear U_21
  have X0_32 := Lib.hid (X0_22.out.up (Chg.trans (by repeat (first | exact Chg.refl _ _ | apply Chg.drew | apply Chg.drewN | refine Chg.alloc ?_ _)) G1.out))
  clear X0_22
  have q0_0_33 := Chg.cell (Chg.trans (by repeat (first | exact Chg.refl _ _ | apply Chg.drew | apply Chg.drewN | refine Chg.alloc ?_ _)) G1.out) q0_0_23 id
  clear q0_0_23
  have q0_1_34 := Chg.cell (Chg.trans (by repeat (first | exact Chg.refl _ _ | apply Chg.drew | apply Chg.drewN | refine Chg.alloc ?_ _)) G1.out) q0_1_24 id
  clear q0_1_24
  have q0_2_35 := Chg.cell (Chg.trans (by repeat (first | exact Chg.refl _ _ | apply Chg.drew | apply Chg.drewN | refine Chg.alloc ?_ _)) G1.out) q0_2_25 id
  clear q0_2_25
  have W0_36 := Lib.hid (W0_27.out.up (Chg.trans (by repeat (first | exact Chg.refl _ _ | apply Chg.drew | apply Chg.drewN | refine Chg.alloc ?_ _)) G1.out))
  clear W0_27
  have W1_37 := Lib.hid (W1_28.out.up (Chg.trans (by repeat (first | exact Chg.refl _ _ | apply Chg.drew | apply Chg.drewN | refine Chg.alloc ?_ _)) G1.out))
  clear W1_28
  have W2_38 := Lib.hid (W2_29.out.up (Chg.trans (by repeat (first | exact Chg.refl _ _ | apply Chg.drew | apply Chg.drewN | refine Chg.alloc ?_ _)) G1.out))
  clear W2_29
  clear G1
  have C0_39 := Lib.hid (K1.out)
  clear K1
  obtain ⟨As30, cs30, rfl, ys30, hls30, hcs30⟩ := openRow C0_39.out
  clear ys30
  go_wp2_with fail
  refine (RowTargets_any _ _ _ a0 (C0_39.out.up (by repeat (first | exact Chg.refl _ _ | apply Chg.drew | apply Chg.drewN | refine Chg.alloc ?_ _)))).mono ?_
  rintro e w40 ⟨v40_0, v40_1, v40_2, SR0, SR1, SR2, rfl, k0, k1, k2, hDR40, hNR40, g1⟩
  obtain ⟨A40_0, c40_0, rfl, hl40_0, hc40_0, -⟩ := k0.shape
  have K0 := Lib.hid k0
  clear k0
  obtain ⟨A40_1, c40_1, rfl, hl40_1, hc40_1, -⟩ := k1.shape
  have K1 := Lib.hid k1
  clear k1
  obtain ⟨A40_2, c40_2, rfl, hl40_2, hc40_2, -⟩ := k2.shape
  have K2 := Lib.hid k2
  clear k2
  have DDR := Lib.hid hDR40
  have DNR := Lib.hid hNR40
  clear hDR40 hNR40
  have G1 := Lib.hid g1
  obtain ⟨hy40, hz40⟩ := up_pre (show Up w30 _ from (by repeat (first | exact Chg.refl _ _ | apply Chg.drew | apply Chg.drewN | refine Chg.alloc ?_ _))) G1.out
  clear g1
  have U_41 := Lib.hid (Chg.trans U_31.out (Chg.trans (by repeat (first | exact Chg.refl _ _ | apply Chg.drew | apply Chg.drewN | refine Chg.alloc ?_ _)) G1.out))
  clear U_31
  have X0_42 := Lib.hid (X0_32.out.up (Chg.trans (by repeat (first | exact Chg.refl _ _ | apply Chg.drew | apply Chg.drewN | refine Chg.alloc ?_ _)) G1.out))
  clear X0_32
  have q0_0_43 := Chg.cell (Chg.trans (by repeat (first | exact Chg.refl _ _ | apply Chg.drew | apply Chg.drewN | refine Chg.alloc ?_ _)) G1.out) q0_0_33 id
  clear q0_0_33
  have q0_1_44 := Chg.cell (Chg.trans (by repeat (first | exact Chg.refl _ _ | apply Chg.drew | apply Chg.drewN | refine Chg.alloc ?_ _)) G1.out) q0_1_34 id
  clear q0_1_34
  have q0_2_45 := Chg.cell (Chg.trans (by repeat (first | exact Chg.refl _ _ | apply Chg.drew | apply Chg.drewN | refine Chg.alloc ?_ _)) G1.out) q0_2_35 id
  clear q0_2_35
  have W0_46 := Lib.hid (W0_36.out.up (Chg.trans (by repeat (first | exact Chg.refl _ _ | apply Chg.drew | apply Chg.drewN | refine Chg.alloc ?_ _)) G1.out))
  clear W0_36
  have W1_47 := Lib.hid (W1_37.out.up (Chg.trans (by repeat (first | exact Chg.refl _ _ | apply Chg.drew | apply Chg.drewN | refine Chg.alloc ?_ _)) G1.out))
  clear W1_37
  have W2_48 := Lib.hid (W2_38.out.up (Chg.trans (by repeat (first | exact Chg.refl _ _ | apply Chg.drew | apply Chg.drewN | refine Chg.alloc ?_ _)) G1.out))
  clear W2_38
  have C0_49 := Lib.hid (C0_39.out.up (Chg.trans (by repeat (first | exact Chg.refl _ _ | apply Chg.drew | apply Chg.drewN | refine Chg.alloc ?_ _)) G1.out))
  clear C0_39
  obtain ⟨x0_0_50c, x0_0_50f⟩ := (show CellF w40 ⟨w30.heap.size, 0, none⟩ (.int .i64 a0.d) from CellF.up G1.out (by repeat (first | ((refine cellF_at ?_ rfl); (simp; done)) | refine CellF.up ((Chg.refl _ _).alloc _) ?_)))
  obtain ⟨x0_1_51c, x0_1_51f⟩ := (show CellF w40 ⟨w30.heap.size, 1, none⟩ (.int .i64 a0.c) from CellF.up G1.out (by repeat (first | ((refine cellF_at ?_ rfl); (simp; done)) | refine CellF.up ((Chg.refl _ _).alloc _) ?_)))
  obtain ⟨x0_2_52c, x0_2_52f⟩ := (show CellF w40 ⟨w30.heap.size, 2, none⟩ (.slice As30 a0.xs.length cs30) from CellF.up G1.out (by repeat (first | ((refine cellF_at ?_ rfl); (simp; done)) | refine CellF.up ((Chg.refl _ _).alloc _) ?_)))
  clear G1
  have R0_53 := Lib.hid (K0.out)
  clear K0
  have R1_54 := Lib.hid (K1.out)
  clear K1
  have R2_55 := Lib.hid (K2.out)
  clear K2
  go_wp2_with fail
  refine (eqInts _ _ _ _ _ (ownsL (trOut a0)) (R0_53.out.up (by repeat (first | exact Chg.refl _ _ | apply Chg.drew | apply Chg.drewN | refine Chg.alloc ?_ _))) (W0_46.out.up (by repeat (first | exact Chg.refl _ _ | apply Chg.drew | apply Chg.drewN | refine Chg.alloc ?_ _)))).mono ?_
  rintro e w56 ⟨rfl, g1⟩
  have G1 := Lib.hid g1
  obtain ⟨hy56, hz56⟩ := up_pre (show Up w40 _ from (by repeat (first | exact Chg.refl _ _ | apply Chg.drew | apply Chg.drewN | refine Chg.alloc ?_ _))) G1.out
  clear g1
  have U_57 := Lib.hid (Chg.trans U_41.out (Chg.trans (by repeat (first | exact Chg.refl _ _ | apply Chg.drew | apply Chg.drewN | refine Chg.alloc ?_ _)) G1.out))
  clear U_41
  have X0_58 := Lib.hid (X0_42.out.up (Chg.trans (by repeat (first | exact Chg.refl _ _ | apply Chg.drew | apply Chg.drewN | refine Chg.alloc ?_ _)) G1.out))
  clear X0_42
  have q0_0_59 := Chg.cell (Chg.trans (by repeat (first | exact Chg.refl _ _ | apply Chg.drew | apply Chg.drewN | refine Chg.alloc ?_ _)) G1.out) q0_0_43 id
  clear q0_0_43
  have q0_1_60 := Chg.cell (Chg.trans (by repeat (first | exact Chg.refl _ _ | apply Chg.drew | apply Chg.drewN | refine Chg.alloc ?_ _)) G1.out) q0_1_44 id
  clear q0_1_44
  have q0_2_61 := Chg.cell (Chg.trans (by repeat (first | exact Chg.refl _ _ | apply Chg.drew | apply Chg.drewN | refine Chg.alloc ?_ _)) G1.out) q0_2_45 id
  clear q0_2_45
  have W0_62 := Lib.hid (W0_46.out.up (Chg.trans (by repeat (first | exact Chg.refl _ _ | apply Chg.drew | apply Chg.drewN | refine Chg.alloc ?_ _)) G1.out))
  clear W0_46
  have W1_63 := Lib.hid (W1_47.out.up (Chg.trans (by repeat (first | exact Chg.refl _ _ | apply Chg.drew | apply Chg.drewN | refine Chg.alloc ?_ _)) G1.out))
  clear W1_47
  have W2_64 := Lib.hid (W2_48.out.up (Chg.trans (by repeat (first | exact Chg.refl _ _ | apply Chg.drew | apply Chg.drewN | refine Chg.alloc ?_ _)) G1.out))
  clear W2_48
  have C0_65 := Lib.hid (C0_49.out.up (Chg.trans (by repeat (first | exact Chg.refl _ _ | apply Chg.drew | apply Chg.drewN | refine Chg.alloc ?_ _)) G1.out))
  clear C0_49
  obtain ⟨x0_0_66c, x0_0_66f⟩ := CellF.up (Chg.trans (by repeat (first | exact Chg.refl _ _ | apply Chg.drew | apply Chg.drewN | refine Chg.alloc ?_ _)) G1.out) ⟨x0_0_50c, x0_0_50f⟩
  clear x0_0_50c x0_0_50f
  obtain ⟨x0_1_67c, x0_1_67f⟩ := CellF.up (Chg.trans (by repeat (first | exact Chg.refl _ _ | apply Chg.drew | apply Chg.drewN | refine Chg.alloc ?_ _)) G1.out) ⟨x0_1_51c, x0_1_51f⟩
  clear x0_1_51c x0_1_51f
  obtain ⟨x0_2_68c, x0_2_68f⟩ := CellF.up (Chg.trans (by repeat (first | exact Chg.refl _ _ | apply Chg.drew | apply Chg.drewN | refine Chg.alloc ?_ _)) G1.out) ⟨x0_2_52c, x0_2_52f⟩
  clear x0_2_52c x0_2_52f
  have R0_69 := Lib.hid (R0_53.out.up (Chg.trans (by repeat (first | exact Chg.refl _ _ | apply Chg.drew | apply Chg.drewN | refine Chg.alloc ?_ _)) G1.out))
  clear R0_53
  have R1_70 := Lib.hid (R1_54.out.up (Chg.trans (by repeat (first | exact Chg.refl _ _ | apply Chg.drew | apply Chg.drewN | refine Chg.alloc ?_ _)) G1.out))
  clear R1_54
  have R2_71 := Lib.hid (R2_55.out.up (Chg.trans (by repeat (first | exact Chg.refl _ _ | apply Chg.drew | apply Chg.drewN | refine Chg.alloc ?_ _)) G1.out))
  clear R2_55
  clear G1
  go_wp2_with fail
  refine (eqInts _ _ _ _ _ (togL (trOut a0)) (R1_70.out.up (by repeat (first | exact Chg.refl _ _ | apply Chg.drew | apply Chg.drewN | refine Chg.alloc ?_ _))) (W1_63.out.up (by repeat (first | exact Chg.refl _ _ | apply Chg.drew | apply Chg.drewN | refine Chg.alloc ?_ _)))).mono ?_
  rintro e w72 ⟨rfl, g1⟩
  have G1 := Lib.hid g1
  obtain ⟨hy72, hz72⟩ := up_pre (show Up w56 _ from (by repeat (first | exact Chg.refl _ _ | apply Chg.drew | apply Chg.drewN | refine Chg.alloc ?_ _))) G1.out
  clear g1
  have U_73 := Lib.hid (Chg.trans U_57.out (Chg.trans (by repeat (first | exact Chg.refl _ _ | apply Chg.drew | apply Chg.drewN | refine Chg.alloc ?_ _)) G1.out))
  clear U_57
  have X0_74 := Lib.hid (X0_58.out.up (Chg.trans (by repeat (first | exact Chg.refl _ _ | apply Chg.drew | apply Chg.drewN | refine Chg.alloc ?_ _)) G1.out))
  clear X0_58
  have q0_0_75 := Chg.cell (Chg.trans (by repeat (first | exact Chg.refl _ _ | apply Chg.drew | apply Chg.drewN | refine Chg.alloc ?_ _)) G1.out) q0_0_59 id
  clear q0_0_59
  have q0_1_76 := Chg.cell (Chg.trans (by repeat (first | exact Chg.refl _ _ | apply Chg.drew | apply Chg.drewN | refine Chg.alloc ?_ _)) G1.out) q0_1_60 id
  clear q0_1_60
  have q0_2_77 := Chg.cell (Chg.trans (by repeat (first | exact Chg.refl _ _ | apply Chg.drew | apply Chg.drewN | refine Chg.alloc ?_ _)) G1.out) q0_2_61 id
  clear q0_2_61
  have W0_78 := Lib.hid (W0_62.out.up (Chg.trans (by repeat (first | exact Chg.refl _ _ | apply Chg.drew | apply Chg.drewN | refine Chg.alloc ?_ _)) G1.out))
  clear W0_62
  have W1_79 := Lib.hid (W1_63.out.up (Chg.trans (by repeat (first | exact Chg.refl _ _ | apply Chg.drew | apply Chg.drewN | refine Chg.alloc ?_ _)) G1.out))
  clear W1_63
  have W2_80 := Lib.hid (W2_64.out.up (Chg.trans (by repeat (first | exact Chg.refl _ _ | apply Chg.drew | apply Chg.drewN | refine Chg.alloc ?_ _)) G1.out))
  clear W2_64
  have C0_81 := Lib.hid (C0_65.out.up (Chg.trans (by repeat (first | exact Chg.refl _ _ | apply Chg.drew | apply Chg.drewN | refine Chg.alloc ?_ _)) G1.out))
  clear C0_65
  obtain ⟨x0_0_82c, x0_0_82f⟩ := CellF.up (Chg.trans (by repeat (first | exact Chg.refl _ _ | apply Chg.drew | apply Chg.drewN | refine Chg.alloc ?_ _)) G1.out) ⟨x0_0_66c, x0_0_66f⟩
  clear x0_0_66c x0_0_66f
  obtain ⟨x0_1_83c, x0_1_83f⟩ := CellF.up (Chg.trans (by repeat (first | exact Chg.refl _ _ | apply Chg.drew | apply Chg.drewN | refine Chg.alloc ?_ _)) G1.out) ⟨x0_1_67c, x0_1_67f⟩
  clear x0_1_67c x0_1_67f
  obtain ⟨x0_2_84c, x0_2_84f⟩ := CellF.up (Chg.trans (by repeat (first | exact Chg.refl _ _ | apply Chg.drew | apply Chg.drewN | refine Chg.alloc ?_ _)) G1.out) ⟨x0_2_68c, x0_2_68f⟩
  clear x0_2_68c x0_2_68f
  have R0_85 := Lib.hid (R0_69.out.up (Chg.trans (by repeat (first | exact Chg.refl _ _ | apply Chg.drew | apply Chg.drewN | refine Chg.alloc ?_ _)) G1.out))
  clear R0_69
  have R1_86 := Lib.hid (R1_70.out.up (Chg.trans (by repeat (first | exact Chg.refl _ _ | apply Chg.drew | apply Chg.drewN | refine Chg.alloc ?_ _)) G1.out))
  clear R1_70
  have R2_87 := Lib.hid (R2_71.out.up (Chg.trans (by repeat (first | exact Chg.refl _ _ | apply Chg.drew | apply Chg.drewN | refine Chg.alloc ?_ _)) G1.out))
  clear R2_71
  clear G1
  go_wp2_with fail
  refine (eqInts _ _ _ _ _ (movL (trOut a0)) (R2_87.out.up (by repeat (first | exact Chg.refl _ _ | apply Chg.drew | apply Chg.drewN | refine Chg.alloc ?_ _))) (W2_80.out.up (by repeat (first | exact Chg.refl _ _ | apply Chg.drew | apply Chg.drewN | refine Chg.alloc ?_ _)))).mono ?_
  rintro e w88 ⟨rfl, g1⟩
  have G1 := Lib.hid g1
  obtain ⟨hy88, hz88⟩ := up_pre (show Up w72 _ from (by repeat (first | exact Chg.refl _ _ | apply Chg.drew | apply Chg.drewN | refine Chg.alloc ?_ _))) G1.out
  clear g1
  have U_89 := Lib.hid (Chg.trans U_73.out (Chg.trans (by repeat (first | exact Chg.refl _ _ | apply Chg.drew | apply Chg.drewN | refine Chg.alloc ?_ _)) G1.out))
  clear U_73
  have X0_90 := Lib.hid (X0_74.out.up (Chg.trans (by repeat (first | exact Chg.refl _ _ | apply Chg.drew | apply Chg.drewN | refine Chg.alloc ?_ _)) G1.out))
  clear X0_74
  have q0_0_91 := Chg.cell (Chg.trans (by repeat (first | exact Chg.refl _ _ | apply Chg.drew | apply Chg.drewN | refine Chg.alloc ?_ _)) G1.out) q0_0_75 id
  clear q0_0_75
  have q0_1_92 := Chg.cell (Chg.trans (by repeat (first | exact Chg.refl _ _ | apply Chg.drew | apply Chg.drewN | refine Chg.alloc ?_ _)) G1.out) q0_1_76 id
  clear q0_1_76
  have q0_2_93 := Chg.cell (Chg.trans (by repeat (first | exact Chg.refl _ _ | apply Chg.drew | apply Chg.drewN | refine Chg.alloc ?_ _)) G1.out) q0_2_77 id
  clear q0_2_77
  have W0_94 := Lib.hid (W0_78.out.up (Chg.trans (by repeat (first | exact Chg.refl _ _ | apply Chg.drew | apply Chg.drewN | refine Chg.alloc ?_ _)) G1.out))
  clear W0_78
  have W1_95 := Lib.hid (W1_79.out.up (Chg.trans (by repeat (first | exact Chg.refl _ _ | apply Chg.drew | apply Chg.drewN | refine Chg.alloc ?_ _)) G1.out))
  clear W1_79
  have W2_96 := Lib.hid (W2_80.out.up (Chg.trans (by repeat (first | exact Chg.refl _ _ | apply Chg.drew | apply Chg.drewN | refine Chg.alloc ?_ _)) G1.out))
  clear W2_80
  have C0_97 := Lib.hid (C0_81.out.up (Chg.trans (by repeat (first | exact Chg.refl _ _ | apply Chg.drew | apply Chg.drewN | refine Chg.alloc ?_ _)) G1.out))
  clear C0_81
  obtain ⟨x0_0_98c, x0_0_98f⟩ := CellF.up (Chg.trans (by repeat (first | exact Chg.refl _ _ | apply Chg.drew | apply Chg.drewN | refine Chg.alloc ?_ _)) G1.out) ⟨x0_0_82c, x0_0_82f⟩
  clear x0_0_82c x0_0_82f
  obtain ⟨x0_1_99c, x0_1_99f⟩ := CellF.up (Chg.trans (by repeat (first | exact Chg.refl _ _ | apply Chg.drew | apply Chg.drewN | refine Chg.alloc ?_ _)) G1.out) ⟨x0_1_83c, x0_1_83f⟩
  clear x0_1_83c x0_1_83f
  obtain ⟨x0_2_100c, x0_2_100f⟩ := CellF.up (Chg.trans (by repeat (first | exact Chg.refl _ _ | apply Chg.drew | apply Chg.drewN | refine Chg.alloc ?_ _)) G1.out) ⟨x0_2_84c, x0_2_84f⟩
  clear x0_2_84c x0_2_84f
  have R0_101 := Lib.hid (R0_85.out.up (Chg.trans (by repeat (first | exact Chg.refl _ _ | apply Chg.drew | apply Chg.drewN | refine Chg.alloc ?_ _)) G1.out))
  clear R0_85
  have R1_102 := Lib.hid (R1_86.out.up (Chg.trans (by repeat (first | exact Chg.refl _ _ | apply Chg.drew | apply Chg.drewN | refine Chg.alloc ?_ _)) G1.out))
  clear R1_86
  have R2_103 := Lib.hid (R2_87.out.up (Chg.trans (by repeat (first | exact Chg.refl _ _ | apply Chg.drew | apply Chg.drewN | refine Chg.alloc ?_ _)) G1.out))
  clear R2_87
  clear G1
  go_wp2
  go_region_held3 (fun w' => w'.cell? ⟨w.heap.size, 0, none⟩ = some (.int .i64 a0.d) ∧ w'.cell? ⟨w.heap.size, 1, none⟩ = some (.int .i64 a0.c) ∧ w'.cell? ⟨w.heap.size, 2, none⟩ = some (.slice A0 a0.xs.length c0) ∧ w'.cell? ⟨w30.heap.size, 0, none⟩ = some (.int .i64 a0.d) ∧ w'.cell? ⟨w30.heap.size, 1, none⟩ = some (.int .i64 a0.c) ∧ w'.cell? ⟨w30.heap.size, 2, none⟩ = some (.slice As30 a0.xs.length cs30))
      (first | (exact ⟨q0_0_91, q0_1_92, q0_2_93, x0_0_98c, x0_1_99c, x0_2_100c⟩) | (obtain ⟨p0, p1, p2, p3, p4, p5⟩ : (World.cell? _ _ = _ ∧ World.cell? _ _ = _ ∧ World.cell? _ _ = _ ∧ World.cell? _ _ = _ ∧ World.cell? _ _ = _ ∧ World.cell? _ _ = _) := (by assumption); exact ⟨Chg.cell g1 p0 id, Chg.cell g1 p1 id, Chg.cell g1 p2 id, Chg.cell g1 p3 id, Chg.cell g1 p4 id, Chg.cell g1 p5 id⟩))
      (first | (go_at_call 39; refine (toRow_any _ _ _ a0 (by unfold cntInts; omega) (X0_90.out.up (by repeat (first | exact Chg.refl _ _ | apply Chg.drew | apply Chg.drewN | refine Chg.alloc ?_ _)))).mono ?_; rintro e w104 ⟨v104, rfl, k1, g1⟩; obtain ⟨As104, cs104, rfl, ys104, hls104, hcs104⟩ := openRow k1; have K1 := Lib.hid k1; clear k1 ys104; have G1 := Lib.hid g1; obtain ⟨hy104, hz104⟩ := up_pre (show Up w88 _ from (by repeat (first | exact Chg.refl _ _ | apply Chg.drew | apply Chg.drewN | refine Chg.alloc ?_ _))) G1.out; have U_106 := Lib.hid (Chg.trans U_89.out (Chg.trans (by repeat (first | exact Chg.refl _ _ | apply Chg.drew | apply Chg.drewN | refine Chg.alloc ?_ _)) G1.out)); have X0_107 := Lib.hid (X0_90.out.up (Chg.trans (by repeat (first | exact Chg.refl _ _ | apply Chg.drew | apply Chg.drewN | refine Chg.alloc ?_ _)) G1.out)); have W0_108 := Lib.hid (W0_94.out.up (Chg.trans (by repeat (first | exact Chg.refl _ _ | apply Chg.drew | apply Chg.drewN | refine Chg.alloc ?_ _)) G1.out)); have W1_109 := Lib.hid (W1_95.out.up (Chg.trans (by repeat (first | exact Chg.refl _ _ | apply Chg.drew | apply Chg.drewN | refine Chg.alloc ?_ _)) G1.out)); have W2_110 := Lib.hid (W2_96.out.up (Chg.trans (by repeat (first | exact Chg.refl _ _ | apply Chg.drew | apply Chg.drewN | refine Chg.alloc ?_ _)) G1.out)); have C0_111 := Lib.hid (C0_97.out.up (Chg.trans (by repeat (first | exact Chg.refl _ _ | apply Chg.drew | apply Chg.drewN | refine Chg.alloc ?_ _)) G1.out)); have R0_112 := Lib.hid (R0_101.out.up (Chg.trans (by repeat (first | exact Chg.refl _ _ | apply Chg.drew | apply Chg.drewN | refine Chg.alloc ?_ _)) G1.out)); have R1_113 := Lib.hid (R1_102.out.up (Chg.trans (by repeat (first | exact Chg.refl _ _ | apply Chg.drew | apply Chg.drewN | refine Chg.alloc ?_ _)) G1.out)); have R2_114 := Lib.hid (R2_103.out.up (Chg.trans (by repeat (first | exact Chg.refl _ _ | apply Chg.drew | apply Chg.drewN | refine Chg.alloc ?_ _)) G1.out))) | (go_at_call 41; refine (eqRow_same _ _ _ _ _ a0 (C0_111.out.up (by repeat (first | exact Chg.refl _ _ | apply Chg.drew | apply Chg.drewN | refine Chg.alloc ?_ _))) (K1.out.up (by repeat (first | exact Chg.refl _ _ | apply Chg.drew | apply Chg.drewN | refine Chg.alloc ?_ _)))).mono ?_; rintro e w105 ⟨rfl, g1⟩; have G2 := Lib.hid g1; obtain ⟨hy105, hz105⟩ := up_pre (show Up w104 _ from (by repeat (first | exact Chg.refl _ _ | apply Chg.drew | apply Chg.drewN | refine Chg.alloc ?_ _))) G2.out; have U_115 := Lib.hid (Chg.trans U_106.out (Chg.trans (by repeat (first | exact Chg.refl _ _ | apply Chg.drew | apply Chg.drewN | refine Chg.alloc ?_ _)) G2.out)); have X0_116 := Lib.hid (X0_107.out.up (Chg.trans (by repeat (first | exact Chg.refl _ _ | apply Chg.drew | apply Chg.drewN | refine Chg.alloc ?_ _)) G2.out)); have W0_117 := Lib.hid (W0_108.out.up (Chg.trans (by repeat (first | exact Chg.refl _ _ | apply Chg.drew | apply Chg.drewN | refine Chg.alloc ?_ _)) G2.out)); have W1_118 := Lib.hid (W1_109.out.up (Chg.trans (by repeat (first | exact Chg.refl _ _ | apply Chg.drew | apply Chg.drewN | refine Chg.alloc ?_ _)) G2.out)); have W2_119 := Lib.hid (W2_110.out.up (Chg.trans (by repeat (first | exact Chg.refl _ _ | apply Chg.drew | apply Chg.drewN | refine Chg.alloc ?_ _)) G2.out)); have C0_120 := Lib.hid (C0_111.out.up (Chg.trans (by repeat (first | exact Chg.refl _ _ | apply Chg.drew | apply Chg.drewN | refine Chg.alloc ?_ _)) G2.out)); have R0_121 := Lib.hid (R0_112.out.up (Chg.trans (by repeat (first | exact Chg.refl _ _ | apply Chg.drew | apply Chg.drewN | refine Chg.alloc ?_ _)) G2.out)); have R1_122 := Lib.hid (R1_113.out.up (Chg.trans (by repeat (first | exact Chg.refl _ _ | apply Chg.drew | apply Chg.drewN | refine Chg.alloc ?_ _)) G2.out)); have R2_123 := Lib.hid (R2_114.out.up (Chg.trans (by repeat (first | exact Chg.refl _ _ | apply Chg.drew | apply Chg.drewN | refine Chg.alloc ?_ _)) G2.out))))
  have q0_0_124 := Chg.cell (Chg.trans (Chg.trans (by repeat (first | exact Chg.refl _ _ | apply Chg.drew | apply Chg.drewN | refine Chg.alloc ?_ _)) G1.out) (Chg.trans (by repeat (first | exact Chg.refl _ _ | apply Chg.drew | apply Chg.drewN | refine Chg.alloc ?_ _)) G2.out)) q0_0_91 id
  have q0_1_125 := Chg.cell (Chg.trans (Chg.trans (by repeat (first | exact Chg.refl _ _ | apply Chg.drew | apply Chg.drewN | refine Chg.alloc ?_ _)) G1.out) (Chg.trans (by repeat (first | exact Chg.refl _ _ | apply Chg.drew | apply Chg.drewN | refine Chg.alloc ?_ _)) G2.out)) q0_1_92 id
  have q0_2_126 := Chg.cell (Chg.trans (Chg.trans (by repeat (first | exact Chg.refl _ _ | apply Chg.drew | apply Chg.drewN | refine Chg.alloc ?_ _)) G1.out) (Chg.trans (by repeat (first | exact Chg.refl _ _ | apply Chg.drew | apply Chg.drewN | refine Chg.alloc ?_ _)) G2.out)) q0_2_93 id
  obtain ⟨x0_0_127c, x0_0_127f⟩ := CellF.up (Chg.trans (Chg.trans (by repeat (first | exact Chg.refl _ _ | apply Chg.drew | apply Chg.drewN | refine Chg.alloc ?_ _)) G1.out) (Chg.trans (by repeat (first | exact Chg.refl _ _ | apply Chg.drew | apply Chg.drewN | refine Chg.alloc ?_ _)) G2.out)) ⟨x0_0_98c, x0_0_98f⟩
  obtain ⟨x0_1_128c, x0_1_128f⟩ := CellF.up (Chg.trans (Chg.trans (by repeat (first | exact Chg.refl _ _ | apply Chg.drew | apply Chg.drewN | refine Chg.alloc ?_ _)) G1.out) (Chg.trans (by repeat (first | exact Chg.refl _ _ | apply Chg.drew | apply Chg.drewN | refine Chg.alloc ?_ _)) G2.out)) ⟨x0_1_99c, x0_1_99f⟩
  obtain ⟨x0_2_129c, x0_2_129f⟩ := CellF.up (Chg.trans (Chg.trans (by repeat (first | exact Chg.refl _ _ | apply Chg.drew | apply Chg.drewN | refine Chg.alloc ?_ _)) G1.out) (Chg.trans (by repeat (first | exact Chg.refl _ _ | apply Chg.drew | apply Chg.drewN | refine Chg.alloc ?_ _)) G2.out)) ⟨x0_2_100c, x0_2_100f⟩
  clear g1 G1 G2 K1
  clear U_89
  clear X0_90
  clear q0_0_91
  clear q0_1_92
  clear q0_2_93
  clear W0_94
  clear W1_95
  clear W2_96
  clear C0_97
  clear x0_0_98c x0_0_98f
  clear x0_1_99c x0_1_99f
  clear x0_2_100c x0_2_100f
  clear R0_101
  clear R1_102
  clear R2_103
  clear U_106
  clear X0_107
  clear W0_108
  clear W1_109
  clear W2_110
  clear C0_111
  clear R0_112
  clear R1_113
  clear R2_114
  have hp0 : (0 : Int) ≤ (1 : Int) := by omega
  have hr0' : cntInts a0.xs ≤ 8388608 := by unfold cntInts; omega
  have hq0 : (1 : Int) + cntInts a0.xs ≤ 4611686018427387904 := by omega
  go_wp2_with fail
  refine (markRow_any _ _ _ a0 ((1 : Int)) hp0 hq0 (C0_120.out.up (by repeat (first | exact Chg.refl _ _ | apply Chg.drew | apply Chg.drewN | refine Chg.alloc ?_ _)))).mono ?_
  rintro e w130 ⟨rfl, g1⟩
  have G1 := Lib.hid g1
  obtain ⟨hy130, hz130⟩ := up_pre (show Up w105 _ from (by repeat (first | exact Chg.refl _ _ | apply Chg.drew | apply Chg.drewN | refine Chg.alloc ?_ _))) G1.out
  clear g1
  clear C0_120
  clear x0_0_127c x0_0_127f
  clear x0_1_128c x0_1_128f
  clear x0_2_129c x0_2_129f
  have U_131 := Lib.hid (Chg.new (Chg.trans U_115.out (by repeat (first | exact Chg.refl _ _ | apply Chg.drew | apply Chg.drewN | refine Chg.alloc ?_ _))) G1.out (fun i hi h2 => by simp only [New] at h2; omega))
  clear U_115
  have X0_132 := Lib.hid ((X0_116.out.up (by repeat (first | exact Chg.refl _ _ | apply Chg.drew | apply Chg.drewN | refine Chg.alloc ?_ _))).keep G1.out (fun b hb h1 h2 => by simp only [New] at h1 h2; omega))
  clear X0_116
  have W0_133 := Lib.hid ((W0_117.out.up (by repeat (first | exact Chg.refl _ _ | apply Chg.drew | apply Chg.drewN | refine Chg.alloc ?_ _))).keep G1.out (fun b hb h1 h2 => by have e1 := DNW.out _ (.inl h1); simp only [New] at e1 h2; omega))
  clear W0_117
  have W1_134 := Lib.hid ((W1_118.out.up (by repeat (first | exact Chg.refl _ _ | apply Chg.drew | apply Chg.drewN | refine Chg.alloc ?_ _))).keep G1.out (fun b hb h1 h2 => by have e1 := DNW.out _ (.inr (.inl h1)); simp only [New] at e1 h2; omega))
  clear W1_118
  have W2_135 := Lib.hid ((W2_119.out.up (by repeat (first | exact Chg.refl _ _ | apply Chg.drew | apply Chg.drewN | refine Chg.alloc ?_ _))).keep G1.out (fun b hb h1 h2 => by have e1 := DNW.out _ (.inr (.inr h1)); simp only [New] at e1 h2; omega))
  clear W2_119
  have R0_136 := Lib.hid ((R0_121.out.up (by repeat (first | exact Chg.refl _ _ | apply Chg.drew | apply Chg.drewN | refine Chg.alloc ?_ _))).keep G1.out (fun b hb h1 h2 => by have e1 := DNR.out _ (.inl h1); simp only [New] at e1 h2; omega))
  clear R0_121
  have R1_137 := Lib.hid ((R1_122.out.up (by repeat (first | exact Chg.refl _ _ | apply Chg.drew | apply Chg.drewN | refine Chg.alloc ?_ _))).keep G1.out (fun b hb h1 h2 => by have e1 := DNR.out _ (.inr (.inl h1)); simp only [New] at e1 h2; omega))
  clear R1_122
  have R2_138 := Lib.hid ((R2_123.out.up (by repeat (first | exact Chg.refl _ _ | apply Chg.drew | apply Chg.drewN | refine Chg.alloc ?_ _))).keep G1.out (fun b hb h1 h2 => by have e1 := DNR.out _ (.inr (.inr h1)); simp only [New] at e1 h2; omega))
  clear R2_123
  have q0_0_139 := Chg.cell G1.out (Chg.cell (S := Nowhere) (by repeat (first | exact Chg.refl _ _ | apply Chg.drew | apply Chg.drewN | refine Chg.alloc ?_ _)) q0_0_124 id) (fun h2 => by simp only [New] at h2; omega)
  clear q0_0_124
  have q0_1_140 := Chg.cell G1.out (Chg.cell (S := Nowhere) (by repeat (first | exact Chg.refl _ _ | apply Chg.drew | apply Chg.drewN | refine Chg.alloc ?_ _)) q0_1_125 id) (fun h2 => by simp only [New] at h2; omega)
  clear q0_1_125
  have q0_2_141 := Chg.cell G1.out (Chg.cell (S := Nowhere) (by repeat (first | exact Chg.refl _ _ | apply Chg.drew | apply Chg.drewN | refine Chg.alloc ?_ _)) q0_2_126 id) (fun h2 => by simp only [New] at h2; omega)
  clear q0_2_126
  clear G1
  have hneg : decide (((1 : Int) + cntInts a0.xs : Int) < 0) = false := decide_eq_false (by omega)
  go_wp2_with fail
  refine (eqInts _ _ _ _ _ (ownsL (trOut a0)) (R0_136.out.up (by repeat (first | exact Chg.refl _ _ | apply Chg.drew | apply Chg.drewN | refine Chg.alloc ?_ _))) (W0_133.out.up (by repeat (first | exact Chg.refl _ _ | apply Chg.drew | apply Chg.drewN | refine Chg.alloc ?_ _)))).mono ?_
  rintro e w142 ⟨rfl, g1⟩
  have G1 := Lib.hid g1
  obtain ⟨hy142, hz142⟩ := up_pre (show Up w130 _ from (by repeat (first | exact Chg.refl _ _ | apply Chg.drew | apply Chg.drewN | refine Chg.alloc ?_ _))) G1.out
  clear g1
  have U_143 := Lib.hid (Chg.trans U_131.out (Chg.trans (by repeat (first | exact Chg.refl _ _ | apply Chg.drew | apply Chg.drewN | refine Chg.alloc ?_ _)) G1.out))
  clear U_131
  have X0_144 := Lib.hid (X0_132.out.up (Chg.trans (by repeat (first | exact Chg.refl _ _ | apply Chg.drew | apply Chg.drewN | refine Chg.alloc ?_ _)) G1.out))
  clear X0_132
  have W0_145 := Lib.hid (W0_133.out.up (Chg.trans (by repeat (first | exact Chg.refl _ _ | apply Chg.drew | apply Chg.drewN | refine Chg.alloc ?_ _)) G1.out))
  clear W0_133
  have W1_146 := Lib.hid (W1_134.out.up (Chg.trans (by repeat (first | exact Chg.refl _ _ | apply Chg.drew | apply Chg.drewN | refine Chg.alloc ?_ _)) G1.out))
  clear W1_134
  have W2_147 := Lib.hid (W2_135.out.up (Chg.trans (by repeat (first | exact Chg.refl _ _ | apply Chg.drew | apply Chg.drewN | refine Chg.alloc ?_ _)) G1.out))
  clear W2_135
  have R0_148 := Lib.hid (R0_136.out.up (Chg.trans (by repeat (first | exact Chg.refl _ _ | apply Chg.drew | apply Chg.drewN | refine Chg.alloc ?_ _)) G1.out))
  clear R0_136
  have R1_149 := Lib.hid (R1_137.out.up (Chg.trans (by repeat (first | exact Chg.refl _ _ | apply Chg.drew | apply Chg.drewN | refine Chg.alloc ?_ _)) G1.out))
  clear R1_137
  have R2_150 := Lib.hid (R2_138.out.up (Chg.trans (by repeat (first | exact Chg.refl _ _ | apply Chg.drew | apply Chg.drewN | refine Chg.alloc ?_ _)) G1.out))
  clear R2_138
  have q0_0_151 := Chg.cell (Chg.trans (by repeat (first | exact Chg.refl _ _ | apply Chg.drew | apply Chg.drewN | refine Chg.alloc ?_ _)) G1.out) q0_0_139 id
  clear q0_0_139
  have q0_1_152 := Chg.cell (Chg.trans (by repeat (first | exact Chg.refl _ _ | apply Chg.drew | apply Chg.drewN | refine Chg.alloc ?_ _)) G1.out) q0_1_140 id
  clear q0_1_140
  have q0_2_153 := Chg.cell (Chg.trans (by repeat (first | exact Chg.refl _ _ | apply Chg.drew | apply Chg.drewN | refine Chg.alloc ?_ _)) G1.out) q0_2_141 id
  clear q0_2_141
  clear G1
  go_wp2_with fail
  refine (eqInts _ _ _ _ _ (togL (trOut a0)) (R1_149.out.up (by repeat (first | exact Chg.refl _ _ | apply Chg.drew | apply Chg.drewN | refine Chg.alloc ?_ _))) (W1_146.out.up (by repeat (first | exact Chg.refl _ _ | apply Chg.drew | apply Chg.drewN | refine Chg.alloc ?_ _)))).mono ?_
  rintro e w154 ⟨rfl, g1⟩
  have G1 := Lib.hid g1
  obtain ⟨hy154, hz154⟩ := up_pre (show Up w142 _ from (by repeat (first | exact Chg.refl _ _ | apply Chg.drew | apply Chg.drewN | refine Chg.alloc ?_ _))) G1.out
  clear g1
  have U_155 := Lib.hid (Chg.trans U_143.out (Chg.trans (by repeat (first | exact Chg.refl _ _ | apply Chg.drew | apply Chg.drewN | refine Chg.alloc ?_ _)) G1.out))
  clear U_143
  have X0_156 := Lib.hid (X0_144.out.up (Chg.trans (by repeat (first | exact Chg.refl _ _ | apply Chg.drew | apply Chg.drewN | refine Chg.alloc ?_ _)) G1.out))
  clear X0_144
  have W0_157 := Lib.hid (W0_145.out.up (Chg.trans (by repeat (first | exact Chg.refl _ _ | apply Chg.drew | apply Chg.drewN | refine Chg.alloc ?_ _)) G1.out))
  clear W0_145
  have W1_158 := Lib.hid (W1_146.out.up (Chg.trans (by repeat (first | exact Chg.refl _ _ | apply Chg.drew | apply Chg.drewN | refine Chg.alloc ?_ _)) G1.out))
  clear W1_146
  have W2_159 := Lib.hid (W2_147.out.up (Chg.trans (by repeat (first | exact Chg.refl _ _ | apply Chg.drew | apply Chg.drewN | refine Chg.alloc ?_ _)) G1.out))
  clear W2_147
  have R0_160 := Lib.hid (R0_148.out.up (Chg.trans (by repeat (first | exact Chg.refl _ _ | apply Chg.drew | apply Chg.drewN | refine Chg.alloc ?_ _)) G1.out))
  clear R0_148
  have R1_161 := Lib.hid (R1_149.out.up (Chg.trans (by repeat (first | exact Chg.refl _ _ | apply Chg.drew | apply Chg.drewN | refine Chg.alloc ?_ _)) G1.out))
  clear R1_149
  have R2_162 := Lib.hid (R2_150.out.up (Chg.trans (by repeat (first | exact Chg.refl _ _ | apply Chg.drew | apply Chg.drewN | refine Chg.alloc ?_ _)) G1.out))
  clear R2_150
  have q0_0_163 := Chg.cell (Chg.trans (by repeat (first | exact Chg.refl _ _ | apply Chg.drew | apply Chg.drewN | refine Chg.alloc ?_ _)) G1.out) q0_0_151 id
  clear q0_0_151
  have q0_1_164 := Chg.cell (Chg.trans (by repeat (first | exact Chg.refl _ _ | apply Chg.drew | apply Chg.drewN | refine Chg.alloc ?_ _)) G1.out) q0_1_152 id
  clear q0_1_152
  have q0_2_165 := Chg.cell (Chg.trans (by repeat (first | exact Chg.refl _ _ | apply Chg.drew | apply Chg.drewN | refine Chg.alloc ?_ _)) G1.out) q0_2_153 id
  clear q0_2_153
  clear G1
  go_wp2_with fail
  refine (eqInts _ _ _ _ _ (movL (trOut a0)) (R2_162.out.up (by repeat (first | exact Chg.refl _ _ | apply Chg.drew | apply Chg.drewN | refine Chg.alloc ?_ _))) (W2_159.out.up (by repeat (first | exact Chg.refl _ _ | apply Chg.drew | apply Chg.drewN | refine Chg.alloc ?_ _)))).mono ?_
  rintro e w166 ⟨rfl, g1⟩
  have G1 := Lib.hid g1
  obtain ⟨hy166, hz166⟩ := up_pre (show Up w154 _ from (by repeat (first | exact Chg.refl _ _ | apply Chg.drew | apply Chg.drewN | refine Chg.alloc ?_ _))) G1.out
  clear g1
  have U_167 := Lib.hid (Chg.trans U_155.out (Chg.trans (by repeat (first | exact Chg.refl _ _ | apply Chg.drew | apply Chg.drewN | refine Chg.alloc ?_ _)) G1.out))
  clear U_155
  have X0_168 := Lib.hid (X0_156.out.up (Chg.trans (by repeat (first | exact Chg.refl _ _ | apply Chg.drew | apply Chg.drewN | refine Chg.alloc ?_ _)) G1.out))
  clear X0_156
  have W0_169 := Lib.hid (W0_157.out.up (Chg.trans (by repeat (first | exact Chg.refl _ _ | apply Chg.drew | apply Chg.drewN | refine Chg.alloc ?_ _)) G1.out))
  clear W0_157
  have W1_170 := Lib.hid (W1_158.out.up (Chg.trans (by repeat (first | exact Chg.refl _ _ | apply Chg.drew | apply Chg.drewN | refine Chg.alloc ?_ _)) G1.out))
  clear W1_158
  have W2_171 := Lib.hid (W2_159.out.up (Chg.trans (by repeat (first | exact Chg.refl _ _ | apply Chg.drew | apply Chg.drewN | refine Chg.alloc ?_ _)) G1.out))
  clear W2_159
  have R0_172 := Lib.hid (R0_160.out.up (Chg.trans (by repeat (first | exact Chg.refl _ _ | apply Chg.drew | apply Chg.drewN | refine Chg.alloc ?_ _)) G1.out))
  clear R0_160
  have R1_173 := Lib.hid (R1_161.out.up (Chg.trans (by repeat (first | exact Chg.refl _ _ | apply Chg.drew | apply Chg.drewN | refine Chg.alloc ?_ _)) G1.out))
  clear R1_161
  have R2_174 := Lib.hid (R2_162.out.up (Chg.trans (by repeat (first | exact Chg.refl _ _ | apply Chg.drew | apply Chg.drewN | refine Chg.alloc ?_ _)) G1.out))
  clear R2_162
  have q0_0_175 := Chg.cell (Chg.trans (by repeat (first | exact Chg.refl _ _ | apply Chg.drew | apply Chg.drewN | refine Chg.alloc ?_ _)) G1.out) q0_0_163 id
  clear q0_0_163
  have q0_1_176 := Chg.cell (Chg.trans (by repeat (first | exact Chg.refl _ _ | apply Chg.drew | apply Chg.drewN | refine Chg.alloc ?_ _)) G1.out) q0_1_164 id
  clear q0_1_164
  have q0_2_177 := Chg.cell (Chg.trans (by repeat (first | exact Chg.refl _ _ | apply Chg.drew | apply Chg.drewN | refine Chg.alloc ?_ _)) G1.out) q0_2_165 id
  clear q0_2_165
  clear G1
  clear hneg
  have HR := Lib.hid (trOut_cnt a0)
  have hr1_0 : (0 : Int) ≤ 1 := by omega
  have hr2_0 : (1 : Int) + cntInts (ownsL (trOut a0)) ≤ 4611686018427387904 := by have := HR.out; omega
  go_wp2_with fail
  refine (markInts _ _ _ (ownsL (trOut a0)) (1) hr1_0 hr2_0 (R0_172.out.up (by repeat (first | exact Chg.refl _ _ | apply Chg.drew | apply Chg.drewN | refine Chg.alloc ?_ _)))).mono ?_
  rintro e w178 ⟨rfl, g1, k1⟩
  have G1 := Lib.hid g1
  obtain ⟨hy178, hz178⟩ := up_pre (show Up w166 _ from (by repeat (first | exact Chg.refl _ _ | apply Chg.drew | apply Chg.drewN | refine Chg.alloc ?_ _))) G1.out
  have K1 := Lib.hid k1
  clear g1 k1
  clear R0_172
  have U_179 := Lib.hid (Chg.new (Chg.trans U_167.out (by repeat (first | exact Chg.refl _ _ | apply Chg.drew | apply Chg.drewN | refine Chg.alloc ?_ _))) G1.out (fun i hi h2 => by have e2 := DNR.out _ (.inl h2); simp only [New] at e2; omega))
  clear U_167
  have X0_180 := Lib.hid ((X0_168.out.up (by repeat (first | exact Chg.refl _ _ | apply Chg.drew | apply Chg.drewN | refine Chg.alloc ?_ _))).keep G1.out (fun b hb h1 h2 => by have e2 := DNR.out _ (.inl h2); simp only [New] at h1 e2; omega))
  clear X0_168
  have W0_181 := Lib.hid ((W0_169.out.up (by repeat (first | exact Chg.refl _ _ | apply Chg.drew | apply Chg.drewN | refine Chg.alloc ?_ _))).keep G1.out (fun b hb h1 h2 => by have e1 := DNW.out _ (.inl h1); have e2 := DNR.out _ (.inl h2); simp only [New] at e1 e2; omega))
  clear W0_169
  have W1_182 := Lib.hid ((W1_170.out.up (by repeat (first | exact Chg.refl _ _ | apply Chg.drew | apply Chg.drewN | refine Chg.alloc ?_ _))).keep G1.out (fun b hb h1 h2 => by have e1 := DNW.out _ (.inr (.inl h1)); have e2 := DNR.out _ (.inl h2); simp only [New] at e1 e2; omega))
  clear W1_170
  have W2_183 := Lib.hid ((W2_171.out.up (by repeat (first | exact Chg.refl _ _ | apply Chg.drew | apply Chg.drewN | refine Chg.alloc ?_ _))).keep G1.out (fun b hb h1 h2 => by have e1 := DNW.out _ (.inr (.inr h1)); have e2 := DNR.out _ (.inl h2); simp only [New] at e1 e2; omega))
  clear W2_171
  have R1_184 := Lib.hid ((R1_173.out.up (by repeat (first | exact Chg.refl _ _ | apply Chg.drew | apply Chg.drewN | refine Chg.alloc ?_ _))).keep G1.out (fun b hb h1 h2 => by exact DDR.out.1 b h2 h1))
  clear R1_173
  have R2_185 := Lib.hid ((R2_174.out.up (by repeat (first | exact Chg.refl _ _ | apply Chg.drew | apply Chg.drewN | refine Chg.alloc ?_ _))).keep G1.out (fun b hb h1 h2 => by exact DDR.out.2.1 b h2 h1))
  clear R2_174
  have q0_0_186 := Chg.cell G1.out (Chg.cell (S := Nowhere) (by repeat (first | exact Chg.refl _ _ | apply Chg.drew | apply Chg.drewN | refine Chg.alloc ?_ _)) q0_0_175 id) (fun h2 => by have e2 := DNR.out _ (.inl h2); simp only [New] at e2; omega)
  clear q0_0_175
  have q0_1_187 := Chg.cell G1.out (Chg.cell (S := Nowhere) (by repeat (first | exact Chg.refl _ _ | apply Chg.drew | apply Chg.drewN | refine Chg.alloc ?_ _)) q0_1_176 id) (fun h2 => by have e2 := DNR.out _ (.inl h2); simp only [New] at e2; omega)
  clear q0_1_176
  have q0_2_188 := Chg.cell G1.out (Chg.cell (S := Nowhere) (by repeat (first | exact Chg.refl _ _ | apply Chg.drew | apply Chg.drewN | refine Chg.alloc ?_ _)) q0_2_177 id) (fun h2 => by have e2 := DNR.out _ (.inl h2); simp only [New] at e2; omega)
  clear q0_2_177
  clear G1
  have M0_189 := Lib.hid (K1.out)
  clear K1
  have hr1_1 : (0 : Int) ≤ (1 : Int) + cntInts (ownsL (trOut a0)) := by omega
  have hr2_1 : ((1 : Int) + cntInts (ownsL (trOut a0)) : Int) + cntInts (togL (trOut a0)) ≤ 4611686018427387904 := by have := HR.out; omega
  go_wp2_with fail
  refine (markInts _ _ _ (togL (trOut a0)) ((1 : Int) + cntInts (ownsL (trOut a0))) hr1_1 hr2_1 (R1_184.out.up (by repeat (first | exact Chg.refl _ _ | apply Chg.drew | apply Chg.drewN | refine Chg.alloc ?_ _)))).mono ?_
  rintro e w190 ⟨rfl, g1, k1⟩
  have G1 := Lib.hid g1
  obtain ⟨hy190, hz190⟩ := up_pre (show Up w178 _ from (by repeat (first | exact Chg.refl _ _ | apply Chg.drew | apply Chg.drewN | refine Chg.alloc ?_ _))) G1.out
  have K1 := Lib.hid k1
  clear g1 k1
  clear R1_184
  have U_191 := Lib.hid (Chg.new (Chg.trans U_179.out (by repeat (first | exact Chg.refl _ _ | apply Chg.drew | apply Chg.drewN | refine Chg.alloc ?_ _))) G1.out (fun i hi h2 => by have e2 := DNR.out _ (.inr (.inl h2)); simp only [New] at e2; omega))
  clear U_179
  have X0_192 := Lib.hid ((X0_180.out.up (by repeat (first | exact Chg.refl _ _ | apply Chg.drew | apply Chg.drewN | refine Chg.alloc ?_ _))).keep G1.out (fun b hb h1 h2 => by have e2 := DNR.out _ (.inr (.inl h2)); simp only [New] at h1 e2; omega))
  clear X0_180
  have W0_193 := Lib.hid ((W0_181.out.up (by repeat (first | exact Chg.refl _ _ | apply Chg.drew | apply Chg.drewN | refine Chg.alloc ?_ _))).keep G1.out (fun b hb h1 h2 => by have e1 := DNW.out _ (.inl h1); have e2 := DNR.out _ (.inr (.inl h2)); simp only [New] at e1 e2; omega))
  clear W0_181
  have W1_194 := Lib.hid ((W1_182.out.up (by repeat (first | exact Chg.refl _ _ | apply Chg.drew | apply Chg.drewN | refine Chg.alloc ?_ _))).keep G1.out (fun b hb h1 h2 => by have e1 := DNW.out _ (.inr (.inl h1)); have e2 := DNR.out _ (.inr (.inl h2)); simp only [New] at e1 e2; omega))
  clear W1_182
  have W2_195 := Lib.hid ((W2_183.out.up (by repeat (first | exact Chg.refl _ _ | apply Chg.drew | apply Chg.drewN | refine Chg.alloc ?_ _))).keep G1.out (fun b hb h1 h2 => by have e1 := DNW.out _ (.inr (.inr h1)); have e2 := DNR.out _ (.inr (.inl h2)); simp only [New] at e1 e2; omega))
  clear W2_183
  have R2_196 := Lib.hid ((R2_185.out.up (by repeat (first | exact Chg.refl _ _ | apply Chg.drew | apply Chg.drewN | refine Chg.alloc ?_ _))).keep G1.out (fun b hb h1 h2 => by exact DDR.out.2.2 b h2 h1))
  clear R2_185
  have q0_0_197 := Chg.cell G1.out (Chg.cell (S := Nowhere) (by repeat (first | exact Chg.refl _ _ | apply Chg.drew | apply Chg.drewN | refine Chg.alloc ?_ _)) q0_0_186 id) (fun h2 => by have e2 := DNR.out _ (.inr (.inl h2)); simp only [New] at e2; omega)
  clear q0_0_186
  have q0_1_198 := Chg.cell G1.out (Chg.cell (S := Nowhere) (by repeat (first | exact Chg.refl _ _ | apply Chg.drew | apply Chg.drewN | refine Chg.alloc ?_ _)) q0_1_187 id) (fun h2 => by have e2 := DNR.out _ (.inr (.inl h2)); simp only [New] at e2; omega)
  clear q0_1_187
  have q0_2_199 := Chg.cell G1.out (Chg.cell (S := Nowhere) (by repeat (first | exact Chg.refl _ _ | apply Chg.drew | apply Chg.drewN | refine Chg.alloc ?_ _)) q0_2_188 id) (fun h2 => by have e2 := DNR.out _ (.inr (.inl h2)); simp only [New] at e2; omega)
  clear q0_2_188
  have M0_200 := Lib.hid ((M0_189.out.up (by repeat (first | exact Chg.refl _ _ | apply Chg.drew | apply Chg.drewN | refine Chg.alloc ?_ _))).keep G1.out (fun b hb h1 h2 => by exact DDR.out.1 b h1 h2))
  clear M0_189
  clear G1
  have M1_201 := Lib.hid (K1.out)
  clear K1
  have hr1_2 : (0 : Int) ≤ (1 : Int) + cntInts (ownsL (trOut a0)) + cntInts (togL (trOut a0)) := by omega
  have hr2_2 : ((1 : Int) + cntInts (ownsL (trOut a0)) + cntInts (togL (trOut a0)) : Int) + cntInts (movL (trOut a0)) ≤ 4611686018427387904 := by have := HR.out; omega
  go_wp2_with fail
  refine (markInts _ _ _ (movL (trOut a0)) ((1 : Int) + cntInts (ownsL (trOut a0)) + cntInts (togL (trOut a0))) hr1_2 hr2_2 (R2_196.out.up (by repeat (first | exact Chg.refl _ _ | apply Chg.drew | apply Chg.drewN | refine Chg.alloc ?_ _)))).mono ?_
  rintro e w202 ⟨rfl, g1, k1⟩
  have G1 := Lib.hid g1
  obtain ⟨hy202, hz202⟩ := up_pre (show Up w190 _ from (by repeat (first | exact Chg.refl _ _ | apply Chg.drew | apply Chg.drewN | refine Chg.alloc ?_ _))) G1.out
  have K1 := Lib.hid k1
  clear g1 k1
  clear R2_196
  have U_203 := Lib.hid (Chg.new (Chg.trans U_191.out (by repeat (first | exact Chg.refl _ _ | apply Chg.drew | apply Chg.drewN | refine Chg.alloc ?_ _))) G1.out (fun i hi h2 => by have e2 := DNR.out _ (.inr (.inr h2)); simp only [New] at e2; omega))
  clear U_191
  have X0_204 := Lib.hid ((X0_192.out.up (by repeat (first | exact Chg.refl _ _ | apply Chg.drew | apply Chg.drewN | refine Chg.alloc ?_ _))).keep G1.out (fun b hb h1 h2 => by have e2 := DNR.out _ (.inr (.inr h2)); simp only [New] at h1 e2; omega))
  clear X0_192
  have W0_205 := Lib.hid ((W0_193.out.up (by repeat (first | exact Chg.refl _ _ | apply Chg.drew | apply Chg.drewN | refine Chg.alloc ?_ _))).keep G1.out (fun b hb h1 h2 => by have e1 := DNW.out _ (.inl h1); have e2 := DNR.out _ (.inr (.inr h2)); simp only [New] at e1 e2; omega))
  clear W0_193
  have W1_206 := Lib.hid ((W1_194.out.up (by repeat (first | exact Chg.refl _ _ | apply Chg.drew | apply Chg.drewN | refine Chg.alloc ?_ _))).keep G1.out (fun b hb h1 h2 => by have e1 := DNW.out _ (.inr (.inl h1)); have e2 := DNR.out _ (.inr (.inr h2)); simp only [New] at e1 e2; omega))
  clear W1_194
  have W2_207 := Lib.hid ((W2_195.out.up (by repeat (first | exact Chg.refl _ _ | apply Chg.drew | apply Chg.drewN | refine Chg.alloc ?_ _))).keep G1.out (fun b hb h1 h2 => by have e1 := DNW.out _ (.inr (.inr h1)); have e2 := DNR.out _ (.inr (.inr h2)); simp only [New] at e1 e2; omega))
  clear W2_195
  have q0_0_208 := Chg.cell G1.out (Chg.cell (S := Nowhere) (by repeat (first | exact Chg.refl _ _ | apply Chg.drew | apply Chg.drewN | refine Chg.alloc ?_ _)) q0_0_197 id) (fun h2 => by have e2 := DNR.out _ (.inr (.inr h2)); simp only [New] at e2; omega)
  clear q0_0_197
  have q0_1_209 := Chg.cell G1.out (Chg.cell (S := Nowhere) (by repeat (first | exact Chg.refl _ _ | apply Chg.drew | apply Chg.drewN | refine Chg.alloc ?_ _)) q0_1_198 id) (fun h2 => by have e2 := DNR.out _ (.inr (.inr h2)); simp only [New] at e2; omega)
  clear q0_1_198
  have q0_2_210 := Chg.cell G1.out (Chg.cell (S := Nowhere) (by repeat (first | exact Chg.refl _ _ | apply Chg.drew | apply Chg.drewN | refine Chg.alloc ?_ _)) q0_2_199 id) (fun h2 => by have e2 := DNR.out _ (.inr (.inr h2)); simp only [New] at e2; omega)
  clear q0_2_199
  have M0_211 := Lib.hid ((M0_200.out.up (by repeat (first | exact Chg.refl _ _ | apply Chg.drew | apply Chg.drewN | refine Chg.alloc ?_ _))).keep G1.out (fun b hb h1 h2 => by exact DDR.out.2.1 b h1 h2))
  clear M0_200
  have M1_212 := Lib.hid ((M1_201.out.up (by repeat (first | exact Chg.refl _ _ | apply Chg.drew | apply Chg.drewN | refine Chg.alloc ?_ _))).keep G1.out (fun b hb h1 h2 => by exact DDR.out.2.2 b h1 h2))
  clear M1_201
  clear G1
  have M2_213 := Lib.hid (K1.out)
  clear K1
  have hneg0 : decide ((1 : Int) + cntInts (ownsL (trOut a0)) < 0) = false := decide_eq_false (by omega)
  go_wp2_with fail
  refine (heldInts _ _ _ (ownsL (trOut a0)) (1) hr1_0 hr2_0 (M0_211.out.up (by repeat (first | exact Chg.refl _ _ | apply Chg.drew | apply Chg.drewN | refine Chg.alloc ?_ _)))).mono ?_
  rintro e w214 ⟨rfl, g1⟩
  have G1 := Lib.hid g1
  obtain ⟨hy214, hz214⟩ := up_pre (show Up w202 _ from (by repeat (first | exact Chg.refl _ _ | apply Chg.drew | apply Chg.drewN | refine Chg.alloc ?_ _))) G1.out
  clear g1
  have U_215 := Lib.hid (Chg.trans U_203.out (Chg.trans (by repeat (first | exact Chg.refl _ _ | apply Chg.drew | apply Chg.drewN | refine Chg.alloc ?_ _)) G1.out))
  clear U_203
  have X0_216 := Lib.hid (X0_204.out.up (Chg.trans (by repeat (first | exact Chg.refl _ _ | apply Chg.drew | apply Chg.drewN | refine Chg.alloc ?_ _)) G1.out))
  clear X0_204
  have W0_217 := Lib.hid (W0_205.out.up (Chg.trans (by repeat (first | exact Chg.refl _ _ | apply Chg.drew | apply Chg.drewN | refine Chg.alloc ?_ _)) G1.out))
  clear W0_205
  have W1_218 := Lib.hid (W1_206.out.up (Chg.trans (by repeat (first | exact Chg.refl _ _ | apply Chg.drew | apply Chg.drewN | refine Chg.alloc ?_ _)) G1.out))
  clear W1_206
  have W2_219 := Lib.hid (W2_207.out.up (Chg.trans (by repeat (first | exact Chg.refl _ _ | apply Chg.drew | apply Chg.drewN | refine Chg.alloc ?_ _)) G1.out))
  clear W2_207
  have q0_0_220 := Chg.cell (Chg.trans (by repeat (first | exact Chg.refl _ _ | apply Chg.drew | apply Chg.drewN | refine Chg.alloc ?_ _)) G1.out) q0_0_208 id
  clear q0_0_208
  have q0_1_221 := Chg.cell (Chg.trans (by repeat (first | exact Chg.refl _ _ | apply Chg.drew | apply Chg.drewN | refine Chg.alloc ?_ _)) G1.out) q0_1_209 id
  clear q0_1_209
  have q0_2_222 := Chg.cell (Chg.trans (by repeat (first | exact Chg.refl _ _ | apply Chg.drew | apply Chg.drewN | refine Chg.alloc ?_ _)) G1.out) q0_2_210 id
  clear q0_2_210
  have M0_223 := Lib.hid (M0_211.out.up (Chg.trans (by repeat (first | exact Chg.refl _ _ | apply Chg.drew | apply Chg.drewN | refine Chg.alloc ?_ _)) G1.out))
  clear M0_211
  have M1_224 := Lib.hid (M1_212.out.up (Chg.trans (by repeat (first | exact Chg.refl _ _ | apply Chg.drew | apply Chg.drewN | refine Chg.alloc ?_ _)) G1.out))
  clear M1_212
  have M2_225 := Lib.hid (M2_213.out.up (Chg.trans (by repeat (first | exact Chg.refl _ _ | apply Chg.drew | apply Chg.drewN | refine Chg.alloc ?_ _)) G1.out))
  clear M2_213
  clear G1
  have hneg1 : decide (((1 : Int) + cntInts (ownsL (trOut a0)) : Int) + cntInts (togL (trOut a0)) < 0) = false := decide_eq_false (by omega)
  go_wp2_with fail
  refine (heldInts _ _ _ (togL (trOut a0)) ((1 : Int) + cntInts (ownsL (trOut a0))) hr1_1 hr2_1 (M1_224.out.up (by repeat (first | exact Chg.refl _ _ | apply Chg.drew | apply Chg.drewN | refine Chg.alloc ?_ _)))).mono ?_
  rintro e w226 ⟨rfl, g1⟩
  have G1 := Lib.hid g1
  obtain ⟨hy226, hz226⟩ := up_pre (show Up w214 _ from (by repeat (first | exact Chg.refl _ _ | apply Chg.drew | apply Chg.drewN | refine Chg.alloc ?_ _))) G1.out
  clear g1
  have U_227 := Lib.hid (Chg.trans U_215.out (Chg.trans (by repeat (first | exact Chg.refl _ _ | apply Chg.drew | apply Chg.drewN | refine Chg.alloc ?_ _)) G1.out))
  clear U_215
  have X0_228 := Lib.hid (X0_216.out.up (Chg.trans (by repeat (first | exact Chg.refl _ _ | apply Chg.drew | apply Chg.drewN | refine Chg.alloc ?_ _)) G1.out))
  clear X0_216
  have W0_229 := Lib.hid (W0_217.out.up (Chg.trans (by repeat (first | exact Chg.refl _ _ | apply Chg.drew | apply Chg.drewN | refine Chg.alloc ?_ _)) G1.out))
  clear W0_217
  have W1_230 := Lib.hid (W1_218.out.up (Chg.trans (by repeat (first | exact Chg.refl _ _ | apply Chg.drew | apply Chg.drewN | refine Chg.alloc ?_ _)) G1.out))
  clear W1_218
  have W2_231 := Lib.hid (W2_219.out.up (Chg.trans (by repeat (first | exact Chg.refl _ _ | apply Chg.drew | apply Chg.drewN | refine Chg.alloc ?_ _)) G1.out))
  clear W2_219
  have q0_0_232 := Chg.cell (Chg.trans (by repeat (first | exact Chg.refl _ _ | apply Chg.drew | apply Chg.drewN | refine Chg.alloc ?_ _)) G1.out) q0_0_220 id
  clear q0_0_220
  have q0_1_233 := Chg.cell (Chg.trans (by repeat (first | exact Chg.refl _ _ | apply Chg.drew | apply Chg.drewN | refine Chg.alloc ?_ _)) G1.out) q0_1_221 id
  clear q0_1_221
  have q0_2_234 := Chg.cell (Chg.trans (by repeat (first | exact Chg.refl _ _ | apply Chg.drew | apply Chg.drewN | refine Chg.alloc ?_ _)) G1.out) q0_2_222 id
  clear q0_2_222
  have M0_235 := Lib.hid (M0_223.out.up (Chg.trans (by repeat (first | exact Chg.refl _ _ | apply Chg.drew | apply Chg.drewN | refine Chg.alloc ?_ _)) G1.out))
  clear M0_223
  have M1_236 := Lib.hid (M1_224.out.up (Chg.trans (by repeat (first | exact Chg.refl _ _ | apply Chg.drew | apply Chg.drewN | refine Chg.alloc ?_ _)) G1.out))
  clear M1_224
  have M2_237 := Lib.hid (M2_225.out.up (Chg.trans (by repeat (first | exact Chg.refl _ _ | apply Chg.drew | apply Chg.drewN | refine Chg.alloc ?_ _)) G1.out))
  clear M2_225
  clear G1
  have hneg2 : decide (((1 : Int) + cntInts (ownsL (trOut a0)) + cntInts (togL (trOut a0)) : Int) + cntInts (movL (trOut a0)) < 0) = false := decide_eq_false (by omega)
  go_wp2_with fail
  refine (heldInts _ _ _ (movL (trOut a0)) ((1 : Int) + cntInts (ownsL (trOut a0)) + cntInts (togL (trOut a0))) hr1_2 hr2_2 (M2_237.out.up (by repeat (first | exact Chg.refl _ _ | apply Chg.drew | apply Chg.drewN | refine Chg.alloc ?_ _)))).mono ?_
  rintro e w238 ⟨rfl, g1⟩
  have G1 := Lib.hid g1
  obtain ⟨hy238, hz238⟩ := up_pre (show Up w226 _ from (by repeat (first | exact Chg.refl _ _ | apply Chg.drew | apply Chg.drewN | refine Chg.alloc ?_ _))) G1.out
  clear g1
  have U_239 := Lib.hid (Chg.trans U_227.out (Chg.trans (by repeat (first | exact Chg.refl _ _ | apply Chg.drew | apply Chg.drewN | refine Chg.alloc ?_ _)) G1.out))
  clear U_227
  have X0_240 := Lib.hid (X0_228.out.up (Chg.trans (by repeat (first | exact Chg.refl _ _ | apply Chg.drew | apply Chg.drewN | refine Chg.alloc ?_ _)) G1.out))
  clear X0_228
  have W0_241 := Lib.hid (W0_229.out.up (Chg.trans (by repeat (first | exact Chg.refl _ _ | apply Chg.drew | apply Chg.drewN | refine Chg.alloc ?_ _)) G1.out))
  clear W0_229
  have W1_242 := Lib.hid (W1_230.out.up (Chg.trans (by repeat (first | exact Chg.refl _ _ | apply Chg.drew | apply Chg.drewN | refine Chg.alloc ?_ _)) G1.out))
  clear W1_230
  have W2_243 := Lib.hid (W2_231.out.up (Chg.trans (by repeat (first | exact Chg.refl _ _ | apply Chg.drew | apply Chg.drewN | refine Chg.alloc ?_ _)) G1.out))
  clear W2_231
  have q0_0_244 := Chg.cell (Chg.trans (by repeat (first | exact Chg.refl _ _ | apply Chg.drew | apply Chg.drewN | refine Chg.alloc ?_ _)) G1.out) q0_0_232 id
  clear q0_0_232
  have q0_1_245 := Chg.cell (Chg.trans (by repeat (first | exact Chg.refl _ _ | apply Chg.drew | apply Chg.drewN | refine Chg.alloc ?_ _)) G1.out) q0_1_233 id
  clear q0_1_233
  have q0_2_246 := Chg.cell (Chg.trans (by repeat (first | exact Chg.refl _ _ | apply Chg.drew | apply Chg.drewN | refine Chg.alloc ?_ _)) G1.out) q0_2_234 id
  clear q0_2_234
  have M0_247 := Lib.hid (M0_235.out.up (Chg.trans (by repeat (first | exact Chg.refl _ _ | apply Chg.drew | apply Chg.drewN | refine Chg.alloc ?_ _)) G1.out))
  clear M0_235
  have M1_248 := Lib.hid (M1_236.out.up (Chg.trans (by repeat (first | exact Chg.refl _ _ | apply Chg.drew | apply Chg.drewN | refine Chg.alloc ?_ _)) G1.out))
  clear M1_236
  have M2_249 := Lib.hid (M2_237.out.up (Chg.trans (by repeat (first | exact Chg.refl _ _ | apply Chg.drew | apply Chg.drewN | refine Chg.alloc ?_ _)) G1.out))
  clear M2_237
  clear G1
  go_wp2_with fail
  refine (toRow_any _ _ _ a0 (by unfold cntInts; omega) (X0_240.out.up (by repeat (first | exact Chg.refl _ _ | apply Chg.drew | apply Chg.drewN | refine Chg.alloc ?_ _)))).mono ?_
  rintro e w250 ⟨v250, rfl, k1, g1⟩
  have K1 := Lib.hid k1
  clear k1
  have G1 := Lib.hid g1
  obtain ⟨hy250, hz250⟩ := up_pre (show Up w238 _ from (by repeat (first | exact Chg.refl _ _ | apply Chg.drew | apply Chg.drewN | refine Chg.alloc ?_ _))) G1.out
  clear g1
  have U_251 := Lib.hid (Chg.trans U_239.out (Chg.trans (by repeat (first | exact Chg.refl _ _ | apply Chg.drew | apply Chg.drewN | refine Chg.alloc ?_ _)) G1.out))
  clear U_239
  have X0_252 := Lib.hid (X0_240.out.up (Chg.trans (by repeat (first | exact Chg.refl _ _ | apply Chg.drew | apply Chg.drewN | refine Chg.alloc ?_ _)) G1.out))
  clear X0_240
  have W0_253 := Lib.hid (W0_241.out.up (Chg.trans (by repeat (first | exact Chg.refl _ _ | apply Chg.drew | apply Chg.drewN | refine Chg.alloc ?_ _)) G1.out))
  clear W0_241
  have W1_254 := Lib.hid (W1_242.out.up (Chg.trans (by repeat (first | exact Chg.refl _ _ | apply Chg.drew | apply Chg.drewN | refine Chg.alloc ?_ _)) G1.out))
  clear W1_242
  have W2_255 := Lib.hid (W2_243.out.up (Chg.trans (by repeat (first | exact Chg.refl _ _ | apply Chg.drew | apply Chg.drewN | refine Chg.alloc ?_ _)) G1.out))
  clear W2_243
  have q0_0_256 := Chg.cell (Chg.trans (by repeat (first | exact Chg.refl _ _ | apply Chg.drew | apply Chg.drewN | refine Chg.alloc ?_ _)) G1.out) q0_0_244 id
  clear q0_0_244
  have q0_1_257 := Chg.cell (Chg.trans (by repeat (first | exact Chg.refl _ _ | apply Chg.drew | apply Chg.drewN | refine Chg.alloc ?_ _)) G1.out) q0_1_245 id
  clear q0_1_245
  have q0_2_258 := Chg.cell (Chg.trans (by repeat (first | exact Chg.refl _ _ | apply Chg.drew | apply Chg.drewN | refine Chg.alloc ?_ _)) G1.out) q0_2_246 id
  clear q0_2_246
  have M0_259 := Lib.hid (M0_247.out.up (Chg.trans (by repeat (first | exact Chg.refl _ _ | apply Chg.drew | apply Chg.drewN | refine Chg.alloc ?_ _)) G1.out))
  clear M0_247
  have M1_260 := Lib.hid (M1_248.out.up (Chg.trans (by repeat (first | exact Chg.refl _ _ | apply Chg.drew | apply Chg.drewN | refine Chg.alloc ?_ _)) G1.out))
  clear M1_248
  have M2_261 := Lib.hid (M2_249.out.up (Chg.trans (by repeat (first | exact Chg.refl _ _ | apply Chg.drew | apply Chg.drewN | refine Chg.alloc ?_ _)) G1.out))
  clear M2_249
  clear G1
  have E0_262 := Lib.hid (K1.out)
  clear K1
  obtain ⟨As250, cs250, rfl, ys250, hls250, hcs250⟩ := openRow E0_262.out
  clear ys250
  go_wp2_with fail
  refine (RowTargets_any _ _ _ a0 (E0_262.out.up (by repeat (first | exact Chg.refl _ _ | apply Chg.drew | apply Chg.drewN | refine Chg.alloc ?_ _)))).mono ?_
  rintro e w263 ⟨v263_0, v263_1, v263_2, SH0, SH1, SH2, rfl, k0, k1, k2, hDH263, hNH263, g1⟩
  obtain ⟨A263_0, c263_0, rfl, hl263_0, hc263_0, -⟩ := k0.shape
  have K0 := Lib.hid k0
  clear k0
  obtain ⟨A263_1, c263_1, rfl, hl263_1, hc263_1, -⟩ := k1.shape
  have K1 := Lib.hid k1
  clear k1
  obtain ⟨A263_2, c263_2, rfl, hl263_2, hc263_2, -⟩ := k2.shape
  have K2 := Lib.hid k2
  clear k2
  have DDH := Lib.hid hDH263
  have DNH := Lib.hid hNH263
  clear hDH263 hNH263
  have G1 := Lib.hid g1
  obtain ⟨hy263, hz263⟩ := up_pre (show Up w250 _ from (by repeat (first | exact Chg.refl _ _ | apply Chg.drew | apply Chg.drewN | refine Chg.alloc ?_ _))) G1.out
  clear g1
  have U_264 := Lib.hid (Chg.trans U_251.out (Chg.trans (by repeat (first | exact Chg.refl _ _ | apply Chg.drew | apply Chg.drewN | refine Chg.alloc ?_ _)) G1.out))
  clear U_251
  have X0_265 := Lib.hid (X0_252.out.up (Chg.trans (by repeat (first | exact Chg.refl _ _ | apply Chg.drew | apply Chg.drewN | refine Chg.alloc ?_ _)) G1.out))
  clear X0_252
  have W0_266 := Lib.hid (W0_253.out.up (Chg.trans (by repeat (first | exact Chg.refl _ _ | apply Chg.drew | apply Chg.drewN | refine Chg.alloc ?_ _)) G1.out))
  clear W0_253
  have W1_267 := Lib.hid (W1_254.out.up (Chg.trans (by repeat (first | exact Chg.refl _ _ | apply Chg.drew | apply Chg.drewN | refine Chg.alloc ?_ _)) G1.out))
  clear W1_254
  have W2_268 := Lib.hid (W2_255.out.up (Chg.trans (by repeat (first | exact Chg.refl _ _ | apply Chg.drew | apply Chg.drewN | refine Chg.alloc ?_ _)) G1.out))
  clear W2_255
  have q0_0_269 := Chg.cell (Chg.trans (by repeat (first | exact Chg.refl _ _ | apply Chg.drew | apply Chg.drewN | refine Chg.alloc ?_ _)) G1.out) q0_0_256 id
  clear q0_0_256
  have q0_1_270 := Chg.cell (Chg.trans (by repeat (first | exact Chg.refl _ _ | apply Chg.drew | apply Chg.drewN | refine Chg.alloc ?_ _)) G1.out) q0_1_257 id
  clear q0_1_257
  have q0_2_271 := Chg.cell (Chg.trans (by repeat (first | exact Chg.refl _ _ | apply Chg.drew | apply Chg.drewN | refine Chg.alloc ?_ _)) G1.out) q0_2_258 id
  clear q0_2_258
  have M0_272 := Lib.hid (M0_259.out.up (Chg.trans (by repeat (first | exact Chg.refl _ _ | apply Chg.drew | apply Chg.drewN | refine Chg.alloc ?_ _)) G1.out))
  clear M0_259
  have M1_273 := Lib.hid (M1_260.out.up (Chg.trans (by repeat (first | exact Chg.refl _ _ | apply Chg.drew | apply Chg.drewN | refine Chg.alloc ?_ _)) G1.out))
  clear M1_260
  have M2_274 := Lib.hid (M2_261.out.up (Chg.trans (by repeat (first | exact Chg.refl _ _ | apply Chg.drew | apply Chg.drewN | refine Chg.alloc ?_ _)) G1.out))
  clear M2_261
  have E0_275 := Lib.hid (E0_262.out.up (Chg.trans (by repeat (first | exact Chg.refl _ _ | apply Chg.drew | apply Chg.drewN | refine Chg.alloc ?_ _)) G1.out))
  clear E0_262
  clear G1
  have H0_276 := Lib.hid (K0.out)
  clear K0
  have H1_277 := Lib.hid (K1.out)
  clear K1
  have H2_278 := Lib.hid (K2.out)
  clear K2
  go_wp2_with fail
  refine (eqInts _ _ _ _ _ (ownsL (trOut a0)) (H0_276.out.up (by repeat (first | exact Chg.refl _ _ | apply Chg.drew | apply Chg.drewN | refine Chg.alloc ?_ _))) (W0_266.out.up (by repeat (first | exact Chg.refl _ _ | apply Chg.drew | apply Chg.drewN | refine Chg.alloc ?_ _)))).mono ?_
  rintro e w279 ⟨rfl, g1⟩
  have G1 := Lib.hid g1
  obtain ⟨hy279, hz279⟩ := up_pre (show Up w263 _ from (by repeat (first | exact Chg.refl _ _ | apply Chg.drew | apply Chg.drewN | refine Chg.alloc ?_ _))) G1.out
  clear g1
  have U_280 := Lib.hid (Chg.trans U_264.out (Chg.trans (by repeat (first | exact Chg.refl _ _ | apply Chg.drew | apply Chg.drewN | refine Chg.alloc ?_ _)) G1.out))
  clear U_264
  have X0_281 := Lib.hid (X0_265.out.up (Chg.trans (by repeat (first | exact Chg.refl _ _ | apply Chg.drew | apply Chg.drewN | refine Chg.alloc ?_ _)) G1.out))
  clear X0_265
  have W0_282 := Lib.hid (W0_266.out.up (Chg.trans (by repeat (first | exact Chg.refl _ _ | apply Chg.drew | apply Chg.drewN | refine Chg.alloc ?_ _)) G1.out))
  clear W0_266
  have W1_283 := Lib.hid (W1_267.out.up (Chg.trans (by repeat (first | exact Chg.refl _ _ | apply Chg.drew | apply Chg.drewN | refine Chg.alloc ?_ _)) G1.out))
  clear W1_267
  have W2_284 := Lib.hid (W2_268.out.up (Chg.trans (by repeat (first | exact Chg.refl _ _ | apply Chg.drew | apply Chg.drewN | refine Chg.alloc ?_ _)) G1.out))
  clear W2_268
  have q0_0_285 := Chg.cell (Chg.trans (by repeat (first | exact Chg.refl _ _ | apply Chg.drew | apply Chg.drewN | refine Chg.alloc ?_ _)) G1.out) q0_0_269 id
  clear q0_0_269
  have q0_1_286 := Chg.cell (Chg.trans (by repeat (first | exact Chg.refl _ _ | apply Chg.drew | apply Chg.drewN | refine Chg.alloc ?_ _)) G1.out) q0_1_270 id
  clear q0_1_270
  have q0_2_287 := Chg.cell (Chg.trans (by repeat (first | exact Chg.refl _ _ | apply Chg.drew | apply Chg.drewN | refine Chg.alloc ?_ _)) G1.out) q0_2_271 id
  clear q0_2_271
  have M0_288 := Lib.hid (M0_272.out.up (Chg.trans (by repeat (first | exact Chg.refl _ _ | apply Chg.drew | apply Chg.drewN | refine Chg.alloc ?_ _)) G1.out))
  clear M0_272
  have M1_289 := Lib.hid (M1_273.out.up (Chg.trans (by repeat (first | exact Chg.refl _ _ | apply Chg.drew | apply Chg.drewN | refine Chg.alloc ?_ _)) G1.out))
  clear M1_273
  have M2_290 := Lib.hid (M2_274.out.up (Chg.trans (by repeat (first | exact Chg.refl _ _ | apply Chg.drew | apply Chg.drewN | refine Chg.alloc ?_ _)) G1.out))
  clear M2_274
  have E0_291 := Lib.hid (E0_275.out.up (Chg.trans (by repeat (first | exact Chg.refl _ _ | apply Chg.drew | apply Chg.drewN | refine Chg.alloc ?_ _)) G1.out))
  clear E0_275
  have H0_292 := Lib.hid (H0_276.out.up (Chg.trans (by repeat (first | exact Chg.refl _ _ | apply Chg.drew | apply Chg.drewN | refine Chg.alloc ?_ _)) G1.out))
  clear H0_276
  have H1_293 := Lib.hid (H1_277.out.up (Chg.trans (by repeat (first | exact Chg.refl _ _ | apply Chg.drew | apply Chg.drewN | refine Chg.alloc ?_ _)) G1.out))
  clear H1_277
  have H2_294 := Lib.hid (H2_278.out.up (Chg.trans (by repeat (first | exact Chg.refl _ _ | apply Chg.drew | apply Chg.drewN | refine Chg.alloc ?_ _)) G1.out))
  clear H2_278
  clear G1
  go_wp2_with fail
  refine (eqInts _ _ _ _ _ (togL (trOut a0)) (H1_293.out.up (by repeat (first | exact Chg.refl _ _ | apply Chg.drew | apply Chg.drewN | refine Chg.alloc ?_ _))) (W1_283.out.up (by repeat (first | exact Chg.refl _ _ | apply Chg.drew | apply Chg.drewN | refine Chg.alloc ?_ _)))).mono ?_
  rintro e w295 ⟨rfl, g1⟩
  have G1 := Lib.hid g1
  obtain ⟨hy295, hz295⟩ := up_pre (show Up w279 _ from (by repeat (first | exact Chg.refl _ _ | apply Chg.drew | apply Chg.drewN | refine Chg.alloc ?_ _))) G1.out
  clear g1
  have U_296 := Lib.hid (Chg.trans U_280.out (Chg.trans (by repeat (first | exact Chg.refl _ _ | apply Chg.drew | apply Chg.drewN | refine Chg.alloc ?_ _)) G1.out))
  clear U_280
  have X0_297 := Lib.hid (X0_281.out.up (Chg.trans (by repeat (first | exact Chg.refl _ _ | apply Chg.drew | apply Chg.drewN | refine Chg.alloc ?_ _)) G1.out))
  clear X0_281
  have W0_298 := Lib.hid (W0_282.out.up (Chg.trans (by repeat (first | exact Chg.refl _ _ | apply Chg.drew | apply Chg.drewN | refine Chg.alloc ?_ _)) G1.out))
  clear W0_282
  have W1_299 := Lib.hid (W1_283.out.up (Chg.trans (by repeat (first | exact Chg.refl _ _ | apply Chg.drew | apply Chg.drewN | refine Chg.alloc ?_ _)) G1.out))
  clear W1_283
  have W2_300 := Lib.hid (W2_284.out.up (Chg.trans (by repeat (first | exact Chg.refl _ _ | apply Chg.drew | apply Chg.drewN | refine Chg.alloc ?_ _)) G1.out))
  clear W2_284
  have q0_0_301 := Chg.cell (Chg.trans (by repeat (first | exact Chg.refl _ _ | apply Chg.drew | apply Chg.drewN | refine Chg.alloc ?_ _)) G1.out) q0_0_285 id
  clear q0_0_285
  have q0_1_302 := Chg.cell (Chg.trans (by repeat (first | exact Chg.refl _ _ | apply Chg.drew | apply Chg.drewN | refine Chg.alloc ?_ _)) G1.out) q0_1_286 id
  clear q0_1_286
  have q0_2_303 := Chg.cell (Chg.trans (by repeat (first | exact Chg.refl _ _ | apply Chg.drew | apply Chg.drewN | refine Chg.alloc ?_ _)) G1.out) q0_2_287 id
  clear q0_2_287
  have M0_304 := Lib.hid (M0_288.out.up (Chg.trans (by repeat (first | exact Chg.refl _ _ | apply Chg.drew | apply Chg.drewN | refine Chg.alloc ?_ _)) G1.out))
  clear M0_288
  have M1_305 := Lib.hid (M1_289.out.up (Chg.trans (by repeat (first | exact Chg.refl _ _ | apply Chg.drew | apply Chg.drewN | refine Chg.alloc ?_ _)) G1.out))
  clear M1_289
  have M2_306 := Lib.hid (M2_290.out.up (Chg.trans (by repeat (first | exact Chg.refl _ _ | apply Chg.drew | apply Chg.drewN | refine Chg.alloc ?_ _)) G1.out))
  clear M2_290
  have E0_307 := Lib.hid (E0_291.out.up (Chg.trans (by repeat (first | exact Chg.refl _ _ | apply Chg.drew | apply Chg.drewN | refine Chg.alloc ?_ _)) G1.out))
  clear E0_291
  have H0_308 := Lib.hid (H0_292.out.up (Chg.trans (by repeat (first | exact Chg.refl _ _ | apply Chg.drew | apply Chg.drewN | refine Chg.alloc ?_ _)) G1.out))
  clear H0_292
  have H1_309 := Lib.hid (H1_293.out.up (Chg.trans (by repeat (first | exact Chg.refl _ _ | apply Chg.drew | apply Chg.drewN | refine Chg.alloc ?_ _)) G1.out))
  clear H1_293
  have H2_310 := Lib.hid (H2_294.out.up (Chg.trans (by repeat (first | exact Chg.refl _ _ | apply Chg.drew | apply Chg.drewN | refine Chg.alloc ?_ _)) G1.out))
  clear H2_294
  clear G1
  go_wp2_with fail
  refine (eqInts _ _ _ _ _ (movL (trOut a0)) (H2_310.out.up (by repeat (first | exact Chg.refl _ _ | apply Chg.drew | apply Chg.drewN | refine Chg.alloc ?_ _))) (W2_300.out.up (by repeat (first | exact Chg.refl _ _ | apply Chg.drew | apply Chg.drewN | refine Chg.alloc ?_ _)))).mono ?_
  rintro e w311 ⟨rfl, g1⟩
  have G1 := Lib.hid g1
  obtain ⟨hy311, hz311⟩ := up_pre (show Up w295 _ from (by repeat (first | exact Chg.refl _ _ | apply Chg.drew | apply Chg.drewN | refine Chg.alloc ?_ _))) G1.out
  clear g1
  have U_312 := Lib.hid (Chg.trans U_296.out (Chg.trans (by repeat (first | exact Chg.refl _ _ | apply Chg.drew | apply Chg.drewN | refine Chg.alloc ?_ _)) G1.out))
  clear U_296
  have X0_313 := Lib.hid (X0_297.out.up (Chg.trans (by repeat (first | exact Chg.refl _ _ | apply Chg.drew | apply Chg.drewN | refine Chg.alloc ?_ _)) G1.out))
  clear X0_297
  have W0_314 := Lib.hid (W0_298.out.up (Chg.trans (by repeat (first | exact Chg.refl _ _ | apply Chg.drew | apply Chg.drewN | refine Chg.alloc ?_ _)) G1.out))
  clear W0_298
  have W1_315 := Lib.hid (W1_299.out.up (Chg.trans (by repeat (first | exact Chg.refl _ _ | apply Chg.drew | apply Chg.drewN | refine Chg.alloc ?_ _)) G1.out))
  clear W1_299
  have W2_316 := Lib.hid (W2_300.out.up (Chg.trans (by repeat (first | exact Chg.refl _ _ | apply Chg.drew | apply Chg.drewN | refine Chg.alloc ?_ _)) G1.out))
  clear W2_300
  have q0_0_317 := Chg.cell (Chg.trans (by repeat (first | exact Chg.refl _ _ | apply Chg.drew | apply Chg.drewN | refine Chg.alloc ?_ _)) G1.out) q0_0_301 id
  clear q0_0_301
  have q0_1_318 := Chg.cell (Chg.trans (by repeat (first | exact Chg.refl _ _ | apply Chg.drew | apply Chg.drewN | refine Chg.alloc ?_ _)) G1.out) q0_1_302 id
  clear q0_1_302
  have q0_2_319 := Chg.cell (Chg.trans (by repeat (first | exact Chg.refl _ _ | apply Chg.drew | apply Chg.drewN | refine Chg.alloc ?_ _)) G1.out) q0_2_303 id
  clear q0_2_303
  have M0_320 := Lib.hid (M0_304.out.up (Chg.trans (by repeat (first | exact Chg.refl _ _ | apply Chg.drew | apply Chg.drewN | refine Chg.alloc ?_ _)) G1.out))
  clear M0_304
  have M1_321 := Lib.hid (M1_305.out.up (Chg.trans (by repeat (first | exact Chg.refl _ _ | apply Chg.drew | apply Chg.drewN | refine Chg.alloc ?_ _)) G1.out))
  clear M1_305
  have M2_322 := Lib.hid (M2_306.out.up (Chg.trans (by repeat (first | exact Chg.refl _ _ | apply Chg.drew | apply Chg.drewN | refine Chg.alloc ?_ _)) G1.out))
  clear M2_306
  have E0_323 := Lib.hid (E0_307.out.up (Chg.trans (by repeat (first | exact Chg.refl _ _ | apply Chg.drew | apply Chg.drewN | refine Chg.alloc ?_ _)) G1.out))
  clear E0_307
  have H0_324 := Lib.hid (H0_308.out.up (Chg.trans (by repeat (first | exact Chg.refl _ _ | apply Chg.drew | apply Chg.drewN | refine Chg.alloc ?_ _)) G1.out))
  clear H0_308
  have H1_325 := Lib.hid (H1_309.out.up (Chg.trans (by repeat (first | exact Chg.refl _ _ | apply Chg.drew | apply Chg.drewN | refine Chg.alloc ?_ _)) G1.out))
  clear H1_309
  have H2_326 := Lib.hid (H2_310.out.up (Chg.trans (by repeat (first | exact Chg.refl _ _ | apply Chg.drew | apply Chg.drewN | refine Chg.alloc ?_ _)) G1.out))
  clear H2_310
  clear G1
  go_wp2_with fail
  refine (heldInts _ _ _ (ownsL (trOut a0)) (1) hr1_0 hr2_0 (M0_320.out.up (by repeat (first | exact Chg.refl _ _ | apply Chg.drew | apply Chg.drewN | refine Chg.alloc ?_ _)))).mono ?_
  rintro e w327 ⟨rfl, g1⟩
  have G1 := Lib.hid g1
  obtain ⟨hy327, hz327⟩ := up_pre (show Up w311 _ from (by repeat (first | exact Chg.refl _ _ | apply Chg.drew | apply Chg.drewN | refine Chg.alloc ?_ _))) G1.out
  clear g1
  have U_328 := Lib.hid (Chg.trans U_312.out (Chg.trans (by repeat (first | exact Chg.refl _ _ | apply Chg.drew | apply Chg.drewN | refine Chg.alloc ?_ _)) G1.out))
  clear U_312
  have X0_329 := Lib.hid (X0_313.out.up (Chg.trans (by repeat (first | exact Chg.refl _ _ | apply Chg.drew | apply Chg.drewN | refine Chg.alloc ?_ _)) G1.out))
  clear X0_313
  have W0_330 := Lib.hid (W0_314.out.up (Chg.trans (by repeat (first | exact Chg.refl _ _ | apply Chg.drew | apply Chg.drewN | refine Chg.alloc ?_ _)) G1.out))
  clear W0_314
  have W1_331 := Lib.hid (W1_315.out.up (Chg.trans (by repeat (first | exact Chg.refl _ _ | apply Chg.drew | apply Chg.drewN | refine Chg.alloc ?_ _)) G1.out))
  clear W1_315
  have W2_332 := Lib.hid (W2_316.out.up (Chg.trans (by repeat (first | exact Chg.refl _ _ | apply Chg.drew | apply Chg.drewN | refine Chg.alloc ?_ _)) G1.out))
  clear W2_316
  have q0_0_333 := Chg.cell (Chg.trans (by repeat (first | exact Chg.refl _ _ | apply Chg.drew | apply Chg.drewN | refine Chg.alloc ?_ _)) G1.out) q0_0_317 id
  clear q0_0_317
  have q0_1_334 := Chg.cell (Chg.trans (by repeat (first | exact Chg.refl _ _ | apply Chg.drew | apply Chg.drewN | refine Chg.alloc ?_ _)) G1.out) q0_1_318 id
  clear q0_1_318
  have q0_2_335 := Chg.cell (Chg.trans (by repeat (first | exact Chg.refl _ _ | apply Chg.drew | apply Chg.drewN | refine Chg.alloc ?_ _)) G1.out) q0_2_319 id
  clear q0_2_319
  have M0_336 := Lib.hid (M0_320.out.up (Chg.trans (by repeat (first | exact Chg.refl _ _ | apply Chg.drew | apply Chg.drewN | refine Chg.alloc ?_ _)) G1.out))
  clear M0_320
  have M1_337 := Lib.hid (M1_321.out.up (Chg.trans (by repeat (first | exact Chg.refl _ _ | apply Chg.drew | apply Chg.drewN | refine Chg.alloc ?_ _)) G1.out))
  clear M1_321
  have M2_338 := Lib.hid (M2_322.out.up (Chg.trans (by repeat (first | exact Chg.refl _ _ | apply Chg.drew | apply Chg.drewN | refine Chg.alloc ?_ _)) G1.out))
  clear M2_322
  have E0_339 := Lib.hid (E0_323.out.up (Chg.trans (by repeat (first | exact Chg.refl _ _ | apply Chg.drew | apply Chg.drewN | refine Chg.alloc ?_ _)) G1.out))
  clear E0_323
  have H0_340 := Lib.hid (H0_324.out.up (Chg.trans (by repeat (first | exact Chg.refl _ _ | apply Chg.drew | apply Chg.drewN | refine Chg.alloc ?_ _)) G1.out))
  clear H0_324
  have H1_341 := Lib.hid (H1_325.out.up (Chg.trans (by repeat (first | exact Chg.refl _ _ | apply Chg.drew | apply Chg.drewN | refine Chg.alloc ?_ _)) G1.out))
  clear H1_325
  have H2_342 := Lib.hid (H2_326.out.up (Chg.trans (by repeat (first | exact Chg.refl _ _ | apply Chg.drew | apply Chg.drewN | refine Chg.alloc ?_ _)) G1.out))
  clear H2_326
  clear G1
  go_wp2_with fail
  refine (heldInts _ _ _ (togL (trOut a0)) ((1 : Int) + cntInts (ownsL (trOut a0))) hr1_1 hr2_1 (M1_337.out.up (by repeat (first | exact Chg.refl _ _ | apply Chg.drew | apply Chg.drewN | refine Chg.alloc ?_ _)))).mono ?_
  rintro e w343 ⟨rfl, g1⟩
  have G1 := Lib.hid g1
  obtain ⟨hy343, hz343⟩ := up_pre (show Up w327 _ from (by repeat (first | exact Chg.refl _ _ | apply Chg.drew | apply Chg.drewN | refine Chg.alloc ?_ _))) G1.out
  clear g1
  have U_344 := Lib.hid (Chg.trans U_328.out (Chg.trans (by repeat (first | exact Chg.refl _ _ | apply Chg.drew | apply Chg.drewN | refine Chg.alloc ?_ _)) G1.out))
  clear U_328
  have X0_345 := Lib.hid (X0_329.out.up (Chg.trans (by repeat (first | exact Chg.refl _ _ | apply Chg.drew | apply Chg.drewN | refine Chg.alloc ?_ _)) G1.out))
  clear X0_329
  have W0_346 := Lib.hid (W0_330.out.up (Chg.trans (by repeat (first | exact Chg.refl _ _ | apply Chg.drew | apply Chg.drewN | refine Chg.alloc ?_ _)) G1.out))
  clear W0_330
  have W1_347 := Lib.hid (W1_331.out.up (Chg.trans (by repeat (first | exact Chg.refl _ _ | apply Chg.drew | apply Chg.drewN | refine Chg.alloc ?_ _)) G1.out))
  clear W1_331
  have W2_348 := Lib.hid (W2_332.out.up (Chg.trans (by repeat (first | exact Chg.refl _ _ | apply Chg.drew | apply Chg.drewN | refine Chg.alloc ?_ _)) G1.out))
  clear W2_332
  have q0_0_349 := Chg.cell (Chg.trans (by repeat (first | exact Chg.refl _ _ | apply Chg.drew | apply Chg.drewN | refine Chg.alloc ?_ _)) G1.out) q0_0_333 id
  clear q0_0_333
  have q0_1_350 := Chg.cell (Chg.trans (by repeat (first | exact Chg.refl _ _ | apply Chg.drew | apply Chg.drewN | refine Chg.alloc ?_ _)) G1.out) q0_1_334 id
  clear q0_1_334
  have q0_2_351 := Chg.cell (Chg.trans (by repeat (first | exact Chg.refl _ _ | apply Chg.drew | apply Chg.drewN | refine Chg.alloc ?_ _)) G1.out) q0_2_335 id
  clear q0_2_335
  have M0_352 := Lib.hid (M0_336.out.up (Chg.trans (by repeat (first | exact Chg.refl _ _ | apply Chg.drew | apply Chg.drewN | refine Chg.alloc ?_ _)) G1.out))
  clear M0_336
  have M1_353 := Lib.hid (M1_337.out.up (Chg.trans (by repeat (first | exact Chg.refl _ _ | apply Chg.drew | apply Chg.drewN | refine Chg.alloc ?_ _)) G1.out))
  clear M1_337
  have M2_354 := Lib.hid (M2_338.out.up (Chg.trans (by repeat (first | exact Chg.refl _ _ | apply Chg.drew | apply Chg.drewN | refine Chg.alloc ?_ _)) G1.out))
  clear M2_338
  have E0_355 := Lib.hid (E0_339.out.up (Chg.trans (by repeat (first | exact Chg.refl _ _ | apply Chg.drew | apply Chg.drewN | refine Chg.alloc ?_ _)) G1.out))
  clear E0_339
  have H0_356 := Lib.hid (H0_340.out.up (Chg.trans (by repeat (first | exact Chg.refl _ _ | apply Chg.drew | apply Chg.drewN | refine Chg.alloc ?_ _)) G1.out))
  clear H0_340
  have H1_357 := Lib.hid (H1_341.out.up (Chg.trans (by repeat (first | exact Chg.refl _ _ | apply Chg.drew | apply Chg.drewN | refine Chg.alloc ?_ _)) G1.out))
  clear H1_341
  have H2_358 := Lib.hid (H2_342.out.up (Chg.trans (by repeat (first | exact Chg.refl _ _ | apply Chg.drew | apply Chg.drewN | refine Chg.alloc ?_ _)) G1.out))
  clear H2_342
  clear G1
  go_wp2_with fail
  refine (heldInts _ _ _ (movL (trOut a0)) ((1 : Int) + cntInts (ownsL (trOut a0)) + cntInts (togL (trOut a0))) hr1_2 hr2_2 (M2_354.out.up (by repeat (first | exact Chg.refl _ _ | apply Chg.drew | apply Chg.drewN | refine Chg.alloc ?_ _)))).mono ?_
  rintro e w359 ⟨rfl, g1⟩
  have G1 := Lib.hid g1
  obtain ⟨hy359, hz359⟩ := up_pre (show Up w343 _ from (by repeat (first | exact Chg.refl _ _ | apply Chg.drew | apply Chg.drewN | refine Chg.alloc ?_ _))) G1.out
  clear g1
  have U_360 := Lib.hid (Chg.trans U_344.out (Chg.trans (by repeat (first | exact Chg.refl _ _ | apply Chg.drew | apply Chg.drewN | refine Chg.alloc ?_ _)) G1.out))
  clear U_344
  have X0_361 := Lib.hid (X0_345.out.up (Chg.trans (by repeat (first | exact Chg.refl _ _ | apply Chg.drew | apply Chg.drewN | refine Chg.alloc ?_ _)) G1.out))
  clear X0_345
  have W0_362 := Lib.hid (W0_346.out.up (Chg.trans (by repeat (first | exact Chg.refl _ _ | apply Chg.drew | apply Chg.drewN | refine Chg.alloc ?_ _)) G1.out))
  clear W0_346
  have W1_363 := Lib.hid (W1_347.out.up (Chg.trans (by repeat (first | exact Chg.refl _ _ | apply Chg.drew | apply Chg.drewN | refine Chg.alloc ?_ _)) G1.out))
  clear W1_347
  have W2_364 := Lib.hid (W2_348.out.up (Chg.trans (by repeat (first | exact Chg.refl _ _ | apply Chg.drew | apply Chg.drewN | refine Chg.alloc ?_ _)) G1.out))
  clear W2_348
  have q0_0_365 := Chg.cell (Chg.trans (by repeat (first | exact Chg.refl _ _ | apply Chg.drew | apply Chg.drewN | refine Chg.alloc ?_ _)) G1.out) q0_0_349 id
  clear q0_0_349
  have q0_1_366 := Chg.cell (Chg.trans (by repeat (first | exact Chg.refl _ _ | apply Chg.drew | apply Chg.drewN | refine Chg.alloc ?_ _)) G1.out) q0_1_350 id
  clear q0_1_350
  have q0_2_367 := Chg.cell (Chg.trans (by repeat (first | exact Chg.refl _ _ | apply Chg.drew | apply Chg.drewN | refine Chg.alloc ?_ _)) G1.out) q0_2_351 id
  clear q0_2_351
  have M0_368 := Lib.hid (M0_352.out.up (Chg.trans (by repeat (first | exact Chg.refl _ _ | apply Chg.drew | apply Chg.drewN | refine Chg.alloc ?_ _)) G1.out))
  clear M0_352
  have M1_369 := Lib.hid (M1_353.out.up (Chg.trans (by repeat (first | exact Chg.refl _ _ | apply Chg.drew | apply Chg.drewN | refine Chg.alloc ?_ _)) G1.out))
  clear M1_353
  have M2_370 := Lib.hid (M2_354.out.up (Chg.trans (by repeat (first | exact Chg.refl _ _ | apply Chg.drew | apply Chg.drewN | refine Chg.alloc ?_ _)) G1.out))
  clear M2_354
  have E0_371 := Lib.hid (E0_355.out.up (Chg.trans (by repeat (first | exact Chg.refl _ _ | apply Chg.drew | apply Chg.drewN | refine Chg.alloc ?_ _)) G1.out))
  clear E0_355
  have H0_372 := Lib.hid (H0_356.out.up (Chg.trans (by repeat (first | exact Chg.refl _ _ | apply Chg.drew | apply Chg.drewN | refine Chg.alloc ?_ _)) G1.out))
  clear H0_356
  have H1_373 := Lib.hid (H1_357.out.up (Chg.trans (by repeat (first | exact Chg.refl _ _ | apply Chg.drew | apply Chg.drewN | refine Chg.alloc ?_ _)) G1.out))
  clear H1_357
  have H2_374 := Lib.hid (H2_358.out.up (Chg.trans (by repeat (first | exact Chg.refl _ _ | apply Chg.drew | apply Chg.drewN | refine Chg.alloc ?_ _)) G1.out))
  clear H2_358
  clear G1
  go_wp2
  go_ret
  exact ⟨rfl, Up.below (Chg.trans U_360.out (by repeat (first | exact Chg.refl _ _ | apply Chg.drew | apply Chg.drewN | refine Chg.alloc ?_ _)))⟩
set_option maxRecDepth 100000 in
theorem walk (w : World) (v0 : Value) (a0 : RowM) (ha0 : RowV w (fun b => b < w.heap.size) v0 a0) :
    Calls Try.prog 10 #[v0] w fun e w' => e = .returned (.bool true) ∧ Below w.heap.size w w' := by
  by_cases hbt : (a0.xs.length : Int) ≤ 1048576
  rotate_left
  · skip
    obtain ⟨A0, c0, rfl, y0, hl0, hc0⟩ := openRow ha0
    have X0 := Lib.hid ha0
    clear ha0 y0
    have U0 := Lib.hid (Chg.refl Nowhere w)
    have hd : decide ((-1 : Int) < 0) = true := rfl
    have U_1 := Lib.hid (Chg.trans U0.out ((Chg.refl Nowhere w).alloc (.cells #[.int .i64 a0.d, .int .i64 a0.c, .slice A0 a0.xs.length c0] 52)))
    clear U0
    have X_2 := Lib.hid (X0.out.up ((Chg.refl Nowhere w).alloc (.cells #[.int .i64 a0.d, .int .i64 a0.c, .slice A0 a0.xs.length c0] 52)))
    clear X0
    have q0_3 := (show (w.alloc (.cells #[.int .i64 a0.d, .int .i64 a0.c, .slice A0 a0.xs.length c0] 52)).cell? ⟨w.heap.size, 0, none⟩ = some (.int .i64 a0.d) from cell_new _ _ _ _)
    have q1_4 := (show (w.alloc (.cells #[.int .i64 a0.d, .int .i64 a0.c, .slice A0 a0.xs.length c0] 52)).cell? ⟨w.heap.size, 1, none⟩ = some (.int .i64 a0.c) from cell_new _ _ _ _)
    have q2_5 := (show (w.alloc (.cells #[.int .i64 a0.d, .int .i64 a0.c, .slice A0 a0.xs.length c0] 52)).cell? ⟨w.heap.size, 2, none⟩ = some (.slice A0 a0.xs.length c0) from cell_new _ _ _ _)
    have hbx6 : w.heap.size < (w.alloc (.cells #[.int .i64 a0.d, .int .i64 a0.c, .slice A0 a0.xs.length c0] 52)).heap.size := by simp
    go_enter Try.func10, Try.ntmps10
    go_wp2_with fail
    refine (szRow_no _ _ _ a0 1048576 (by omega) (by omega) (X_2.out.up (by repeat (first | exact Chg.refl _ _ | apply Chg.drew | apply Chg.drewN | refine Chg.alloc ?_ _)))).mono ?_
    rintro e w7 ⟨rfl, g1⟩
    have G1 := Lib.hid g1
    have hz7 := G1.out.size
    clear g1
    have U_8 := Lib.hid (Chg.trans U_1.out (Chg.trans (by repeat (first | exact Chg.refl _ _ | apply Chg.drew | apply Chg.drewN | refine Chg.alloc ?_ _)) G1.out))
    clear U_1
    have X_9 := Lib.hid (X_2.out.up (Chg.trans (by repeat (first | exact Chg.refl _ _ | apply Chg.drew | apply Chg.drewN | refine Chg.alloc ?_ _)) G1.out))
    clear X_2
    have q0_10 := Chg.cell (Chg.trans (by repeat (first | exact Chg.refl _ _ | apply Chg.drew | apply Chg.drewN | refine Chg.alloc ?_ _)) G1.out) q0_3 id
    clear q0_3
    have q1_11 := Chg.cell (Chg.trans (by repeat (first | exact Chg.refl _ _ | apply Chg.drew | apply Chg.drewN | refine Chg.alloc ?_ _)) G1.out) q1_4 id
    clear q1_4
    have q2_12 := Chg.cell (Chg.trans (by repeat (first | exact Chg.refl _ _ | apply Chg.drew | apply Chg.drewN | refine Chg.alloc ?_ _)) G1.out) q2_5 id
    clear q2_5
    clear G1
    go_wp2
    go_ret
    exact ⟨rfl, Up.below (Chg.trans U_8.out (by repeat (first | exact Chg.refl _ _ | apply Chg.drew | apply Chg.drewN | refine Chg.alloc ?_ _)))⟩
  exact walk0 w v0 a0 ha0 hbt
end fnExactRowTargets
end Go.Proofs.Ytfaloanahffdmaa
