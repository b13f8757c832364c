/- The program's RackEvents answers as the reference's, for every machine and rack; what it is given stays as it was, and its memory is its own. No condition. -/
import Derived.Test.YtchfjglofmphfaaRB12
namespace Go.Proofs.Ytchfjglofmphfaa
open Go.ChangeShapes Go.WideShapes Go.ChangeAt Go.RowKit
namespace fnExactRackEvents
set_option linter.unusedVariables false in
set_option maxRecDepth 100000 in
set_option maxHeartbeats 8000000 in
theorem walk0 (w : World) (v0 : Value) (a0 : MacM) (ha0 : MacA w (fun b => b < w.heap.size) v0 a0) (a1 : Int) (ia1 : I64 a1)  (hbt : (szMc a0 : Int) ≤ 1048576) :
    Calls Try.prog 3 #[v0, .int .i64 a1] w fun e w' => e = .returned (.bool true) ∧ Below w.heap.size w w' := by
  have U0 := Lib.hid (Chg.refl Nowhere w)
  obtain ⟨Fa0, fa0, Ba0, ba0, Ca0, ca0, La0, la0, Da0, da0, rfl, y0⟩ := openMac ha0
  have X0 := Lib.hid ha0
  clear ha0 y0
  have U_1 := Lib.hid (Chg.trans U0.out ((Chg.refl Nowhere w).alloc (.cells #[.int .i64 a0.wd, .int .i64 a0.rk, .slice Fa0 a0.fr.length fa0, .slice Ba0 a0.bk.length ba0, .slice Ca0 a0.cs.length ca0, .slice La0 a0.ls.length la0, .slice Da0 a0.dr.length da0] 27)))
  clear U0
  have X0_2 := Lib.hid (X0.out.up ((Chg.refl Nowhere w).alloc (.cells #[.int .i64 a0.wd, .int .i64 a0.rk, .slice Fa0 a0.fr.length fa0, .slice Ba0 a0.bk.length ba0, .slice Ca0 a0.cs.length ca0, .slice La0 a0.ls.length la0, .slice Da0 a0.dr.length da0] 27)))
  clear X0
  have q0_0_3 := (show (w.alloc (.cells #[.int .i64 a0.wd, .int .i64 a0.rk, .slice Fa0 a0.fr.length fa0, .slice Ba0 a0.bk.length ba0, .slice Ca0 a0.cs.length ca0, .slice La0 a0.ls.length la0, .slice Da0 a0.dr.length da0] 27)).cell? ⟨w.heap.size, 0, none⟩ = some (.int .i64 a0.wd) from cell_new _ _ _ _)
  have q0_1_4 := (show (w.alloc (.cells #[.int .i64 a0.wd, .int .i64 a0.rk, .slice Fa0 a0.fr.length fa0, .slice Ba0 a0.bk.length ba0, .slice Ca0 a0.cs.length ca0, .slice La0 a0.ls.length la0, .slice Da0 a0.dr.length da0] 27)).cell? ⟨w.heap.size, 1, none⟩ = some (.int .i64 a0.rk) from cell_new _ _ _ _)
  have q0_2_5 := (show (w.alloc (.cells #[.int .i64 a0.wd, .int .i64 a0.rk, .slice Fa0 a0.fr.length fa0, .slice Ba0 a0.bk.length ba0, .slice Ca0 a0.cs.length ca0, .slice La0 a0.ls.length la0, .slice Da0 a0.dr.length da0] 27)).cell? ⟨w.heap.size, 2, none⟩ = some (.slice Fa0 a0.fr.length fa0) from cell_new _ _ _ _)
  have q0_3_6 := (show (w.alloc (.cells #[.int .i64 a0.wd, .int .i64 a0.rk, .slice Fa0 a0.fr.length fa0, .slice Ba0 a0.bk.length ba0, .slice Ca0 a0.cs.length ca0, .slice La0 a0.ls.length la0, .slice Da0 a0.dr.length da0] 27)).cell? ⟨w.heap.size, 3, none⟩ = some (.slice Ba0 a0.bk.length ba0) from cell_new _ _ _ _)
  have q0_4_7 := (show (w.alloc (.cells #[.int .i64 a0.wd, .int .i64 a0.rk, .slice Fa0 a0.fr.length fa0, .slice Ba0 a0.bk.length ba0, .slice Ca0 a0.cs.length ca0, .slice La0 a0.ls.length la0, .slice Da0 a0.dr.length da0] 27)).cell? ⟨w.heap.size, 4, none⟩ = some (.slice Ca0 a0.cs.length ca0) from cell_new _ _ _ _)
  have q0_5_8 := (show (w.alloc (.cells #[.int .i64 a0.wd, .int .i64 a0.rk, .slice Fa0 a0.fr.length fa0, .slice Ba0 a0.bk.length ba0, .slice Ca0 a0.cs.length ca0, .slice La0 a0.ls.length la0, .slice Da0 a0.dr.length da0] 27)).cell? ⟨w.heap.size, 5, none⟩ = some (.slice La0 a0.ls.length la0) from cell_new _ _ _ _)
  have q0_6_9 := (show (w.alloc (.cells #[.int .i64 a0.wd, .int .i64 a0.rk, .slice Fa0 a0.fr.length fa0, .slice Ba0 a0.bk.length ba0, .slice Ca0 a0.cs.length ca0, .slice La0 a0.ls.length la0, .slice Da0 a0.dr.length da0] 27)).cell? ⟨w.heap.size, 6, none⟩ = some (.slice Da0 a0.dr.length da0) from cell_new _ _ _ _)
  have hbx10 : w.heap.size < (w.alloc (.cells #[.int .i64 a0.wd, .int .i64 a0.rk, .slice Fa0 a0.fr.length fa0, .slice Ba0 a0.bk.length ba0, .slice Ca0 a0.cs.length ca0, .slice La0 a0.ls.length la0, .slice Da0 a0.dr.length da0] 27)).heap.size := by simp
  have hr0 : szMc a0 ≤ 1048576 := by omega
  go_enter Try.func3, Try.ntmps3
  have hd0 : decide ((1048576 : Int) - szMc a0 < 0) = false := decide_eq_false (by omega)
  go_wp2_with fail
  refine (szMacA_ok _ _ _ a0 (1048576) (by omega) (by omega) (X0_2.out.up (by repeat (first | exact Chg.refl _ _ | apply Chg.drew | apply Chg.drewN | refine Chg.alloc ?_ _)))).mono ?_
  rintro e w11 ⟨rfl, g1⟩
  have G1 := Lib.hid g1
  obtain ⟨hy11, hz11⟩ := up_pre (show Up (w.alloc (.cells #[.int .i64 a0.wd, .int .i64 a0.rk, .slice Fa0 a0.fr.length fa0, .slice Ba0 a0.bk.length ba0, .slice Ca0 a0.cs.length ca0, .slice La0 a0.ls.length la0, .slice Da0 a0.dr.length da0] 27)) _ from (by repeat (first | exact Chg.refl _ _ | apply Chg.drew | apply Chg.drewN | refine Chg.alloc ?_ _))) G1.out
  clear g1
  have U_12 := Lib.hid (Chg.trans U_1.out (Chg.trans (by repeat (first | exact Chg.refl _ _ | apply Chg.drew | apply Chg.drewN | refine Chg.alloc ?_ _)) G1.out))
  clear U_1
  have X0_13 := Lib.hid (X0_2.out.up (Chg.trans (by repeat (first | exact Chg.refl _ _ | apply Chg.drew | apply Chg.drewN | refine Chg.alloc ?_ _)) G1.out))
  clear X0_2
  have q0_0_14 := Chg.cell (Chg.trans (by repeat (first | exact Chg.refl _ _ | apply Chg.drew | apply Chg.drewN | refine Chg.alloc ?_ _)) G1.out) q0_0_3 id
  clear q0_0_3
  have q0_1_15 := Chg.cell (Chg.trans (by repeat (first | exact Chg.refl _ _ | apply Chg.drew | apply Chg.drewN | refine Chg.alloc ?_ _)) G1.out) q0_1_4 id
  clear q0_1_4
  have q0_2_16 := Chg.cell (Chg.trans (by repeat (first | exact Chg.refl _ _ | apply Chg.drew | apply Chg.drewN | refine Chg.alloc ?_ _)) G1.out) q0_2_5 id
  clear q0_2_5
  have q0_3_17 := Chg.cell (Chg.trans (by repeat (first | exact Chg.refl _ _ | apply Chg.drew | apply Chg.drewN | refine Chg.alloc ?_ _)) G1.out) q0_3_6 id
  clear q0_3_6
  have q0_4_18 := Chg.cell (Chg.trans (by repeat (first | exact Chg.refl _ _ | apply Chg.drew | apply Chg.drewN | refine Chg.alloc ?_ _)) G1.out) q0_4_7 id
  clear q0_4_7
  have q0_5_19 := Chg.cell (Chg.trans (by repeat (first | exact Chg.refl _ _ | apply Chg.drew | apply Chg.drewN | refine Chg.alloc ?_ _)) G1.out) q0_5_8 id
  clear q0_5_8
  have q0_6_20 := Chg.cell (Chg.trans (by repeat (first | exact Chg.refl _ _ | apply Chg.drew | apply Chg.drewN | refine Chg.alloc ?_ _)) G1.out) q0_6_9 id
  clear q0_6_9
  clear G1
  go_wp2_with fail
  refine (toMacA_any _ _ _ a0 (by omega) (X0_13.out.up (by repeat (first | exact Chg.refl _ _ | apply Chg.drew | apply Chg.drewN | refine Chg.alloc ?_ _)))).mono ?_
  rintro e w21 ⟨v21, rfl, k1, g1⟩
  have K1 := Lib.hid k1
  clear k1
  have G1 := Lib.hid g1
  obtain ⟨hy21, hz21⟩ := up_pre (show Up w11 _ from (by repeat (first | exact Chg.refl _ _ | apply Chg.drew | apply Chg.drewN | refine Chg.alloc ?_ _))) G1.out
  clear g1
  have U_22 := Lib.hid (Chg.trans U_12.out (Chg.trans (by repeat (first | exact Chg.refl _ _ | apply Chg.drew | apply Chg.drewN | refine Chg.alloc ?_ _)) G1.out))
  clear U_12
  have X0_23 := Lib.hid (X0_13.out.up (Chg.trans (by repeat (first | exact Chg.refl _ _ | apply Chg.drew | apply Chg.drewN | refine Chg.alloc ?_ _)) G1.out))
  clear X0_13
  have q0_0_24 := Chg.cell (Chg.trans (by repeat (first | exact Chg.refl _ _ | apply Chg.drew | apply Chg.drewN | refine Chg.alloc ?_ _)) G1.out) q0_0_14 id
  clear q0_0_14
  have q0_1_25 := Chg.cell (Chg.trans (by repeat (first | exact Chg.refl _ _ | apply Chg.drew | apply Chg.drewN | refine Chg.alloc ?_ _)) G1.out) q0_1_15 id
  clear q0_1_15
  have q0_2_26 := Chg.cell (Chg.trans (by repeat (first | exact Chg.refl _ _ | apply Chg.drew | apply Chg.drewN | refine Chg.alloc ?_ _)) G1.out) q0_2_16 id
  clear q0_2_16
  have q0_3_27 := Chg.cell (Chg.trans (by repeat (first | exact Chg.refl _ _ | apply Chg.drew | apply Chg.drewN | refine Chg.alloc ?_ _)) G1.out) q0_3_17 id
  clear q0_3_17
  have q0_4_28 := Chg.cell (Chg.trans (by repeat (first | exact Chg.refl _ _ | apply Chg.drew | apply Chg.drewN | refine Chg.alloc ?_ _)) G1.out) q0_4_18 id
  clear q0_4_18
  have q0_5_29 := Chg.cell (Chg.trans (by repeat (first | exact Chg.refl _ _ | apply Chg.drew | apply Chg.drewN | refine Chg.alloc ?_ _)) G1.out) q0_5_19 id
  clear q0_5_19
  have q0_6_30 := Chg.cell (Chg.trans (by repeat (first | exact Chg.refl _ _ | apply Chg.drew | apply Chg.drewN | refine Chg.alloc ?_ _)) G1.out) q0_6_20 id
  clear q0_6_20
  clear G1
  have B0_31 := Lib.hid (K1.out)
  clear K1
  obtain ⟨Fas21, fas21, Bas21, bas21, Cas21, cas21, Las21, las21, Das21, das21, rfl, ys21⟩ := openMac B0_31.out
  clear ys21
  go_wp2_with fail
  refine (sRackEvents_A _ _ _ a0 (B0_31.out.up (by repeat (first | exact Chg.refl _ _ | apply Chg.drew | apply Chg.drewN | refine Chg.alloc ?_ _))) a1).mono ?_
  rintro e w32 ⟨v32, rfl, k1, g1⟩
  obtain ⟨A32, c32, rfl, hl32, hc32, -⟩ := k1.shape
  have K1 := Lib.hid k1
  clear k1
  have G1 := Lib.hid g1
  obtain ⟨hy32, hz32⟩ := up_pre (show Up w21 _ from (by repeat (first | exact Chg.refl _ _ | apply Chg.drew | apply Chg.drewN | refine Chg.alloc ?_ _))) G1.out
  clear g1
  have U_33 := Lib.hid (Chg.trans U_22.out (Chg.trans (by repeat (first | exact Chg.refl _ _ | apply Chg.drew | apply Chg.drewN | refine Chg.alloc ?_ _)) G1.out))
  clear U_22
  have X0_34 := Lib.hid (X0_23.out.up (Chg.trans (by repeat (first | exact Chg.refl _ _ | apply Chg.drew | apply Chg.drewN | refine Chg.alloc ?_ _)) G1.out))
  clear X0_23
  have q0_0_35 := Chg.cell (Chg.trans (by repeat (first | exact Chg.refl _ _ | apply Chg.drew | apply Chg.drewN | refine Chg.alloc ?_ _)) G1.out) q0_0_24 id
  clear q0_0_24
  have q0_1_36 := Chg.cell (Chg.trans (by repeat (first | exact Chg.refl _ _ | apply Chg.drew | apply Chg.drewN | refine Chg.alloc ?_ _)) G1.out) q0_1_25 id
  clear q0_1_25
  have q0_2_37 := Chg.cell (Chg.trans (by repeat (first | exact Chg.refl _ _ | apply Chg.drew | apply Chg.drewN | refine Chg.alloc ?_ _)) G1.out) q0_2_26 id
  clear q0_2_26
  have q0_3_38 := Chg.cell (Chg.trans (by repeat (first | exact Chg.refl _ _ | apply Chg.drew | apply Chg.drewN | refine Chg.alloc ?_ _)) G1.out) q0_3_27 id
  clear q0_3_27
  have q0_4_39 := Chg.cell (Chg.trans (by repeat (first | exact Chg.refl _ _ | apply Chg.drew | apply Chg.drewN | refine Chg.alloc ?_ _)) G1.out) q0_4_28 id
  clear q0_4_28
  have q0_5_40 := Chg.cell (Chg.trans (by repeat (first | exact Chg.refl _ _ | apply Chg.drew | apply Chg.drewN | refine Chg.alloc ?_ _)) G1.out) q0_5_29 id
  clear q0_5_29
  have q0_6_41 := Chg.cell (Chg.trans (by repeat (first | exact Chg.refl _ _ | apply Chg.drew | apply Chg.drewN | refine Chg.alloc ?_ _)) G1.out) q0_6_30 id
  clear q0_6_30
  have B0_42 := Lib.hid (B0_31.out.up (Chg.trans (by repeat (first | exact Chg.refl _ _ | apply Chg.drew | apply Chg.drewN | refine Chg.alloc ?_ _)) G1.out))
  clear B0_31
  clear G1
  have W0_43 := Lib.hid (K1.out)
  clear K1
  clear B0_42
  go_wp2_with fail
  refine (toMacA_any _ _ _ a0 (by omega) (X0_34.out.up (by repeat (first | exact Chg.refl _ _ | apply Chg.drew | apply Chg.drewN | refine Chg.alloc ?_ _)))).mono ?_
  rintro e w44 ⟨v44, rfl, k1, g1⟩
  have K1 := Lib.hid k1
  clear k1
  have G1 := Lib.hid g1
  obtain ⟨hy44, hz44⟩ := up_pre (show Up w32 _ from (by repeat (first | exact Chg.refl _ _ | apply Chg.drew | apply Chg.drewN | refine Chg.alloc ?_ _))) G1.out
  clear g1
  have U_45 := Lib.hid (Chg.trans U_33.out (Chg.trans (by repeat (first | exact Chg.refl _ _ | apply Chg.drew | apply Chg.drewN | refine Chg.alloc ?_ _)) G1.out))
  clear U_33
  have X0_46 := Lib.hid (X0_34.out.up (Chg.trans (by repeat (first | exact Chg.refl _ _ | apply Chg.drew | apply Chg.drewN | refine Chg.alloc ?_ _)) G1.out))
  clear X0_34
  have q0_0_47 := Chg.cell (Chg.trans (by repeat (first | exact Chg.refl _ _ | apply Chg.drew | apply Chg.drewN | refine Chg.alloc ?_ _)) G1.out) q0_0_35 id
  clear q0_0_35
  have q0_1_48 := Chg.cell (Chg.trans (by repeat (first | exact Chg.refl _ _ | apply Chg.drew | apply Chg.drewN | refine Chg.alloc ?_ _)) G1.out) q0_1_36 id
  clear q0_1_36
  have q0_2_49 := Chg.cell (Chg.trans (by repeat (first | exact Chg.refl _ _ | apply Chg.drew | apply Chg.drewN | refine Chg.alloc ?_ _)) G1.out) q0_2_37 id
  clear q0_2_37
  have q0_3_50 := Chg.cell (Chg.trans (by repeat (first | exact Chg.refl _ _ | apply Chg.drew | apply Chg.drewN | refine Chg.alloc ?_ _)) G1.out) q0_3_38 id
  clear q0_3_38
  have q0_4_51 := Chg.cell (Chg.trans (by repeat (first | exact Chg.refl _ _ | apply Chg.drew | apply Chg.drewN | refine Chg.alloc ?_ _)) G1.out) q0_4_39 id
  clear q0_4_39
  have q0_5_52 := Chg.cell (Chg.trans (by repeat (first | exact Chg.refl _ _ | apply Chg.drew | apply Chg.drewN | refine Chg.alloc ?_ _)) G1.out) q0_5_40 id
  clear q0_5_40
  have q0_6_53 := Chg.cell (Chg.trans (by repeat (first | exact Chg.refl _ _ | apply Chg.drew | apply Chg.drewN | refine Chg.alloc ?_ _)) G1.out) q0_6_41 id
  clear q0_6_41
  have W0_54 := Lib.hid (W0_43.out.up (Chg.trans (by repeat (first | exact Chg.refl _ _ | apply Chg.drew | apply Chg.drewN | refine Chg.alloc ?_ _)) G1.out))
  clear W0_43
  clear G1
  have C0_55 := Lib.hid (K1.out)
  clear K1
  obtain ⟨Fas44, fas44, Bas44, bas44, Cas44, cas44, Las44, las44, Das44, das44, rfl, ys44⟩ := openMac C0_55.out
  clear ys44
  go_wp2_with fail
  refine (pRackEvents_A _ _ _ a0 (C0_55.out.up (by repeat (first | exact Chg.refl _ _ | apply Chg.drew | apply Chg.drewN | refine Chg.alloc ?_ _))) a1).mono ?_
  rintro e w56 ⟨v56, rfl, k1, g1⟩
  obtain ⟨A56, c56, rfl, hl56, hc56, -⟩ := k1.shape
  have K1 := Lib.hid k1
  clear k1
  have G1 := Lib.hid g1
  obtain ⟨hy56, hz56⟩ := up_pre (show Up w44 _ from (by repeat (first | exact Chg.refl _ _ | apply Chg.drew | apply Chg.drewN | refine Chg.alloc ?_ _))) G1.out
  clear g1
  have U_57 := Lib.hid (Chg.trans U_45.out (Chg.trans (by repeat (first | exact Chg.refl _ _ | apply Chg.drew | apply Chg.drewN | refine Chg.alloc ?_ _)) G1.out))
  clear U_45
  have X0_58 := Lib.hid (X0_46.out.up (Chg.trans (by repeat (first | exact Chg.refl _ _ | apply Chg.drew | apply Chg.drewN | refine Chg.alloc ?_ _)) G1.out))
  clear X0_46
  have q0_0_59 := Chg.cell (Chg.trans (by repeat (first | exact Chg.refl _ _ | apply Chg.drew | apply Chg.drewN | refine Chg.alloc ?_ _)) G1.out) q0_0_47 id
  clear q0_0_47
  have q0_1_60 := Chg.cell (Chg.trans (by repeat (first | exact Chg.refl _ _ | apply Chg.drew | apply Chg.drewN | refine Chg.alloc ?_ _)) G1.out) q0_1_48 id
  clear q0_1_48
  have q0_2_61 := Chg.cell (Chg.trans (by repeat (first | exact Chg.refl _ _ | apply Chg.drew | apply Chg.drewN | refine Chg.alloc ?_ _)) G1.out) q0_2_49 id
  clear q0_2_49
  have q0_3_62 := Chg.cell (Chg.trans (by repeat (first | exact Chg.refl _ _ | apply Chg.drew | apply Chg.drewN | refine Chg.alloc ?_ _)) G1.out) q0_3_50 id
  clear q0_3_50
  have q0_4_63 := Chg.cell (Chg.trans (by repeat (first | exact Chg.refl _ _ | apply Chg.drew | apply Chg.drewN | refine Chg.alloc ?_ _)) G1.out) q0_4_51 id
  clear q0_4_51
  have q0_5_64 := Chg.cell (Chg.trans (by repeat (first | exact Chg.refl _ _ | apply Chg.drew | apply Chg.drewN | refine Chg.alloc ?_ _)) G1.out) q0_5_52 id
  clear q0_5_52
  have q0_6_65 := Chg.cell (Chg.trans (by repeat (first | exact Chg.refl _ _ | apply Chg.drew | apply Chg.drewN | refine Chg.alloc ?_ _)) G1.out) q0_6_53 id
  clear q0_6_53
  have W0_66 := Lib.hid (W0_54.out.up (Chg.trans (by repeat (first | exact Chg.refl _ _ | apply Chg.drew | apply Chg.drewN | refine Chg.alloc ?_ _)) G1.out))
  clear W0_54
  have C0_67 := Lib.hid (C0_55.out.up (Chg.trans (by repeat (first | exact Chg.refl _ _ | apply Chg.drew | apply Chg.drewN | refine Chg.alloc ?_ _)) G1.out))
  clear C0_55
  obtain ⟨x0_0_68c, x0_0_68f⟩ := (show CellF w56 ⟨w44.heap.size, 0, none⟩ (.int .i64 a0.wd) from CellF.up G1.out (by repeat (first | ((refine cellF_at ?_ rfl); (simp; done)) | refine CellF.up ((Chg.refl _ _).alloc _) ?_)))
  obtain ⟨x0_1_69c, x0_1_69f⟩ := (show CellF w56 ⟨w44.heap.size, 1, none⟩ (.int .i64 a0.rk) from CellF.up G1.out (by repeat (first | ((refine cellF_at ?_ rfl); (simp; done)) | refine CellF.up ((Chg.refl _ _).alloc _) ?_)))
  obtain ⟨x0_2_70c, x0_2_70f⟩ := (show CellF w56 ⟨w44.heap.size, 2, none⟩ (.slice Fas44 a0.fr.length fas44) from CellF.up G1.out (by repeat (first | ((refine cellF_at ?_ rfl); (simp; done)) | refine CellF.up ((Chg.refl _ _).alloc _) ?_)))
  obtain ⟨x0_3_71c, x0_3_71f⟩ := (show CellF w56 ⟨w44.heap.size, 3, none⟩ (.slice Bas44 a0.bk.length bas44) from CellF.up G1.out (by repeat (first | ((refine cellF_at ?_ rfl); (simp; done)) | refine CellF.up ((Chg.refl _ _).alloc _) ?_)))
  obtain ⟨x0_4_72c, x0_4_72f⟩ := (show CellF w56 ⟨w44.heap.size, 4, none⟩ (.slice Cas44 a0.cs.length cas44) from CellF.up G1.out (by repeat (first | ((refine cellF_at ?_ rfl); (simp; done)) | refine CellF.up ((Chg.refl _ _).alloc _) ?_)))
  obtain ⟨x0_5_73c, x0_5_73f⟩ := (show CellF w56 ⟨w44.heap.size, 5, none⟩ (.slice Las44 a0.ls.length las44) from CellF.up G1.out (by repeat (first | ((refine cellF_at ?_ rfl); (simp; done)) | refine CellF.up ((Chg.refl _ _).alloc _) ?_)))
  obtain ⟨x0_6_74c, x0_6_74f⟩ := (show CellF w56 ⟨w44.heap.size, 6, none⟩ (.slice Das44 a0.dr.length das44) from CellF.up G1.out (by repeat (first | ((refine cellF_at ?_ rfl); (simp; done)) | refine CellF.up ((Chg.refl _ _).alloc _) ?_)))
  clear G1
  have R0_75 := Lib.hid (K1.out)
  clear K1
  go_wp2_with fail
  refine (eqEvs _ _ _ _ _ (rackOut a0 a1) (R0_75.out.up (by repeat (first | exact Chg.refl _ _ | apply Chg.drew | apply Chg.drewN | refine Chg.alloc ?_ _))) (W0_66.out.up (by repeat (first | exact Chg.refl _ _ | apply Chg.drew | apply Chg.drewN | refine Chg.alloc ?_ _)))).mono ?_
  rintro e w76 ⟨rfl, g1⟩
  have G1 := Lib.hid g1
  obtain ⟨hy76, hz76⟩ := up_pre (show Up w56 _ from (by repeat (first | exact Chg.refl _ _ | apply Chg.drew | apply Chg.drewN | refine Chg.alloc ?_ _))) G1.out
  clear g1
  have U_77 := Lib.hid (Chg.trans U_57.out (Chg.trans (by repeat (first | exact Chg.refl _ _ | apply Chg.drew | apply Chg.drewN | refine Chg.alloc ?_ _)) G1.out))
  clear U_57
  have X0_78 := Lib.hid (X0_58.out.up (Chg.trans (by repeat (first | exact Chg.refl _ _ | apply Chg.drew | apply Chg.drewN | refine Chg.alloc ?_ _)) G1.out))
  clear X0_58
  have q0_0_79 := Chg.cell (Chg.trans (by repeat (first | exact Chg.refl _ _ | apply Chg.drew | apply Chg.drewN | refine Chg.alloc ?_ _)) G1.out) q0_0_59 id
  clear q0_0_59
  have q0_1_80 := Chg.cell (Chg.trans (by repeat (first | exact Chg.refl _ _ | apply Chg.drew | apply Chg.drewN | refine Chg.alloc ?_ _)) G1.out) q0_1_60 id
  clear q0_1_60
  have q0_2_81 := Chg.cell (Chg.trans (by repeat (first | exact Chg.refl _ _ | apply Chg.drew | apply Chg.drewN | refine Chg.alloc ?_ _)) G1.out) q0_2_61 id
  clear q0_2_61
  have q0_3_82 := Chg.cell (Chg.trans (by repeat (first | exact Chg.refl _ _ | apply Chg.drew | apply Chg.drewN | refine Chg.alloc ?_ _)) G1.out) q0_3_62 id
  clear q0_3_62
  have q0_4_83 := Chg.cell (Chg.trans (by repeat (first | exact Chg.refl _ _ | apply Chg.drew | apply Chg.drewN | refine Chg.alloc ?_ _)) G1.out) q0_4_63 id
  clear q0_4_63
  have q0_5_84 := Chg.cell (Chg.trans (by repeat (first | exact Chg.refl _ _ | apply Chg.drew | apply Chg.drewN | refine Chg.alloc ?_ _)) G1.out) q0_5_64 id
  clear q0_5_64
  have q0_6_85 := Chg.cell (Chg.trans (by repeat (first | exact Chg.refl _ _ | apply Chg.drew | apply Chg.drewN | refine Chg.alloc ?_ _)) G1.out) q0_6_65 id
  clear q0_6_65
  have W0_86 := Lib.hid (W0_66.out.up (Chg.trans (by repeat (first | exact Chg.refl _ _ | apply Chg.drew | apply Chg.drewN | refine Chg.alloc ?_ _)) G1.out))
  clear W0_66
  have C0_87 := Lib.hid (C0_67.out.up (Chg.trans (by repeat (first | exact Chg.refl _ _ | apply Chg.drew | apply Chg.drewN | refine Chg.alloc ?_ _)) G1.out))
  clear C0_67
  obtain ⟨x0_0_88c, x0_0_88f⟩ := CellF.up (Chg.trans (by repeat (first | exact Chg.refl _ _ | apply Chg.drew | apply Chg.drewN | refine Chg.alloc ?_ _)) G1.out) ⟨x0_0_68c, x0_0_68f⟩
  clear x0_0_68c x0_0_68f
  obtain ⟨x0_1_89c, x0_1_89f⟩ := CellF.up (Chg.trans (by repeat (first | exact Chg.refl _ _ | apply Chg.drew | apply Chg.drewN | refine Chg.alloc ?_ _)) G1.out) ⟨x0_1_69c, x0_1_69f⟩
  clear x0_1_69c x0_1_69f
  obtain ⟨x0_2_90c, x0_2_90f⟩ := CellF.up (Chg.trans (by repeat (first | exact Chg.refl _ _ | apply Chg.drew | apply Chg.drewN | refine Chg.alloc ?_ _)) G1.out) ⟨x0_2_70c, x0_2_70f⟩
  clear x0_2_70c x0_2_70f
  obtain ⟨x0_3_91c, x0_3_91f⟩ := CellF.up (Chg.trans (by repeat (first | exact Chg.refl _ _ | apply Chg.drew | apply Chg.drewN | refine Chg.alloc ?_ _)) G1.out) ⟨x0_3_71c, x0_3_71f⟩
  clear x0_3_71c x0_3_71f
  obtain ⟨x0_4_92c, x0_4_92f⟩ := CellF.up (Chg.trans (by repeat (first | exact Chg.refl _ _ | apply Chg.drew | apply Chg.drewN | refine Chg.alloc ?_ _)) G1.out) ⟨x0_4_72c, x0_4_72f⟩
  clear x0_4_72c x0_4_72f
  obtain ⟨x0_5_93c, x0_5_93f⟩ := CellF.up (Chg.trans (by repeat (first | exact Chg.refl _ _ | apply Chg.drew | apply Chg.drewN | refine Chg.alloc ?_ _)) G1.out) ⟨x0_5_73c, x0_5_73f⟩
  clear x0_5_73c x0_5_73f
  obtain ⟨x0_6_94c, x0_6_94f⟩ := CellF.up (Chg.trans (by repeat (first | exact Chg.refl _ _ | apply Chg.drew | apply Chg.drewN | refine Chg.alloc ?_ _)) G1.out) ⟨x0_6_74c, x0_6_74f⟩
  clear x0_6_74c x0_6_74f
  have R0_95 := Lib.hid (R0_75.out.up (Chg.trans (by repeat (first | exact Chg.refl _ _ | apply Chg.drew | apply Chg.drewN | refine Chg.alloc ?_ _)) G1.out))
  clear R0_75
  clear G1
  go_wp2
  go_region_held3 (fun w' => w'.cell? ⟨w.heap.size, 0, none⟩ = some (.int .i64 a0.wd) ∧ w'.cell? ⟨w.heap.size, 1, none⟩ = some (.int .i64 a0.rk) ∧ w'.cell? ⟨w.heap.size, 2, none⟩ = some (.slice Fa0 a0.fr.length fa0) ∧ w'.cell? ⟨w.heap.size, 3, none⟩ = some (.slice Ba0 a0.bk.length ba0) ∧ w'.cell? ⟨w.heap.size, 4, none⟩ = some (.slice Ca0 a0.cs.length ca0) ∧ w'.cell? ⟨w.heap.size, 5, none⟩ = some (.slice La0 a0.ls.length la0) ∧ w'.cell? ⟨w.heap.size, 6, none⟩ = some (.slice Da0 a0.dr.length da0) ∧ w'.cell? ⟨w44.heap.size, 0, none⟩ = some (.int .i64 a0.wd) ∧ w'.cell? ⟨w44.heap.size, 1, none⟩ = some (.int .i64 a0.rk) ∧ w'.cell? ⟨w44.heap.size, 2, none⟩ = some (.slice Fas44 a0.fr.length fas44) ∧ w'.cell? ⟨w44.heap.size, 3, none⟩ = some (.slice Bas44 a0.bk.length bas44) ∧ w'.cell? ⟨w44.heap.size, 4, none⟩ = some (.slice Cas44 a0.cs.length cas44) ∧ w'.cell? ⟨w44.heap.size, 5, none⟩ = some (.slice Las44 a0.ls.length las44) ∧ w'.cell? ⟨w44.heap.size, 6, none⟩ = some (.slice Das44 a0.dr.length das44))
      (first | (exact ⟨q0_0_79, q0_1_80, q0_2_81, q0_3_82, q0_4_83, q0_5_84, q0_6_85, x0_0_88c, x0_1_89c, x0_2_90c, x0_3_91c, x0_4_92c, x0_5_93c, x0_6_94c⟩) | (obtain ⟨p0, p1, p2, p3, p4, p5, p6, p7, p8, p9, p10, p11, p12, p13⟩ : (World.cell? _ _ = _ ∧ World.cell? _ _ = _ ∧ World.cell? _ _ = _ ∧ World.cell? _ _ = _ ∧ World.cell? _ _ = _ ∧ World.cell? _ _ = _ ∧ World.cell? _ _ = _ ∧ World.cell? _ _ = _ ∧ World.cell? _ _ = _ ∧ World.cell? _ _ = _ ∧ World.cell? _ _ = _ ∧ World.cell? _ _ = _ ∧ World.cell? _ _ = _ ∧ World.cell? _ _ = _) := (by assumption); exact ⟨Chg.cell g1 p0 id, Chg.cell g1 p1 id, Chg.cell g1 p2 id, Chg.cell g1 p3 id, Chg.cell g1 p4 id, Chg.cell g1 p5 id, Chg.cell g1 p6 id, Chg.cell g1 p7 id, Chg.cell g1 p8 id, Chg.cell g1 p9 id, Chg.cell g1 p10 id, Chg.cell g1 p11 id, Chg.cell g1 p12 id, Chg.cell g1 p13 id⟩))
      (first | (go_at_call 9; refine (toMacA_any _ _ _ a0 (by omega) (X0_78.out.up (by repeat (first | exact Chg.refl _ _ | apply Chg.drew | apply Chg.drewN | refine Chg.alloc ?_ _)))).mono ?_; rintro e w96 ⟨v96, rfl, k1, g1⟩; obtain ⟨Fas96, fas96, Bas96, bas96, Cas96, cas96, Las96, las96, Das96, das96, rfl, ys96⟩ := openMac k1; have K1 := Lib.hid k1; clear k1 ys96; have G1 := Lib.hid g1; obtain ⟨hy96, hz96⟩ := up_pre (show Up w76 _ from (by repeat (first | exact Chg.refl _ _ | apply Chg.drew | apply Chg.drewN | refine Chg.alloc ?_ _))) G1.out; have U_98 := Lib.hid (Chg.trans U_77.out (Chg.trans (by repeat (first | exact Chg.refl _ _ | apply Chg.drew | apply Chg.drewN | refine Chg.alloc ?_ _)) G1.out)); have X0_99 := Lib.hid (X0_78.out.up (Chg.trans (by repeat (first | exact Chg.refl _ _ | apply Chg.drew | apply Chg.drewN | refine Chg.alloc ?_ _)) G1.out)); have W0_100 := Lib.hid (W0_86.out.up (Chg.trans (by repeat (first | exact Chg.refl _ _ | apply Chg.drew | apply Chg.drewN | refine Chg.alloc ?_ _)) G1.out)); have C0_101 := Lib.hid (C0_87.out.up (Chg.trans (by repeat (first | exact Chg.refl _ _ | apply Chg.drew | apply Chg.drewN | refine Chg.alloc ?_ _)) G1.out)); have R0_102 := Lib.hid (R0_95.out.up (Chg.trans (by repeat (first | exact Chg.refl _ _ | apply Chg.drew | apply Chg.drewN | refine Chg.alloc ?_ _)) G1.out))) | (go_at_call 12; refine (eqMacA_same _ _ _ _ _ a0 (C0_101.out.up (by repeat (first | exact Chg.refl _ _ | apply Chg.drew | apply Chg.drewN | refine Chg.alloc ?_ _))) (K1.out.up (by repeat (first | exact Chg.refl _ _ | apply Chg.drew | apply Chg.drewN | refine Chg.alloc ?_ _)))).mono ?_; rintro e w97 ⟨rfl, g1⟩; have G2 := Lib.hid g1; obtain ⟨hy97, hz97⟩ := up_pre (show Up w96 _ from (by repeat (first | exact Chg.refl _ _ | apply Chg.drew | apply Chg.drewN | refine Chg.alloc ?_ _))) G2.out; have U_103 := Lib.hid (Chg.trans U_98.out (Chg.trans (by repeat (first | exact Chg.refl _ _ | apply Chg.drew | apply Chg.drewN | refine Chg.alloc ?_ _)) G2.out)); have X0_104 := Lib.hid (X0_99.out.up (Chg.trans (by repeat (first | exact Chg.refl _ _ | apply Chg.drew | apply Chg.drewN | refine Chg.alloc ?_ _)) G2.out)); have W0_105 := Lib.hid (W0_100.out.up (Chg.trans (by repeat (first | exact Chg.refl _ _ | apply Chg.drew | apply Chg.drewN | refine Chg.alloc ?_ _)) G2.out)); have C0_106 := Lib.hid (C0_101.out.up (Chg.trans (by repeat (first | exact Chg.refl _ _ | apply Chg.drew | apply Chg.drewN | refine Chg.alloc ?_ _)) G2.out)); have R0_107 := Lib.hid (R0_102.out.up (Chg.trans (by repeat (first | exact Chg.refl _ _ | apply Chg.drew | apply Chg.drewN | refine Chg.alloc ?_ _)) G2.out))))
  have q0_0_108 := Chg.cell (Chg.trans (Chg.trans (by repeat (first | exact Chg.refl _ _ | apply Chg.drew | apply Chg.drewN | refine Chg.alloc ?_ _)) G1.out) (Chg.trans (by repeat (first | exact Chg.refl _ _ | apply Chg.drew | apply Chg.drewN | refine Chg.alloc ?_ _)) G2.out)) q0_0_79 id
  have q0_1_109 := Chg.cell (Chg.trans (Chg.trans (by repeat (first | exact Chg.refl _ _ | apply Chg.drew | apply Chg.drewN | refine Chg.alloc ?_ _)) G1.out) (Chg.trans (by repeat (first | exact Chg.refl _ _ | apply Chg.drew | apply Chg.drewN | refine Chg.alloc ?_ _)) G2.out)) q0_1_80 id
  have q0_2_110 := Chg.cell (Chg.trans (Chg.trans (by repeat (first | exact Chg.refl _ _ | apply Chg.drew | apply Chg.drewN | refine Chg.alloc ?_ _)) G1.out) (Chg.trans (by repeat (first | exact Chg.refl _ _ | apply Chg.drew | apply Chg.drewN | refine Chg.alloc ?_ _)) G2.out)) q0_2_81 id
  have q0_3_111 := Chg.cell (Chg.trans (Chg.trans (by repeat (first | exact Chg.refl _ _ | apply Chg.drew | apply Chg.drewN | refine Chg.alloc ?_ _)) G1.out) (Chg.trans (by repeat (first | exact Chg.refl _ _ | apply Chg.drew | apply Chg.drewN | refine Chg.alloc ?_ _)) G2.out)) q0_3_82 id
  have q0_4_112 := Chg.cell (Chg.trans (Chg.trans (by repeat (first | exact Chg.refl _ _ | apply Chg.drew | apply Chg.drewN | refine Chg.alloc ?_ _)) G1.out) (Chg.trans (by repeat (first | exact Chg.refl _ _ | apply Chg.drew | apply Chg.drewN | refine Chg.alloc ?_ _)) G2.out)) q0_4_83 id
  have q0_5_113 := Chg.cell (Chg.trans (Chg.trans (by repeat (first | exact Chg.refl _ _ | apply Chg.drew | apply Chg.drewN | refine Chg.alloc ?_ _)) G1.out) (Chg.trans (by repeat (first | exact Chg.refl _ _ | apply Chg.drew | apply Chg.drewN | refine Chg.alloc ?_ _)) G2.out)) q0_5_84 id
  have q0_6_114 := Chg.cell (Chg.trans (Chg.trans (by repeat (first | exact Chg.refl _ _ | apply Chg.drew | apply Chg.drewN | refine Chg.alloc ?_ _)) G1.out) (Chg.trans (by repeat (first | exact Chg.refl _ _ | apply Chg.drew | apply Chg.drewN | refine Chg.alloc ?_ _)) G2.out)) q0_6_85 id
  obtain ⟨x0_0_115c, x0_0_115f⟩ := CellF.up (Chg.trans (Chg.trans (by repeat (first | exact Chg.refl _ _ | apply Chg.drew | apply Chg.drewN | refine Chg.alloc ?_ _)) G1.out) (Chg.trans (by repeat (first | exact Chg.refl _ _ | apply Chg.drew | apply Chg.drewN | refine Chg.alloc ?_ _)) G2.out)) ⟨x0_0_88c, x0_0_88f⟩
  obtain ⟨x0_1_116c, x0_1_116f⟩ := CellF.up (Chg.trans (Chg.trans (by repeat (first | exact Chg.refl _ _ | apply Chg.drew | apply Chg.drewN | refine Chg.alloc ?_ _)) G1.out) (Chg.trans (by repeat (first | exact Chg.refl _ _ | apply Chg.drew | apply Chg.drewN | refine Chg.alloc ?_ _)) G2.out)) ⟨x0_1_89c, x0_1_89f⟩
  obtain ⟨x0_2_117c, x0_2_117f⟩ := CellF.up (Chg.trans (Chg.trans (by repeat (first | exact Chg.refl _ _ | apply Chg.drew | apply Chg.drewN | refine Chg.alloc ?_ _)) G1.out) (Chg.trans (by repeat (first | exact Chg.refl _ _ | apply Chg.drew | apply Chg.drewN | refine Chg.alloc ?_ _)) G2.out)) ⟨x0_2_90c, x0_2_90f⟩
  obtain ⟨x0_3_118c, x0_3_118f⟩ := CellF.up (Chg.trans (Chg.trans (by repeat (first | exact Chg.refl _ _ | apply Chg.drew | apply Chg.drewN | refine Chg.alloc ?_ _)) G1.out) (Chg.trans (by repeat (first | exact Chg.refl _ _ | apply Chg.drew | apply Chg.drewN | refine Chg.alloc ?_ _)) G2.out)) ⟨x0_3_91c, x0_3_91f⟩
  obtain ⟨x0_4_119c, x0_4_119f⟩ := CellF.up (Chg.trans (Chg.trans (by repeat (first | exact Chg.refl _ _ | apply Chg.drew | apply Chg.drewN | refine Chg.alloc ?_ _)) G1.out) (Chg.trans (by repeat (first | exact Chg.refl _ _ | apply Chg.drew | apply Chg.drewN | refine Chg.alloc ?_ _)) G2.out)) ⟨x0_4_92c, x0_4_92f⟩
  obtain ⟨x0_5_120c, x0_5_120f⟩ := CellF.up (Chg.trans (Chg.trans (by repeat (first | exact Chg.refl _ _ | apply Chg.drew | apply Chg.drewN | refine Chg.alloc ?_ _)) G1.out) (Chg.trans (by repeat (first | exact Chg.refl _ _ | apply Chg.drew | apply Chg.drewN | refine Chg.alloc ?_ _)) G2.out)) ⟨x0_5_93c, x0_5_93f⟩
  obtain ⟨x0_6_121c, x0_6_121f⟩ := CellF.up (Chg.trans (Chg.trans (by repeat (first | exact Chg.refl _ _ | apply Chg.drew | apply Chg.drewN | refine Chg.alloc ?_ _)) G1.out) (Chg.trans (by repeat (first | exact Chg.refl _ _ | apply Chg.drew | apply Chg.drewN | refine Chg.alloc ?_ _)) G2.out)) ⟨x0_6_94c, x0_6_94f⟩
  clear g1 G1 G2 K1
  clear U_77
  clear X0_78
  clear q0_0_79
  clear q0_1_80
  clear q0_2_81
  clear q0_3_82
  clear q0_4_83
  clear q0_5_84
  clear q0_6_85
  clear W0_86
  clear C0_87
  clear x0_0_88c x0_0_88f
  clear x0_1_89c x0_1_89f
  clear x0_2_90c x0_2_90f
  clear x0_3_91c x0_3_91f
  clear x0_4_92c x0_4_92f
  clear x0_5_93c x0_5_93f
  clear x0_6_94c x0_6_94f
  clear R0_95
  clear U_98
  clear X0_99
  clear W0_100
  clear C0_101
  clear R0_102
  have hp0 : (0 : Int) ≤ (1 : Int) := by omega
  have hr0' : cMac a0 ≤ 8388608 := by have := cMac_le a0; omega
  have hq0 : (1 : Int) + cMac a0 ≤ 4611686018427387904 := by omega
  go_wp2_with fail
  refine (markMacA_any _ _ _ a0 ((1 : Int)) hp0 hq0 (C0_106.out.up (by repeat (first | exact Chg.refl _ _ | apply Chg.drew | apply Chg.drewN | refine Chg.alloc ?_ _)))).mono ?_
  rintro e w122 ⟨rfl, g1⟩
  have G1 := Lib.hid g1
  obtain ⟨hy122, hz122⟩ := up_pre (show Up w97 _ from (by repeat (first | exact Chg.refl _ _ | apply Chg.drew | apply Chg.drewN | refine Chg.alloc ?_ _))) G1.out
  clear g1
  clear C0_106
  clear x0_0_115c x0_0_115f
  clear x0_1_116c x0_1_116f
  clear x0_2_117c x0_2_117f
  clear x0_3_118c x0_3_118f
  clear x0_4_119c x0_4_119f
  clear x0_5_120c x0_5_120f
  clear x0_6_121c x0_6_121f
  have U_123 := Lib.hid (Chg.new (Chg.trans U_103.out (by repeat (first | exact Chg.refl _ _ | apply Chg.drew | apply Chg.drewN | refine Chg.alloc ?_ _))) G1.out (fun i hi h2 => by simp only [New] at h2; first | omega | (simp at h2; omega)))
  clear U_103
  have X0_124 := Lib.hid ((X0_104.out.up (by repeat (first | exact Chg.refl _ _ | apply Chg.drew | apply Chg.drewN | refine Chg.alloc ?_ _))).keep G1.out (fun b hb h1 h2 => by simp only [New] at h1 h2; first | omega | (simp at h1 h2; omega)))
  clear X0_104
  have W0_125 := Lib.hid ((W0_105.out.up (by repeat (first | exact Chg.refl _ _ | apply Chg.drew | apply Chg.drewN | refine Chg.alloc ?_ _))).keep G1.out (fun b hb h1 h2 => by simp only [New] at h1 h2; first | omega | (simp at h1 h2; omega)))
  clear W0_105
  have R0_126 := Lib.hid ((R0_107.out.up (by repeat (first | exact Chg.refl _ _ | apply Chg.drew | apply Chg.drewN | refine Chg.alloc ?_ _))).keep G1.out (fun b hb h1 h2 => by simp only [New] at h1 h2; first | omega | (simp at h1 h2; omega)))
  clear R0_107
  have q0_0_127 := Chg.cell G1.out (Chg.cell (S := Nowhere) (by repeat (first | exact Chg.refl _ _ | apply Chg.drew | apply Chg.drewN | refine Chg.alloc ?_ _)) q0_0_108 id) (fun h2 => by simp only [New] at h2; first | omega | (simp at h2; omega))
  clear q0_0_108
  have q0_1_128 := Chg.cell G1.out (Chg.cell (S := Nowhere) (by repeat (first | exact Chg.refl _ _ | apply Chg.drew | apply Chg.drewN | refine Chg.alloc ?_ _)) q0_1_109 id) (fun h2 => by simp only [New] at h2; first | omega | (simp at h2; omega))
  clear q0_1_109
  have q0_2_129 := Chg.cell G1.out (Chg.cell (S := Nowhere) (by repeat (first | exact Chg.refl _ _ | apply Chg.drew | apply Chg.drewN | refine Chg.alloc ?_ _)) q0_2_110 id) (fun h2 => by simp only [New] at h2; first | omega | (simp at h2; omega))
  clear q0_2_110
  have q0_3_130 := Chg.cell G1.out (Chg.cell (S := Nowhere) (by repeat (first | exact Chg.refl _ _ | apply Chg.drew | apply Chg.drewN | refine Chg.alloc ?_ _)) q0_3_111 id) (fun h2 => by simp only [New] at h2; first | omega | (simp at h2; omega))
  clear q0_3_111
  have q0_4_131 := Chg.cell G1.out (Chg.cell (S := Nowhere) (by repeat (first | exact Chg.refl _ _ | apply Chg.drew | apply Chg.drewN | refine Chg.alloc ?_ _)) q0_4_112 id) (fun h2 => by simp only [New] at h2; first | omega | (simp at h2; omega))
  clear q0_4_112
  have q0_5_132 := Chg.cell G1.out (Chg.cell (S := Nowhere) (by repeat (first | exact Chg.refl _ _ | apply Chg.drew | apply Chg.drewN | refine Chg.alloc ?_ _)) q0_5_113 id) (fun h2 => by simp only [New] at h2; first | omega | (simp at h2; omega))
  clear q0_5_113
  have q0_6_133 := Chg.cell G1.out (Chg.cell (S := Nowhere) (by repeat (first | exact Chg.refl _ _ | apply Chg.drew | apply Chg.drewN | refine Chg.alloc ?_ _)) q0_6_114 id) (fun h2 => by simp only [New] at h2; first | omega | (simp at h2; omega))
  clear q0_6_114
  clear G1
  have hneg : decide (((1 : Int) + cMac a0 : Int) < 0) = false := decide_eq_false (by omega)
  go_wp2_with fail
  refine (eqEvs _ _ _ _ _ (rackOut a0 a1) (R0_126.out.up (by repeat (first | exact Chg.refl _ _ | apply Chg.drew | apply Chg.drewN | refine Chg.alloc ?_ _))) (W0_125.out.up (by repeat (first | exact Chg.refl _ _ | apply Chg.drew | apply Chg.drewN | refine Chg.alloc ?_ _)))).mono ?_
  rintro e w134 ⟨rfl, g1⟩
  have G1 := Lib.hid g1
  obtain ⟨hy134, hz134⟩ := up_pre (show Up w122 _ from (by repeat (first | exact Chg.refl _ _ | apply Chg.drew | apply Chg.drewN | refine Chg.alloc ?_ _))) G1.out
  clear g1
  have U_135 := Lib.hid (Chg.trans U_123.out (Chg.trans (by repeat (first | exact Chg.refl _ _ | apply Chg.drew | apply Chg.drewN | refine Chg.alloc ?_ _)) G1.out))
  clear U_123
  have X0_136 := Lib.hid (X0_124.out.up (Chg.trans (by repeat (first | exact Chg.refl _ _ | apply Chg.drew | apply Chg.drewN | refine Chg.alloc ?_ _)) G1.out))
  clear X0_124
  have W0_137 := Lib.hid (W0_125.out.up (Chg.trans (by repeat (first | exact Chg.refl _ _ | apply Chg.drew | apply Chg.drewN | refine Chg.alloc ?_ _)) G1.out))
  clear W0_125
  have R0_138 := Lib.hid (R0_126.out.up (Chg.trans (by repeat (first | exact Chg.refl _ _ | apply Chg.drew | apply Chg.drewN | refine Chg.alloc ?_ _)) G1.out))
  clear R0_126
  have q0_0_139 := Chg.cell (Chg.trans (by repeat (first | exact Chg.refl _ _ | apply Chg.drew | apply Chg.drewN | refine Chg.alloc ?_ _)) G1.out) q0_0_127 id
  clear q0_0_127
  have q0_1_140 := Chg.cell (Chg.trans (by repeat (first | exact Chg.refl _ _ | apply Chg.drew | apply Chg.drewN | refine Chg.alloc ?_ _)) G1.out) q0_1_128 id
  clear q0_1_128
  have q0_2_141 := Chg.cell (Chg.trans (by repeat (first | exact Chg.refl _ _ | apply Chg.drew | apply Chg.drewN | refine Chg.alloc ?_ _)) G1.out) q0_2_129 id
  clear q0_2_129
  have q0_3_142 := Chg.cell (Chg.trans (by repeat (first | exact Chg.refl _ _ | apply Chg.drew | apply Chg.drewN | refine Chg.alloc ?_ _)) G1.out) q0_3_130 id
  clear q0_3_130
  have q0_4_143 := Chg.cell (Chg.trans (by repeat (first | exact Chg.refl _ _ | apply Chg.drew | apply Chg.drewN | refine Chg.alloc ?_ _)) G1.out) q0_4_131 id
  clear q0_4_131
  have q0_5_144 := Chg.cell (Chg.trans (by repeat (first | exact Chg.refl _ _ | apply Chg.drew | apply Chg.drewN | refine Chg.alloc ?_ _)) G1.out) q0_5_132 id
  clear q0_5_132
  have q0_6_145 := Chg.cell (Chg.trans (by repeat (first | exact Chg.refl _ _ | apply Chg.drew | apply Chg.drewN | refine Chg.alloc ?_ _)) G1.out) q0_6_133 id
  clear q0_6_133
  clear G1
  clear hneg
  have HR := Lib.hid (show cntEvs (rackOut a0 a1) ≤ 9000000 by have := rackOut_len a0 a1; unfold cntEvs; omega)
  have hr1_0 : (0 : Int) ≤ 1 := by omega
  have hr2_0 : (1 : Int) + cntEvs (rackOut a0 a1) ≤ 4611686018427387904 := by have := HR.out; omega
  go_wp2_with fail
  refine (markEvs _ _ _ (rackOut a0 a1) (1) hr1_0 hr2_0 (R0_138.out.up (by repeat (first | exact Chg.refl _ _ | apply Chg.drew | apply Chg.drewN | refine Chg.alloc ?_ _)))).mono ?_
  rintro e w146 ⟨rfl, g1, k1⟩
  have G1 := Lib.hid g1
  obtain ⟨hy146, hz146⟩ := up_pre (show Up w134 _ from (by repeat (first | exact Chg.refl _ _ | apply Chg.drew | apply Chg.drewN | refine Chg.alloc ?_ _))) G1.out
  have K1 := Lib.hid k1
  clear g1 k1
  clear R0_138
  have U_147 := Lib.hid (Chg.new (Chg.trans U_135.out (by repeat (first | exact Chg.refl _ _ | apply Chg.drew | apply Chg.drewN | refine Chg.alloc ?_ _))) G1.out (fun i hi h2 => by simp only [New] at h2; first | omega | (simp at h2; omega)))
  clear U_135
  have X0_148 := Lib.hid ((X0_136.out.up (by repeat (first | exact Chg.refl _ _ | apply Chg.drew | apply Chg.drewN | refine Chg.alloc ?_ _))).keep G1.out (fun b hb h1 h2 => by simp only [New] at h1 h2; first | omega | (simp at h1 h2; omega)))
  clear X0_136
  have W0_149 := Lib.hid ((W0_137.out.up (by repeat (first | exact Chg.refl _ _ | apply Chg.drew | apply Chg.drewN | refine Chg.alloc ?_ _))).keep G1.out (fun b hb h1 h2 => by simp only [New] at h1 h2; first | omega | (simp at h1 h2; omega)))
  clear W0_137
  have q0_0_150 := Chg.cell G1.out (Chg.cell (S := Nowhere) (by repeat (first | exact Chg.refl _ _ | apply Chg.drew | apply Chg.drewN | refine Chg.alloc ?_ _)) q0_0_139 id) (fun h2 => by simp only [New] at h2; first | omega | (simp at h2; omega))
  clear q0_0_139
  have q0_1_151 := Chg.cell G1.out (Chg.cell (S := Nowhere) (by repeat (first | exact Chg.refl _ _ | apply Chg.drew | apply Chg.drewN | refine Chg.alloc ?_ _)) q0_1_140 id) (fun h2 => by simp only [New] at h2; first | omega | (simp at h2; omega))
  clear q0_1_140
  have q0_2_152 := Chg.cell G1.out (Chg.cell (S := Nowhere) (by repeat (first | exact Chg.refl _ _ | apply Chg.drew | apply Chg.drewN | refine Chg.alloc ?_ _)) q0_2_141 id) (fun h2 => by simp only [New] at h2; first | omega | (simp at h2; omega))
  clear q0_2_141
  have q0_3_153 := Chg.cell G1.out (Chg.cell (S := Nowhere) (by repeat (first | exact Chg.refl _ _ | apply Chg.drew | apply Chg.drewN | refine Chg.alloc ?_ _)) q0_3_142 id) (fun h2 => by simp only [New] at h2; first | omega | (simp at h2; omega))
  clear q0_3_142
  have q0_4_154 := Chg.cell G1.out (Chg.cell (S := Nowhere) (by repeat (first | exact Chg.refl _ _ | apply Chg.drew | apply Chg.drewN | refine Chg.alloc ?_ _)) q0_4_143 id) (fun h2 => by simp only [New] at h2; first | omega | (simp at h2; omega))
  clear q0_4_143
  have q0_5_155 := Chg.cell G1.out (Chg.cell (S := Nowhere) (by repeat (first | exact Chg.refl _ _ | apply Chg.drew | apply Chg.drewN | refine Chg.alloc ?_ _)) q0_5_144 id) (fun h2 => by simp only [New] at h2; first | omega | (simp at h2; omega))
  clear q0_5_144
  have q0_6_156 := Chg.cell G1.out (Chg.cell (S := Nowhere) (by repeat (first | exact Chg.refl _ _ | apply Chg.drew | apply Chg.drewN | refine Chg.alloc ?_ _)) q0_6_145 id) (fun h2 => by simp only [New] at h2; first | omega | (simp at h2; omega))
  clear q0_6_145
  clear G1
  have M0_157 := Lib.hid (K1.out)
  clear K1
  have hneg0 : decide ((1 : Int) + cntEvs (rackOut a0 a1) < 0) = false := decide_eq_false (by omega)
  go_wp2_with fail
  refine (heldEvs _ _ _ (rackOut a0 a1) (1) hr1_0 hr2_0 (M0_157.out.up (by repeat (first | exact Chg.refl _ _ | apply Chg.drew | apply Chg.drewN | refine Chg.alloc ?_ _)))).mono ?_
  rintro e w158 ⟨rfl, g1⟩
  have G1 := Lib.hid g1
  obtain ⟨hy158, hz158⟩ := up_pre (show Up w146 _ from (by repeat (first | exact Chg.refl _ _ | apply Chg.drew | apply Chg.drewN | refine Chg.alloc ?_ _))) G1.out
  clear g1
  have U_159 := Lib.hid (Chg.trans U_147.out (Chg.trans (by repeat (first | exact Chg.refl _ _ | apply Chg.drew | apply Chg.drewN | refine Chg.alloc ?_ _)) G1.out))
  clear U_147
  have X0_160 := Lib.hid (X0_148.out.up (Chg.trans (by repeat (first | exact Chg.refl _ _ | apply Chg.drew | apply Chg.drewN | refine Chg.alloc ?_ _)) G1.out))
  clear X0_148
  have W0_161 := Lib.hid (W0_149.out.up (Chg.trans (by repeat (first | exact Chg.refl _ _ | apply Chg.drew | apply Chg.drewN | refine Chg.alloc ?_ _)) G1.out))
  clear W0_149
  have q0_0_162 := Chg.cell (Chg.trans (by repeat (first | exact Chg.refl _ _ | apply Chg.drew | apply Chg.drewN | refine Chg.alloc ?_ _)) G1.out) q0_0_150 id
  clear q0_0_150
  have q0_1_163 := Chg.cell (Chg.trans (by repeat (first | exact Chg.refl _ _ | apply Chg.drew | apply Chg.drewN | refine Chg.alloc ?_ _)) G1.out) q0_1_151 id
  clear q0_1_151
  have q0_2_164 := Chg.cell (Chg.trans (by repeat (first | exact Chg.refl _ _ | apply Chg.drew | apply Chg.drewN | refine Chg.alloc ?_ _)) G1.out) q0_2_152 id
  clear q0_2_152
  have q0_3_165 := Chg.cell (Chg.trans (by repeat (first | exact Chg.refl _ _ | apply Chg.drew | apply Chg.drewN | refine Chg.alloc ?_ _)) G1.out) q0_3_153 id
  clear q0_3_153
  have q0_4_166 := Chg.cell (Chg.trans (by repeat (first | exact Chg.refl _ _ | apply Chg.drew | apply Chg.drewN | refine Chg.alloc ?_ _)) G1.out) q0_4_154 id
  clear q0_4_154
  have q0_5_167 := Chg.cell (Chg.trans (by repeat (first | exact Chg.refl _ _ | apply Chg.drew | apply Chg.drewN | refine Chg.alloc ?_ _)) G1.out) q0_5_155 id
  clear q0_5_155
  have q0_6_168 := Chg.cell (Chg.trans (by repeat (first | exact Chg.refl _ _ | apply Chg.drew | apply Chg.drewN | refine Chg.alloc ?_ _)) G1.out) q0_6_156 id
  clear q0_6_156
  have M0_169 := Lib.hid (M0_157.out.up (Chg.trans (by repeat (first | exact Chg.refl _ _ | apply Chg.drew | apply Chg.drewN | refine Chg.alloc ?_ _)) G1.out))
  clear M0_157
  clear G1
  go_wp2_with fail
  refine (toMacA_any _ _ _ a0 (by omega) (X0_160.out.up (by repeat (first | exact Chg.refl _ _ | apply Chg.drew | apply Chg.drewN | refine Chg.alloc ?_ _)))).mono ?_
  rintro e w170 ⟨v170, rfl, k1, g1⟩
  have K1 := Lib.hid k1
  clear k1
  have G1 := Lib.hid g1
  obtain ⟨hy170, hz170⟩ := up_pre (show Up w158 _ from (by repeat (first | exact Chg.refl _ _ | apply Chg.drew | apply Chg.drewN | refine Chg.alloc ?_ _))) G1.out
  clear g1
  have U_171 := Lib.hid (Chg.trans U_159.out (Chg.trans (by repeat (first | exact Chg.refl _ _ | apply Chg.drew | apply Chg.drewN | refine Chg.alloc ?_ _)) G1.out))
  clear U_159
  have X0_172 := Lib.hid (X0_160.out.up (Chg.trans (by repeat (first | exact Chg.refl _ _ | apply Chg.drew | apply Chg.drewN | refine Chg.alloc ?_ _)) G1.out))
  clear X0_160
  have W0_173 := Lib.hid (W0_161.out.up (Chg.trans (by repeat (first | exact Chg.refl _ _ | apply Chg.drew | apply Chg.drewN | refine Chg.alloc ?_ _)) G1.out))
  clear W0_161
  have q0_0_174 := Chg.cell (Chg.trans (by repeat (first | exact Chg.refl _ _ | apply Chg.drew | apply Chg.drewN | refine Chg.alloc ?_ _)) G1.out) q0_0_162 id
  clear q0_0_162
  have q0_1_175 := Chg.cell (Chg.trans (by repeat (first | exact Chg.refl _ _ | apply Chg.drew | apply Chg.drewN | refine Chg.alloc ?_ _)) G1.out) q0_1_163 id
  clear q0_1_163
  have q0_2_176 := Chg.cell (Chg.trans (by repeat (first | exact Chg.refl _ _ | apply Chg.drew | apply Chg.drewN | refine Chg.alloc ?_ _)) G1.out) q0_2_164 id
  clear q0_2_164
  have q0_3_177 := Chg.cell (Chg.trans (by repeat (first | exact Chg.refl _ _ | apply Chg.drew | apply Chg.drewN | refine Chg.alloc ?_ _)) G1.out) q0_3_165 id
  clear q0_3_165
  have q0_4_178 := Chg.cell (Chg.trans (by repeat (first | exact Chg.refl _ _ | apply Chg.drew | apply Chg.drewN | refine Chg.alloc ?_ _)) G1.out) q0_4_166 id
  clear q0_4_166
  have q0_5_179 := Chg.cell (Chg.trans (by repeat (first | exact Chg.refl _ _ | apply Chg.drew | apply Chg.drewN | refine Chg.alloc ?_ _)) G1.out) q0_5_167 id
  clear q0_5_167
  have q0_6_180 := Chg.cell (Chg.trans (by repeat (first | exact Chg.refl _ _ | apply Chg.drew | apply Chg.drewN | refine Chg.alloc ?_ _)) G1.out) q0_6_168 id
  clear q0_6_168
  have M0_181 := Lib.hid (M0_169.out.up (Chg.trans (by repeat (first | exact Chg.refl _ _ | apply Chg.drew | apply Chg.drewN | refine Chg.alloc ?_ _)) G1.out))
  clear M0_169
  clear G1
  have E0_182 := Lib.hid (K1.out)
  clear K1
  obtain ⟨Fas170, fas170, Bas170, bas170, Cas170, cas170, Las170, las170, Das170, das170, rfl, ys170⟩ := openMac E0_182.out
  clear ys170
  go_wp2_with fail
  refine (pRackEvents_A _ _ _ a0 (E0_182.out.up (by repeat (first | exact Chg.refl _ _ | apply Chg.drew | apply Chg.drewN | refine Chg.alloc ?_ _))) a1).mono ?_
  rintro e w183 ⟨v183, rfl, k1, g1⟩
  obtain ⟨A183, c183, rfl, hl183, hc183, -⟩ := k1.shape
  have K1 := Lib.hid k1
  clear k1
  have G1 := Lib.hid g1
  obtain ⟨hy183, hz183⟩ := up_pre (show Up w170 _ from (by repeat (first | exact Chg.refl _ _ | apply Chg.drew | apply Chg.drewN | refine Chg.alloc ?_ _))) G1.out
  clear g1
  have U_184 := Lib.hid (Chg.trans U_171.out (Chg.trans (by repeat (first | exact Chg.refl _ _ | apply Chg.drew | apply Chg.drewN | refine Chg.alloc ?_ _)) G1.out))
  clear U_171
  have X0_185 := Lib.hid (X0_172.out.up (Chg.trans (by repeat (first | exact Chg.refl _ _ | apply Chg.drew | apply Chg.drewN | refine Chg.alloc ?_ _)) G1.out))
  clear X0_172
  have W0_186 := Lib.hid (W0_173.out.up (Chg.trans (by repeat (first | exact Chg.refl _ _ | apply Chg.drew | apply Chg.drewN | refine Chg.alloc ?_ _)) G1.out))
  clear W0_173
  have q0_0_187 := Chg.cell (Chg.trans (by repeat (first | exact Chg.refl _ _ | apply Chg.drew | apply Chg.drewN | refine Chg.alloc ?_ _)) G1.out) q0_0_174 id
  clear q0_0_174
  have q0_1_188 := Chg.cell (Chg.trans (by repeat (first | exact Chg.refl _ _ | apply Chg.drew | apply Chg.drewN | refine Chg.alloc ?_ _)) G1.out) q0_1_175 id
  clear q0_1_175
  have q0_2_189 := Chg.cell (Chg.trans (by repeat (first | exact Chg.refl _ _ | apply Chg.drew | apply Chg.drewN | refine Chg.alloc ?_ _)) G1.out) q0_2_176 id
  clear q0_2_176
  have q0_3_190 := Chg.cell (Chg.trans (by repeat (first | exact Chg.refl _ _ | apply Chg.drew | apply Chg.drewN | refine Chg.alloc ?_ _)) G1.out) q0_3_177 id
  clear q0_3_177
  have q0_4_191 := Chg.cell (Chg.trans (by repeat (first | exact Chg.refl _ _ | apply Chg.drew | apply Chg.drewN | refine Chg.alloc ?_ _)) G1.out) q0_4_178 id
  clear q0_4_178
  have q0_5_192 := Chg.cell (Chg.trans (by repeat (first | exact Chg.refl _ _ | apply Chg.drew | apply Chg.drewN | refine Chg.alloc ?_ _)) G1.out) q0_5_179 id
  clear q0_5_179
  have q0_6_193 := Chg.cell (Chg.trans (by repeat (first | exact Chg.refl _ _ | apply Chg.drew | apply Chg.drewN | refine Chg.alloc ?_ _)) G1.out) q0_6_180 id
  clear q0_6_180
  have M0_194 := Lib.hid (M0_181.out.up (Chg.trans (by repeat (first | exact Chg.refl _ _ | apply Chg.drew | apply Chg.drewN | refine Chg.alloc ?_ _)) G1.out))
  clear M0_181
  have E0_195 := Lib.hid (E0_182.out.up (Chg.trans (by repeat (first | exact Chg.refl _ _ | apply Chg.drew | apply Chg.drewN | refine Chg.alloc ?_ _)) G1.out))
  clear E0_182
  clear G1
  have H0_196 := Lib.hid (K1.out)
  clear K1
  go_wp2_with fail
  refine (eqEvs _ _ _ _ _ (rackOut a0 a1) (H0_196.out.up (by repeat (first | exact Chg.refl _ _ | apply Chg.drew | apply Chg.drewN | refine Chg.alloc ?_ _))) (W0_186.out.up (by repeat (first | exact Chg.refl _ _ | apply Chg.drew | apply Chg.drewN | refine Chg.alloc ?_ _)))).mono ?_
  rintro e w197 ⟨rfl, g1⟩
  have G1 := Lib.hid g1
  obtain ⟨hy197, hz197⟩ := up_pre (show Up w183 _ from (by repeat (first | exact Chg.refl _ _ | apply Chg.drew | apply Chg.drewN | refine Chg.alloc ?_ _))) G1.out
  clear g1
  have U_198 := Lib.hid (Chg.trans U_184.out (Chg.trans (by repeat (first | exact Chg.refl _ _ | apply Chg.drew | apply Chg.drewN | refine Chg.alloc ?_ _)) G1.out))
  clear U_184
  have X0_199 := Lib.hid (X0_185.out.up (Chg.trans (by repeat (first | exact Chg.refl _ _ | apply Chg.drew | apply Chg.drewN | refine Chg.alloc ?_ _)) G1.out))
  clear X0_185
  have W0_200 := Lib.hid (W0_186.out.up (Chg.trans (by repeat (first | exact Chg.refl _ _ | apply Chg.drew | apply Chg.drewN | refine Chg.alloc ?_ _)) G1.out))
  clear W0_186
  have q0_0_201 := Chg.cell (Chg.trans (by repeat (first | exact Chg.refl _ _ | apply Chg.drew | apply Chg.drewN | refine Chg.alloc ?_ _)) G1.out) q0_0_187 id
  clear q0_0_187
  have q0_1_202 := Chg.cell (Chg.trans (by repeat (first | exact Chg.refl _ _ | apply Chg.drew | apply Chg.drewN | refine Chg.alloc ?_ _)) G1.out) q0_1_188 id
  clear q0_1_188
  have q0_2_203 := Chg.cell (Chg.trans (by repeat (first | exact Chg.refl _ _ | apply Chg.drew | apply Chg.drewN | refine Chg.alloc ?_ _)) G1.out) q0_2_189 id
  clear q0_2_189
  have q0_3_204 := Chg.cell (Chg.trans (by repeat (first | exact Chg.refl _ _ | apply Chg.drew | apply Chg.drewN | refine Chg.alloc ?_ _)) G1.out) q0_3_190 id
  clear q0_3_190
  have q0_4_205 := Chg.cell (Chg.trans (by repeat (first | exact Chg.refl _ _ | apply Chg.drew | apply Chg.drewN | refine Chg.alloc ?_ _)) G1.out) q0_4_191 id
  clear q0_4_191
  have q0_5_206 := Chg.cell (Chg.trans (by repeat (first | exact Chg.refl _ _ | apply Chg.drew | apply Chg.drewN | refine Chg.alloc ?_ _)) G1.out) q0_5_192 id
  clear q0_5_192
  have q0_6_207 := Chg.cell (Chg.trans (by repeat (first | exact Chg.refl _ _ | apply Chg.drew | apply Chg.drewN | refine Chg.alloc ?_ _)) G1.out) q0_6_193 id
  clear q0_6_193
  have M0_208 := Lib.hid (M0_194.out.up (Chg.trans (by repeat (first | exact Chg.refl _ _ | apply Chg.drew | apply Chg.drewN | refine Chg.alloc ?_ _)) G1.out))
  clear M0_194
  have E0_209 := Lib.hid (E0_195.out.up (Chg.trans (by repeat (first | exact Chg.refl _ _ | apply Chg.drew | apply Chg.drewN | refine Chg.alloc ?_ _)) G1.out))
  clear E0_195
  have H0_210 := Lib.hid (H0_196.out.up (Chg.trans (by repeat (first | exact Chg.refl _ _ | apply Chg.drew | apply Chg.drewN | refine Chg.alloc ?_ _)) G1.out))
  clear H0_196
  clear G1
  go_wp2_with fail
  refine (heldEvs _ _ _ (rackOut a0 a1) (1) hr1_0 hr2_0 (M0_208.out.up (by repeat (first | exact Chg.refl _ _ | apply Chg.drew | apply Chg.drewN | refine Chg.alloc ?_ _)))).mono ?_
  rintro e w211 ⟨rfl, g1⟩
  have G1 := Lib.hid g1
  obtain ⟨hy211, hz211⟩ := up_pre (show Up w197 _ from (by repeat (first | exact Chg.refl _ _ | apply Chg.drew | apply Chg.drewN | refine Chg.alloc ?_ _))) G1.out
  clear g1
  have U_212 := Lib.hid (Chg.trans U_198.out (Chg.trans (by repeat (first | exact Chg.refl _ _ | apply Chg.drew | apply Chg.drewN | refine Chg.alloc ?_ _)) G1.out))
  clear U_198
  have X0_213 := Lib.hid (X0_199.out.up (Chg.trans (by repeat (first | exact Chg.refl _ _ | apply Chg.drew | apply Chg.drewN | refine Chg.alloc ?_ _)) G1.out))
  clear X0_199
  have W0_214 := Lib.hid (W0_200.out.up (Chg.trans (by repeat (first | exact Chg.refl _ _ | apply Chg.drew | apply Chg.drewN | refine Chg.alloc ?_ _)) G1.out))
  clear W0_200
  have q0_0_215 := Chg.cell (Chg.trans (by repeat (first | exact Chg.refl _ _ | apply Chg.drew | apply Chg.drewN | refine Chg.alloc ?_ _)) G1.out) q0_0_201 id
  clear q0_0_201
  have q0_1_216 := Chg.cell (Chg.trans (by repeat (first | exact Chg.refl _ _ | apply Chg.drew | apply Chg.drewN | refine Chg.alloc ?_ _)) G1.out) q0_1_202 id
  clear q0_1_202
  have q0_2_217 := Chg.cell (Chg.trans (by repeat (first | exact Chg.refl _ _ | apply Chg.drew | apply Chg.drewN | refine Chg.alloc ?_ _)) G1.out) q0_2_203 id
  clear q0_2_203
  have q0_3_218 := Chg.cell (Chg.trans (by repeat (first | exact Chg.refl _ _ | apply Chg.drew | apply Chg.drewN | refine Chg.alloc ?_ _)) G1.out) q0_3_204 id
  clear q0_3_204
  have q0_4_219 := Chg.cell (Chg.trans (by repeat (first | exact Chg.refl _ _ | apply Chg.drew | apply Chg.drewN | refine Chg.alloc ?_ _)) G1.out) q0_4_205 id
  clear q0_4_205
  have q0_5_220 := Chg.cell (Chg.trans (by repeat (first | exact Chg.refl _ _ | apply Chg.drew | apply Chg.drewN | refine Chg.alloc ?_ _)) G1.out) q0_5_206 id
  clear q0_5_206
  have q0_6_221 := Chg.cell (Chg.trans (by repeat (first | exact Chg.refl _ _ | apply Chg.drew | apply Chg.drewN | refine Chg.alloc ?_ _)) G1.out) q0_6_207 id
  clear q0_6_207
  have M0_222 := Lib.hid (M0_208.out.up (Chg.trans (by repeat (first | exact Chg.refl _ _ | apply Chg.drew | apply Chg.drewN | refine Chg.alloc ?_ _)) G1.out))
  clear M0_208
  have E0_223 := Lib.hid (E0_209.out.up (Chg.trans (by repeat (first | exact Chg.refl _ _ | apply Chg.drew | apply Chg.drewN | refine Chg.alloc ?_ _)) G1.out))
  clear E0_209
  have H0_224 := Lib.hid (H0_210.out.up (Chg.trans (by repeat (first | exact Chg.refl _ _ | apply Chg.drew | apply Chg.drewN | refine Chg.alloc ?_ _)) G1.out))
  clear H0_210
  clear G1
  go_wp2
  go_ret
  exact ⟨rfl, Up.below (Chg.trans U_212.out (by repeat (first | exact Chg.refl _ _ | apply Chg.drew | apply Chg.drewN | refine Chg.alloc ?_ _)))⟩
set_option maxRecDepth 100000 in
theorem walk (w : World) (v0 : Value) (a0 : MacM) (ha0 : MacA w (fun b => b < w.heap.size) v0 a0) (a1 : Int) (ia1 : I64 a1) :
    Calls Try.prog 3 #[v0, .int .i64 a1] w fun e w' => e = .returned (.bool true) ∧ Below w.heap.size w w' := by
  by_cases hbt : (szMc a0 : Int) ≤ 1048576
  rotate_left
  · skip
    obtain ⟨Fa0, fa0, Ba0, ba0, Ca0, ca0, La0, la0, Da0, da0, rfl, y0⟩ := openMac ha0
    have X0 := Lib.hid ha0
    clear ha0 y0
    have U0 := Lib.hid (Chg.refl Nowhere w)
    have hd : decide ((-1 : Int) < 0) = true := rfl
    have U_1 := Lib.hid (Chg.trans U0.out ((Chg.refl Nowhere w).alloc (.cells #[.int .i64 a0.wd, .int .i64 a0.rk, .slice Fa0 a0.fr.length fa0, .slice Ba0 a0.bk.length ba0, .slice Ca0 a0.cs.length ca0, .slice La0 a0.ls.length la0, .slice Da0 a0.dr.length da0] 27)))
    clear U0
    have X_2 := Lib.hid (X0.out.up ((Chg.refl Nowhere w).alloc (.cells #[.int .i64 a0.wd, .int .i64 a0.rk, .slice Fa0 a0.fr.length fa0, .slice Ba0 a0.bk.length ba0, .slice Ca0 a0.cs.length ca0, .slice La0 a0.ls.length la0, .slice Da0 a0.dr.length da0] 27)))
    clear X0
    have q0_3 := (show (w.alloc (.cells #[.int .i64 a0.wd, .int .i64 a0.rk, .slice Fa0 a0.fr.length fa0, .slice Ba0 a0.bk.length ba0, .slice Ca0 a0.cs.length ca0, .slice La0 a0.ls.length la0, .slice Da0 a0.dr.length da0] 27)).cell? ⟨w.heap.size, 0, none⟩ = some (.int .i64 a0.wd) from cell_new _ _ _ _)
    have q1_4 := (show (w.alloc (.cells #[.int .i64 a0.wd, .int .i64 a0.rk, .slice Fa0 a0.fr.length fa0, .slice Ba0 a0.bk.length ba0, .slice Ca0 a0.cs.length ca0, .slice La0 a0.ls.length la0, .slice Da0 a0.dr.length da0] 27)).cell? ⟨w.heap.size, 1, none⟩ = some (.int .i64 a0.rk) from cell_new _ _ _ _)
    have q2_5 := (show (w.alloc (.cells #[.int .i64 a0.wd, .int .i64 a0.rk, .slice Fa0 a0.fr.length fa0, .slice Ba0 a0.bk.length ba0, .slice Ca0 a0.cs.length ca0, .slice La0 a0.ls.length la0, .slice Da0 a0.dr.length da0] 27)).cell? ⟨w.heap.size, 2, none⟩ = some (.slice Fa0 a0.fr.length fa0) from cell_new _ _ _ _)
    have q3_6 := (show (w.alloc (.cells #[.int .i64 a0.wd, .int .i64 a0.rk, .slice Fa0 a0.fr.length fa0, .slice Ba0 a0.bk.length ba0, .slice Ca0 a0.cs.length ca0, .slice La0 a0.ls.length la0, .slice Da0 a0.dr.length da0] 27)).cell? ⟨w.heap.size, 3, none⟩ = some (.slice Ba0 a0.bk.length ba0) from cell_new _ _ _ _)
    have q4_7 := (show (w.alloc (.cells #[.int .i64 a0.wd, .int .i64 a0.rk, .slice Fa0 a0.fr.length fa0, .slice Ba0 a0.bk.length ba0, .slice Ca0 a0.cs.length ca0, .slice La0 a0.ls.length la0, .slice Da0 a0.dr.length da0] 27)).cell? ⟨w.heap.size, 4, none⟩ = some (.slice Ca0 a0.cs.length ca0) from cell_new _ _ _ _)
    have q5_8 := (show (w.alloc (.cells #[.int .i64 a0.wd, .int .i64 a0.rk, .slice Fa0 a0.fr.length fa0, .slice Ba0 a0.bk.length ba0, .slice Ca0 a0.cs.length ca0, .slice La0 a0.ls.length la0, .slice Da0 a0.dr.length da0] 27)).cell? ⟨w.heap.size, 5, none⟩ = some (.slice La0 a0.ls.length la0) from cell_new _ _ _ _)
    have q6_9 := (show (w.alloc (.cells #[.int .i64 a0.wd, .int .i64 a0.rk, .slice Fa0 a0.fr.length fa0, .slice Ba0 a0.bk.length ba0, .slice Ca0 a0.cs.length ca0, .slice La0 a0.ls.length la0, .slice Da0 a0.dr.length da0] 27)).cell? ⟨w.heap.size, 6, none⟩ = some (.slice Da0 a0.dr.length da0) from cell_new _ _ _ _)
    have hbx10 : w.heap.size < (w.alloc (.cells #[.int .i64 a0.wd, .int .i64 a0.rk, .slice Fa0 a0.fr.length fa0, .slice Ba0 a0.bk.length ba0, .slice Ca0 a0.cs.length ca0, .slice La0 a0.ls.length la0, .slice Da0 a0.dr.length da0] 27)).heap.size := by simp
    go_enter Try.func3, Try.ntmps3
    go_wp2_with fail
    refine (szMacA_no _ _ _ a0 1048576 (by omega) (by omega) (X_2.out.up (by repeat (first | exact Chg.refl _ _ | apply Chg.drew | apply Chg.drewN | refine Chg.alloc ?_ _)))).mono ?_
    rintro e w11 ⟨rfl, g1⟩
    have G1 := Lib.hid g1
    have hz11 := G1.out.size
    clear g1
    have U_12 := Lib.hid (Chg.trans U_1.out (Chg.trans (by repeat (first | exact Chg.refl _ _ | apply Chg.drew | apply Chg.drewN | refine Chg.alloc ?_ _)) G1.out))
    clear U_1
    have X_13 := Lib.hid (X_2.out.up (Chg.trans (by repeat (first | exact Chg.refl _ _ | apply Chg.drew | apply Chg.drewN | refine Chg.alloc ?_ _)) G1.out))
    clear X_2
    have q0_14 := Chg.cell (Chg.trans (by repeat (first | exact Chg.refl _ _ | apply Chg.drew | apply Chg.drewN | refine Chg.alloc ?_ _)) G1.out) q0_3 id
    clear q0_3
    have q1_15 := Chg.cell (Chg.trans (by repeat (first | exact Chg.refl _ _ | apply Chg.drew | apply Chg.drewN | refine Chg.alloc ?_ _)) G1.out) q1_4 id
    clear q1_4
    have q2_16 := Chg.cell (Chg.trans (by repeat (first | exact Chg.refl _ _ | apply Chg.drew | apply Chg.drewN | refine Chg.alloc ?_ _)) G1.out) q2_5 id
    clear q2_5
    have q3_17 := Chg.cell (Chg.trans (by repeat (first | exact Chg.refl _ _ | apply Chg.drew | apply Chg.drewN | refine Chg.alloc ?_ _)) G1.out) q3_6 id
    clear q3_6
    have q4_18 := Chg.cell (Chg.trans (by repeat (first | exact Chg.refl _ _ | apply Chg.drew | apply Chg.drewN | refine Chg.alloc ?_ _)) G1.out) q4_7 id
    clear q4_7
    have q5_19 := Chg.cell (Chg.trans (by repeat (first | exact Chg.refl _ _ | apply Chg.drew | apply Chg.drewN | refine Chg.alloc ?_ _)) G1.out) q5_8 id
    clear q5_8
    have q6_20 := Chg.cell (Chg.trans (by repeat (first | exact Chg.refl _ _ | apply Chg.drew | apply Chg.drewN | refine Chg.alloc ?_ _)) G1.out) q6_9 id
    clear q6_9
    clear G1
    go_wp2
    go_ret
    exact ⟨rfl, Up.below (Chg.trans U_12.out (by repeat (first | exact Chg.refl _ _ | apply Chg.drew | apply Chg.drewN | refine Chg.alloc ?_ _)))⟩
  exact walk0 w v0 a0 ha0 a1 ia1 hbt
end fnExactRackEvents
end Go.Proofs.Ytchfjglofmphfaa
