/- The program's IsAtRest answers as the reference's, for all machines and numbers of columns; what it is given stays as it was. No condition. -/
import Derived.Test.YtobgbnpgledabaaMacR
namespace Go.Proofs.Ytobgbnpgledabaa
open Go.ChangeShapes Go.WideShapes Go.ChangeAt Go.RowKit
namespace fnExactIsAtRest
set_option linter.unusedVariables false in
set_option maxRecDepth 100000 in
set_option maxHeartbeats 8000000 in
theorem walk0 (w : World) (v0 : Value) (a0 : MacM) (ha0 : MacA w (fun b => b < w.heap.size) v0 a0) (a1 : Int) (ia1 : I64 a1)  (hbt : (szMc a0 : Int) ≤ 1048576) :
    Calls Try.prog 3 #[v0, .int .i64 a1] w fun e w' => e = .returned (.bool true) ∧ Below w.heap.size w w' := by
  have U0 := Lib.hid (Chg.refl Nowhere w)
  obtain ⟨Fa0, fa0, Ba0, ba0, Ca0, ca0, La0, la0, Da0, da0, rfl, y0⟩ := openMac ha0
  have X0 := Lib.hid ha0
  clear ha0 y0
  have U_1 := Lib.hid (Chg.trans U0.out ((Chg.refl Nowhere w).alloc (.cells #[.int .i64 a0.wd, .int .i64 a0.rk, .slice Fa0 a0.fr.length fa0, .slice Ba0 a0.bk.length ba0, .slice Ca0 a0.cs.length ca0, .slice La0 a0.ls.length la0, .slice Da0 a0.dr.length da0] 27)))
  clear U0
  have X0_2 := Lib.hid (X0.out.up ((Chg.refl Nowhere w).alloc (.cells #[.int .i64 a0.wd, .int .i64 a0.rk, .slice Fa0 a0.fr.length fa0, .slice Ba0 a0.bk.length ba0, .slice Ca0 a0.cs.length ca0, .slice La0 a0.ls.length la0, .slice Da0 a0.dr.length da0] 27)))
  clear X0
  have q0_0_3 := (show (w.alloc (.cells #[.int .i64 a0.wd, .int .i64 a0.rk, .slice Fa0 a0.fr.length fa0, .slice Ba0 a0.bk.length ba0, .slice Ca0 a0.cs.length ca0, .slice La0 a0.ls.length la0, .slice Da0 a0.dr.length da0] 27)).cell? ⟨w.heap.size, 0, none⟩ = some (.int .i64 a0.wd) from cell_new _ _ _ _)
  have q0_1_4 := (show (w.alloc (.cells #[.int .i64 a0.wd, .int .i64 a0.rk, .slice Fa0 a0.fr.length fa0, .slice Ba0 a0.bk.length ba0, .slice Ca0 a0.cs.length ca0, .slice La0 a0.ls.length la0, .slice Da0 a0.dr.length da0] 27)).cell? ⟨w.heap.size, 1, none⟩ = some (.int .i64 a0.rk) from cell_new _ _ _ _)
  have q0_2_5 := (show (w.alloc (.cells #[.int .i64 a0.wd, .int .i64 a0.rk, .slice Fa0 a0.fr.length fa0, .slice Ba0 a0.bk.length ba0, .slice Ca0 a0.cs.length ca0, .slice La0 a0.ls.length la0, .slice Da0 a0.dr.length da0] 27)).cell? ⟨w.heap.size, 2, none⟩ = some (.slice Fa0 a0.fr.length fa0) from cell_new _ _ _ _)
  have q0_3_6 := (show (w.alloc (.cells #[.int .i64 a0.wd, .int .i64 a0.rk, .slice Fa0 a0.fr.length fa0, .slice Ba0 a0.bk.length ba0, .slice Ca0 a0.cs.length ca0, .slice La0 a0.ls.length la0, .slice Da0 a0.dr.length da0] 27)).cell? ⟨w.heap.size, 3, none⟩ = some (.slice Ba0 a0.bk.length ba0) from cell_new _ _ _ _)
  have q0_4_7 := (show (w.alloc (.cells #[.int .i64 a0.wd, .int .i64 a0.rk, .slice Fa0 a0.fr.length fa0, .slice Ba0 a0.bk.length ba0, .slice Ca0 a0.cs.length ca0, .slice La0 a0.ls.length la0, .slice Da0 a0.dr.length da0] 27)).cell? ⟨w.heap.size, 4, none⟩ = some (.slice Ca0 a0.cs.length ca0) from cell_new _ _ _ _)
  have q0_5_8 := (show (w.alloc (.cells #[.int .i64 a0.wd, .int .i64 a0.rk, .slice Fa0 a0.fr.length fa0, .slice Ba0 a0.bk.length ba0, .slice Ca0 a0.cs.length ca0, .slice La0 a0.ls.length la0, .slice Da0 a0.dr.length da0] 27)).cell? ⟨w.heap.size, 5, none⟩ = some (.slice La0 a0.ls.length la0) from cell_new _ _ _ _)
  have q0_6_9 := (show (w.alloc (.cells #[.int .i64 a0.wd, .int .i64 a0.rk, .slice Fa0 a0.fr.length fa0, .slice Ba0 a0.bk.length ba0, .slice Ca0 a0.cs.length ca0, .slice La0 a0.ls.length la0, .slice Da0 a0.dr.length da0] 27)).cell? ⟨w.heap.size, 6, none⟩ = some (.slice Da0 a0.dr.length da0) from cell_new _ _ _ _)
  have hbx10 : w.heap.size < (w.alloc (.cells #[.int .i64 a0.wd, .int .i64 a0.rk, .slice Fa0 a0.fr.length fa0, .slice Ba0 a0.bk.length ba0, .slice Ca0 a0.cs.length ca0, .slice La0 a0.ls.length la0, .slice Da0 a0.dr.length da0] 27)).heap.size := by simp
  have hr0 : szMc a0 ≤ 1048576 := by omega
  go_enter Try.func3, Try.ntmps3
  have hd0 : decide ((1048576 : Int) - szMc a0 < 0) = false := decide_eq_false (by omega)
  go_wp2_with fail
  refine (szMacA_ok _ _ _ a0 (1048576) (by omega) (by omega) (X0_2.out.up (by repeat (first | exact Chg.refl _ _ | apply Chg.drew | apply Chg.drewN | refine Chg.alloc ?_ _)))).mono ?_
  rintro e w11 ⟨rfl, g1⟩
  have G1 := Lib.hid g1
  obtain ⟨hy11, hz11⟩ := up_pre (show Up (w.alloc (.cells #[.int .i64 a0.wd, .int .i64 a0.rk, .slice Fa0 a0.fr.length fa0, .slice Ba0 a0.bk.length ba0, .slice Ca0 a0.cs.length ca0, .slice La0 a0.ls.length la0, .slice Da0 a0.dr.length da0] 27)) _ from (by repeat (first | exact Chg.refl _ _ | apply Chg.drew | apply Chg.drewN | refine Chg.alloc ?_ _))) G1.out
  clear g1
  have U_12 := Lib.hid (Chg.trans U_1.out (Chg.trans (by repeat (first | exact Chg.refl _ _ | apply Chg.drew | apply Chg.drewN | refine Chg.alloc ?_ _)) G1.out))
  clear U_1
  have X0_13 := Lib.hid (X0_2.out.up (Chg.trans (by repeat (first | exact Chg.refl _ _ | apply Chg.drew | apply Chg.drewN | refine Chg.alloc ?_ _)) G1.out))
  clear X0_2
  have q0_0_14 := Chg.cell (Chg.trans (by repeat (first | exact Chg.refl _ _ | apply Chg.drew | apply Chg.drewN | refine Chg.alloc ?_ _)) G1.out) q0_0_3 id
  clear q0_0_3
  have q0_1_15 := Chg.cell (Chg.trans (by repeat (first | exact Chg.refl _ _ | apply Chg.drew | apply Chg.drewN | refine Chg.alloc ?_ _)) G1.out) q0_1_4 id
  clear q0_1_4
  have q0_2_16 := Chg.cell (Chg.trans (by repeat (first | exact Chg.refl _ _ | apply Chg.drew | apply Chg.drewN | refine Chg.alloc ?_ _)) G1.out) q0_2_5 id
  clear q0_2_5
  have q0_3_17 := Chg.cell (Chg.trans (by repeat (first | exact Chg.refl _ _ | apply Chg.drew | apply Chg.drewN | refine Chg.alloc ?_ _)) G1.out) q0_3_6 id
  clear q0_3_6
  have q0_4_18 := Chg.cell (Chg.trans (by repeat (first | exact Chg.refl _ _ | apply Chg.drew | apply Chg.drewN | refine Chg.alloc ?_ _)) G1.out) q0_4_7 id
  clear q0_4_7
  have q0_5_19 := Chg.cell (Chg.trans (by repeat (first | exact Chg.refl _ _ | apply Chg.drew | apply Chg.drewN | refine Chg.alloc ?_ _)) G1.out) q0_5_8 id
  clear q0_5_8
  have q0_6_20 := Chg.cell (Chg.trans (by repeat (first | exact Chg.refl _ _ | apply Chg.drew | apply Chg.drewN | refine Chg.alloc ?_ _)) G1.out) q0_6_9 id
  clear q0_6_9
  clear G1
  go_wp2_with fail
  refine (toMacA_any _ _ _ a0 (by omega) (X0_13.out.up (by repeat (first | exact Chg.refl _ _ | apply Chg.drew | apply Chg.drewN | refine Chg.alloc ?_ _)))).mono ?_
  rintro e w21 ⟨v21, rfl, k1, g1⟩
  have K1 := Lib.hid k1
  clear k1
  have G1 := Lib.hid g1
  obtain ⟨hy21, hz21⟩ := up_pre (show Up w11 _ from (by repeat (first | exact Chg.refl _ _ | apply Chg.drew | apply Chg.drewN | refine Chg.alloc ?_ _))) G1.out
  clear g1
  have U_22 := Lib.hid (Chg.trans U_12.out (Chg.trans (by repeat (first | exact Chg.refl _ _ | apply Chg.drew | apply Chg.drewN | refine Chg.alloc ?_ _)) G1.out))
  clear U_12
  have X0_23 := Lib.hid (X0_13.out.up (Chg.trans (by repeat (first | exact Chg.refl _ _ | apply Chg.drew | apply Chg.drewN | refine Chg.alloc ?_ _)) G1.out))
  clear X0_13
  have q0_0_24 := Chg.cell (Chg.trans (by repeat (first | exact Chg.refl _ _ | apply Chg.drew | apply Chg.drewN | refine Chg.alloc ?_ _)) G1.out) q0_0_14 id
  clear q0_0_14
  have q0_1_25 := Chg.cell (Chg.trans (by repeat (first | exact Chg.refl _ _ | apply Chg.drew | apply Chg.drewN | refine Chg.alloc ?_ _)) G1.out) q0_1_15 id
  clear q0_1_15
  have q0_2_26 := Chg.cell (Chg.trans (by repeat (first | exact Chg.refl _ _ | apply Chg.drew | apply Chg.drewN | refine Chg.alloc ?_ _)) G1.out) q0_2_16 id
  clear q0_2_16
  have q0_3_27 := Chg.cell (Chg.trans (by repeat (first | exact Chg.refl _ _ | apply Chg.drew | apply Chg.drewN | refine Chg.alloc ?_ _)) G1.out) q0_3_17 id
  clear q0_3_17
  have q0_4_28 := Chg.cell (Chg.trans (by repeat (first | exact Chg.refl _ _ | apply Chg.drew | apply Chg.drewN | refine Chg.alloc ?_ _)) G1.out) q0_4_18 id
  clear q0_4_18
  have q0_5_29 := Chg.cell (Chg.trans (by repeat (first | exact Chg.refl _ _ | apply Chg.drew | apply Chg.drewN | refine Chg.alloc ?_ _)) G1.out) q0_5_19 id
  clear q0_5_19
  have q0_6_30 := Chg.cell (Chg.trans (by repeat (first | exact Chg.refl _ _ | apply Chg.drew | apply Chg.drewN | refine Chg.alloc ?_ _)) G1.out) q0_6_20 id
  clear q0_6_20
  clear G1
  have B0_31 := Lib.hid (K1.out)
  clear K1
  obtain ⟨Fas21, fas21, Bas21, bas21, Cas21, cas21, Las21, las21, Das21, das21, rfl, ys21⟩ := openMac B0_31.out
  clear ys21
  go_wp2_with fail
  refine (sIsAtRest_A _ _ _ a0 (B0_31.out.up (by repeat (first | exact Chg.refl _ _ | apply Chg.drew | apply Chg.drewN | refine Chg.alloc ?_ _))) a1).mono ?_
  rintro e w32 ⟨rfl, g1⟩
  have G1 := Lib.hid g1
  obtain ⟨hy32, hz32⟩ := up_pre (show Up w21 _ from (by repeat (first | exact Chg.refl _ _ | apply Chg.drew | apply Chg.drewN | refine Chg.alloc ?_ _))) G1.out
  clear g1
  have U_33 := Lib.hid (Chg.trans U_22.out (Chg.trans (by repeat (first | exact Chg.refl _ _ | apply Chg.drew | apply Chg.drewN | refine Chg.alloc ?_ _)) G1.out))
  clear U_22
  have X0_34 := Lib.hid (X0_23.out.up (Chg.trans (by repeat (first | exact Chg.refl _ _ | apply Chg.drew | apply Chg.drewN | refine Chg.alloc ?_ _)) G1.out))
  clear X0_23
  have q0_0_35 := Chg.cell (Chg.trans (by repeat (first | exact Chg.refl _ _ | apply Chg.drew | apply Chg.drewN | refine Chg.alloc ?_ _)) G1.out) q0_0_24 id
  clear q0_0_24
  have q0_1_36 := Chg.cell (Chg.trans (by repeat (first | exact Chg.refl _ _ | apply Chg.drew | apply Chg.drewN | refine Chg.alloc ?_ _)) G1.out) q0_1_25 id
  clear q0_1_25
  have q0_2_37 := Chg.cell (Chg.trans (by repeat (first | exact Chg.refl _ _ | apply Chg.drew | apply Chg.drewN | refine Chg.alloc ?_ _)) G1.out) q0_2_26 id
  clear q0_2_26
  have q0_3_38 := Chg.cell (Chg.trans (by repeat (first | exact Chg.refl _ _ | apply Chg.drew | apply Chg.drewN | refine Chg.alloc ?_ _)) G1.out) q0_3_27 id
  clear q0_3_27
  have q0_4_39 := Chg.cell (Chg.trans (by repeat (first | exact Chg.refl _ _ | apply Chg.drew | apply Chg.drewN | refine Chg.alloc ?_ _)) G1.out) q0_4_28 id
  clear q0_4_28
  have q0_5_40 := Chg.cell (Chg.trans (by repeat (first | exact Chg.refl _ _ | apply Chg.drew | apply Chg.drewN | refine Chg.alloc ?_ _)) G1.out) q0_5_29 id
  clear q0_5_29
  have q0_6_41 := Chg.cell (Chg.trans (by repeat (first | exact Chg.refl _ _ | apply Chg.drew | apply Chg.drewN | refine Chg.alloc ?_ _)) G1.out) q0_6_30 id
  clear q0_6_30
  have B0_42 := Lib.hid (B0_31.out.up (Chg.trans (by repeat (first | exact Chg.refl _ _ | apply Chg.drew | apply Chg.drewN | refine Chg.alloc ?_ _)) G1.out))
  clear B0_31
  clear G1
  clear B0_42
  go_wp2_with fail
  refine (toMacA_any _ _ _ a0 (by omega) (X0_34.out.up (by repeat (first | exact Chg.refl _ _ | apply Chg.drew | apply Chg.drewN | refine Chg.alloc ?_ _)))).mono ?_
  rintro e w43 ⟨v43, rfl, k1, g1⟩
  have K1 := Lib.hid k1
  clear k1
  have G1 := Lib.hid g1
  obtain ⟨hy43, hz43⟩ := up_pre (show Up w32 _ from (by repeat (first | exact Chg.refl _ _ | apply Chg.drew | apply Chg.drewN | refine Chg.alloc ?_ _))) G1.out
  clear g1
  have U_44 := Lib.hid (Chg.trans U_33.out (Chg.trans (by repeat (first | exact Chg.refl _ _ | apply Chg.drew | apply Chg.drewN | refine Chg.alloc ?_ _)) G1.out))
  clear U_33
  have X0_45 := Lib.hid (X0_34.out.up (Chg.trans (by repeat (first | exact Chg.refl _ _ | apply Chg.drew | apply Chg.drewN | refine Chg.alloc ?_ _)) G1.out))
  clear X0_34
  have q0_0_46 := Chg.cell (Chg.trans (by repeat (first | exact Chg.refl _ _ | apply Chg.drew | apply Chg.drewN | refine Chg.alloc ?_ _)) G1.out) q0_0_35 id
  clear q0_0_35
  have q0_1_47 := Chg.cell (Chg.trans (by repeat (first | exact Chg.refl _ _ | apply Chg.drew | apply Chg.drewN | refine Chg.alloc ?_ _)) G1.out) q0_1_36 id
  clear q0_1_36
  have q0_2_48 := Chg.cell (Chg.trans (by repeat (first | exact Chg.refl _ _ | apply Chg.drew | apply Chg.drewN | refine Chg.alloc ?_ _)) G1.out) q0_2_37 id
  clear q0_2_37
  have q0_3_49 := Chg.cell (Chg.trans (by repeat (first | exact Chg.refl _ _ | apply Chg.drew | apply Chg.drewN | refine Chg.alloc ?_ _)) G1.out) q0_3_38 id
  clear q0_3_38
  have q0_4_50 := Chg.cell (Chg.trans (by repeat (first | exact Chg.refl _ _ | apply Chg.drew | apply Chg.drewN | refine Chg.alloc ?_ _)) G1.out) q0_4_39 id
  clear q0_4_39
  have q0_5_51 := Chg.cell (Chg.trans (by repeat (first | exact Chg.refl _ _ | apply Chg.drew | apply Chg.drewN | refine Chg.alloc ?_ _)) G1.out) q0_5_40 id
  clear q0_5_40
  have q0_6_52 := Chg.cell (Chg.trans (by repeat (first | exact Chg.refl _ _ | apply Chg.drew | apply Chg.drewN | refine Chg.alloc ?_ _)) G1.out) q0_6_41 id
  clear q0_6_41
  clear G1
  have C0_53 := Lib.hid (K1.out)
  clear K1
  obtain ⟨Fas43, fas43, Bas43, bas43, Cas43, cas43, Las43, las43, Das43, das43, rfl, ys43⟩ := openMac C0_53.out
  clear ys43
  go_wp2_with fail
  refine (pIsAtRest_A _ _ _ a0 (C0_53.out.up (by repeat (first | exact Chg.refl _ _ | apply Chg.drew | apply Chg.drewN | refine Chg.alloc ?_ _))) a1).mono ?_
  rintro e w54 ⟨rfl, g1⟩
  have G1 := Lib.hid g1
  obtain ⟨hy54, hz54⟩ := up_pre (show Up w43 _ from (by repeat (first | exact Chg.refl _ _ | apply Chg.drew | apply Chg.drewN | refine Chg.alloc ?_ _))) G1.out
  clear g1
  have U_55 := Lib.hid (Chg.trans U_44.out (Chg.trans (by repeat (first | exact Chg.refl _ _ | apply Chg.drew | apply Chg.drewN | refine Chg.alloc ?_ _)) G1.out))
  clear U_44
  have X0_56 := Lib.hid (X0_45.out.up (Chg.trans (by repeat (first | exact Chg.refl _ _ | apply Chg.drew | apply Chg.drewN | refine Chg.alloc ?_ _)) G1.out))
  clear X0_45
  have q0_0_57 := Chg.cell (Chg.trans (by repeat (first | exact Chg.refl _ _ | apply Chg.drew | apply Chg.drewN | refine Chg.alloc ?_ _)) G1.out) q0_0_46 id
  clear q0_0_46
  have q0_1_58 := Chg.cell (Chg.trans (by repeat (first | exact Chg.refl _ _ | apply Chg.drew | apply Chg.drewN | refine Chg.alloc ?_ _)) G1.out) q0_1_47 id
  clear q0_1_47
  have q0_2_59 := Chg.cell (Chg.trans (by repeat (first | exact Chg.refl _ _ | apply Chg.drew | apply Chg.drewN | refine Chg.alloc ?_ _)) G1.out) q0_2_48 id
  clear q0_2_48
  have q0_3_60 := Chg.cell (Chg.trans (by repeat (first | exact Chg.refl _ _ | apply Chg.drew | apply Chg.drewN | refine Chg.alloc ?_ _)) G1.out) q0_3_49 id
  clear q0_3_49
  have q0_4_61 := Chg.cell (Chg.trans (by repeat (first | exact Chg.refl _ _ | apply Chg.drew | apply Chg.drewN | refine Chg.alloc ?_ _)) G1.out) q0_4_50 id
  clear q0_4_50
  have q0_5_62 := Chg.cell (Chg.trans (by repeat (first | exact Chg.refl _ _ | apply Chg.drew | apply Chg.drewN | refine Chg.alloc ?_ _)) G1.out) q0_5_51 id
  clear q0_5_51
  have q0_6_63 := Chg.cell (Chg.trans (by repeat (first | exact Chg.refl _ _ | apply Chg.drew | apply Chg.drewN | refine Chg.alloc ?_ _)) G1.out) q0_6_52 id
  clear q0_6_52
  have C0_64 := Lib.hid (C0_53.out.up (Chg.trans (by repeat (first | exact Chg.refl _ _ | apply Chg.drew | apply Chg.drewN | refine Chg.alloc ?_ _)) G1.out))
  clear C0_53
  obtain ⟨x0_0_65c, x0_0_65f⟩ := (show CellF w54 ⟨w43.heap.size, 0, none⟩ (.int .i64 a0.wd) from CellF.up G1.out (by repeat (first | ((refine cellF_at ?_ rfl); (simp; done)) | refine CellF.up ((Chg.refl _ _).alloc _) ?_)))
  obtain ⟨x0_1_66c, x0_1_66f⟩ := (show CellF w54 ⟨w43.heap.size, 1, none⟩ (.int .i64 a0.rk) from CellF.up G1.out (by repeat (first | ((refine cellF_at ?_ rfl); (simp; done)) | refine CellF.up ((Chg.refl _ _).alloc _) ?_)))
  obtain ⟨x0_2_67c, x0_2_67f⟩ := (show CellF w54 ⟨w43.heap.size, 2, none⟩ (.slice Fas43 a0.fr.length fas43) from CellF.up G1.out (by repeat (first | ((refine cellF_at ?_ rfl); (simp; done)) | refine CellF.up ((Chg.refl _ _).alloc _) ?_)))
  obtain ⟨x0_3_68c, x0_3_68f⟩ := (show CellF w54 ⟨w43.heap.size, 3, none⟩ (.slice Bas43 a0.bk.length bas43) from CellF.up G1.out (by repeat (first | ((refine cellF_at ?_ rfl); (simp; done)) | refine CellF.up ((Chg.refl _ _).alloc _) ?_)))
  obtain ⟨x0_4_69c, x0_4_69f⟩ := (show CellF w54 ⟨w43.heap.size, 4, none⟩ (.slice Cas43 a0.cs.length cas43) from CellF.up G1.out (by repeat (first | ((refine cellF_at ?_ rfl); (simp; done)) | refine CellF.up ((Chg.refl _ _).alloc _) ?_)))
  obtain ⟨x0_5_70c, x0_5_70f⟩ := (show CellF w54 ⟨w43.heap.size, 5, none⟩ (.slice Las43 a0.ls.length las43) from CellF.up G1.out (by repeat (first | ((refine cellF_at ?_ rfl); (simp; done)) | refine CellF.up ((Chg.refl _ _).alloc _) ?_)))
  obtain ⟨x0_6_71c, x0_6_71f⟩ := (show CellF w54 ⟨w43.heap.size, 6, none⟩ (.slice Das43 a0.dr.length das43) from CellF.up G1.out (by repeat (first | ((refine cellF_at ?_ rfl); (simp; done)) | refine CellF.up ((Chg.refl _ _).alloc _) ?_)))
  clear G1
  go_wp2
  go_region_held3 (fun w' => w'.cell? ⟨w.heap.size, 0, none⟩ = some (.int .i64 a0.wd) ∧ w'.cell? ⟨w.heap.size, 1, none⟩ = some (.int .i64 a0.rk) ∧ w'.cell? ⟨w.heap.size, 2, none⟩ = some (.slice Fa0 a0.fr.length fa0) ∧ w'.cell? ⟨w.heap.size, 3, none⟩ = some (.slice Ba0 a0.bk.length ba0) ∧ w'.cell? ⟨w.heap.size, 4, none⟩ = some (.slice Ca0 a0.cs.length ca0) ∧ w'.cell? ⟨w.heap.size, 5, none⟩ = some (.slice La0 a0.ls.length la0) ∧ w'.cell? ⟨w.heap.size, 6, none⟩ = some (.slice Da0 a0.dr.length da0) ∧ w'.cell? ⟨w43.heap.size, 0, none⟩ = some (.int .i64 a0.wd) ∧ w'.cell? ⟨w43.heap.size, 1, none⟩ = some (.int .i64 a0.rk) ∧ w'.cell? ⟨w43.heap.size, 2, none⟩ = some (.slice Fas43 a0.fr.length fas43) ∧ w'.cell? ⟨w43.heap.size, 3, none⟩ = some (.slice Bas43 a0.bk.length bas43) ∧ w'.cell? ⟨w43.heap.size, 4, none⟩ = some (.slice Cas43 a0.cs.length cas43) ∧ w'.cell? ⟨w43.heap.size, 5, none⟩ = some (.slice Las43 a0.ls.length las43) ∧ w'.cell? ⟨w43.heap.size, 6, none⟩ = some (.slice Das43 a0.dr.length das43))
      (first | (exact ⟨q0_0_57, q0_1_58, q0_2_59, q0_3_60, q0_4_61, q0_5_62, q0_6_63, x0_0_65c, x0_1_66c, x0_2_67c, x0_3_68c, x0_4_69c, x0_5_70c, x0_6_71c⟩) | (obtain ⟨p0, p1, p2, p3, p4, p5, p6, p7, p8, p9, p10, p11, p12, p13⟩ : (World.cell? _ _ = _ ∧ World.cell? _ _ = _ ∧ World.cell? _ _ = _ ∧ World.cell? _ _ = _ ∧ World.cell? _ _ = _ ∧ World.cell? _ _ = _ ∧ World.cell? _ _ = _ ∧ World.cell? _ _ = _ ∧ World.cell? _ _ = _ ∧ World.cell? _ _ = _ ∧ World.cell? _ _ = _ ∧ World.cell? _ _ = _ ∧ World.cell? _ _ = _ ∧ World.cell? _ _ = _) := (by assumption); exact ⟨Chg.cell g1 p0 id, Chg.cell g1 p1 id, Chg.cell g1 p2 id, Chg.cell g1 p3 id, Chg.cell g1 p4 id, Chg.cell g1 p5 id, Chg.cell g1 p6 id, Chg.cell g1 p7 id, Chg.cell g1 p8 id, Chg.cell g1 p9 id, Chg.cell g1 p10 id, Chg.cell g1 p11 id, Chg.cell g1 p12 id, Chg.cell g1 p13 id⟩))
      (first | (go_at_call 10; refine (toMacA_any _ _ _ a0 (by omega) (X0_56.out.up (by repeat (first | exact Chg.refl _ _ | apply Chg.drew | apply Chg.drewN | refine Chg.alloc ?_ _)))).mono ?_; rintro e w72 ⟨v72, rfl, k1, g1⟩; obtain ⟨Fas72, fas72, Bas72, bas72, Cas72, cas72, Las72, las72, Das72, das72, rfl, ys72⟩ := openMac k1; have K1 := Lib.hid k1; clear k1 ys72; have G1 := Lib.hid g1; obtain ⟨hy72, hz72⟩ := up_pre (show Up w54 _ from (by repeat (first | exact Chg.refl _ _ | apply Chg.drew | apply Chg.drewN | refine Chg.alloc ?_ _))) G1.out; have U_74 := Lib.hid (Chg.trans U_55.out (Chg.trans (by repeat (first | exact Chg.refl _ _ | apply Chg.drew | apply Chg.drewN | refine Chg.alloc ?_ _)) G1.out)); have X0_75 := Lib.hid (X0_56.out.up (Chg.trans (by repeat (first | exact Chg.refl _ _ | apply Chg.drew | apply Chg.drewN | refine Chg.alloc ?_ _)) G1.out)); have C0_76 := Lib.hid (C0_64.out.up (Chg.trans (by repeat (first | exact Chg.refl _ _ | apply Chg.drew | apply Chg.drewN | refine Chg.alloc ?_ _)) G1.out))) | (go_at_call 12; refine (eqMacA_same _ _ _ _ _ a0 (C0_76.out.up (by repeat (first | exact Chg.refl _ _ | apply Chg.drew | apply Chg.drewN | refine Chg.alloc ?_ _))) (K1.out.up (by repeat (first | exact Chg.refl _ _ | apply Chg.drew | apply Chg.drewN | refine Chg.alloc ?_ _)))).mono ?_; rintro e w73 ⟨rfl, g1⟩; have G2 := Lib.hid g1; obtain ⟨hy73, hz73⟩ := up_pre (show Up w72 _ from (by repeat (first | exact Chg.refl _ _ | apply Chg.drew | apply Chg.drewN | refine Chg.alloc ?_ _))) G2.out; have U_77 := Lib.hid (Chg.trans U_74.out (Chg.trans (by repeat (first | exact Chg.refl _ _ | apply Chg.drew | apply Chg.drewN | refine Chg.alloc ?_ _)) G2.out)); have X0_78 := Lib.hid (X0_75.out.up (Chg.trans (by repeat (first | exact Chg.refl _ _ | apply Chg.drew | apply Chg.drewN | refine Chg.alloc ?_ _)) G2.out)); have C0_79 := Lib.hid (C0_76.out.up (Chg.trans (by repeat (first | exact Chg.refl _ _ | apply Chg.drew | apply Chg.drewN | refine Chg.alloc ?_ _)) G2.out))))
  have q0_0_80 := Chg.cell (Chg.trans (Chg.trans (by repeat (first | exact Chg.refl _ _ | apply Chg.drew | apply Chg.drewN | refine Chg.alloc ?_ _)) G1.out) (Chg.trans (by repeat (first | exact Chg.refl _ _ | apply Chg.drew | apply Chg.drewN | refine Chg.alloc ?_ _)) G2.out)) q0_0_57 id
  have q0_1_81 := Chg.cell (Chg.trans (Chg.trans (by repeat (first | exact Chg.refl _ _ | apply Chg.drew | apply Chg.drewN | refine Chg.alloc ?_ _)) G1.out) (Chg.trans (by repeat (first | exact Chg.refl _ _ | apply Chg.drew | apply Chg.drewN | refine Chg.alloc ?_ _)) G2.out)) q0_1_58 id
  have q0_2_82 := Chg.cell (Chg.trans (Chg.trans (by repeat (first | exact Chg.refl _ _ | apply Chg.drew | apply Chg.drewN | refine Chg.alloc ?_ _)) G1.out) (Chg.trans (by repeat (first | exact Chg.refl _ _ | apply Chg.drew | apply Chg.drewN | refine Chg.alloc ?_ _)) G2.out)) q0_2_59 id
  have q0_3_83 := Chg.cell (Chg.trans (Chg.trans (by repeat (first | exact Chg.refl _ _ | apply Chg.drew | apply Chg.drewN | refine Chg.alloc ?_ _)) G1.out) (Chg.trans (by repeat (first | exact Chg.refl _ _ | apply Chg.drew | apply Chg.drewN | refine Chg.alloc ?_ _)) G2.out)) q0_3_60 id
  have q0_4_84 := Chg.cell (Chg.trans (Chg.trans (by repeat (first | exact Chg.refl _ _ | apply Chg.drew | apply Chg.drewN | refine Chg.alloc ?_ _)) G1.out) (Chg.trans (by repeat (first | exact Chg.refl _ _ | apply Chg.drew | apply Chg.drewN | refine Chg.alloc ?_ _)) G2.out)) q0_4_61 id
  have q0_5_85 := Chg.cell (Chg.trans (Chg.trans (by repeat (first | exact Chg.refl _ _ | apply Chg.drew | apply Chg.drewN | refine Chg.alloc ?_ _)) G1.out) (Chg.trans (by repeat (first | exact Chg.refl _ _ | apply Chg.drew | apply Chg.drewN | refine Chg.alloc ?_ _)) G2.out)) q0_5_62 id
  have q0_6_86 := Chg.cell (Chg.trans (Chg.trans (by repeat (first | exact Chg.refl _ _ | apply Chg.drew | apply Chg.drewN | refine Chg.alloc ?_ _)) G1.out) (Chg.trans (by repeat (first | exact Chg.refl _ _ | apply Chg.drew | apply Chg.drewN | refine Chg.alloc ?_ _)) G2.out)) q0_6_63 id
  obtain ⟨x0_0_87c, x0_0_87f⟩ := CellF.up (Chg.trans (Chg.trans (by repeat (first | exact Chg.refl _ _ | apply Chg.drew | apply Chg.drewN | refine Chg.alloc ?_ _)) G1.out) (Chg.trans (by repeat (first | exact Chg.refl _ _ | apply Chg.drew | apply Chg.drewN | refine Chg.alloc ?_ _)) G2.out)) ⟨x0_0_65c, x0_0_65f⟩
  obtain ⟨x0_1_88c, x0_1_88f⟩ := CellF.up (Chg.trans (Chg.trans (by repeat (first | exact Chg.refl _ _ | apply Chg.drew | apply Chg.drewN | refine Chg.alloc ?_ _)) G1.out) (Chg.trans (by repeat (first | exact Chg.refl _ _ | apply Chg.drew | apply Chg.drewN | refine Chg.alloc ?_ _)) G2.out)) ⟨x0_1_66c, x0_1_66f⟩
  obtain ⟨x0_2_89c, x0_2_89f⟩ := CellF.up (Chg.trans (Chg.trans (by repeat (first | exact Chg.refl _ _ | apply Chg.drew | apply Chg.drewN | refine Chg.alloc ?_ _)) G1.out) (Chg.trans (by repeat (first | exact Chg.refl _ _ | apply Chg.drew | apply Chg.drewN | refine Chg.alloc ?_ _)) G2.out)) ⟨x0_2_67c, x0_2_67f⟩
  obtain ⟨x0_3_90c, x0_3_90f⟩ := CellF.up (Chg.trans (Chg.trans (by repeat (first | exact Chg.refl _ _ | apply Chg.drew | apply Chg.drewN | refine Chg.alloc ?_ _)) G1.out) (Chg.trans (by repeat (first | exact Chg.refl _ _ | apply Chg.drew | apply Chg.drewN | refine Chg.alloc ?_ _)) G2.out)) ⟨x0_3_68c, x0_3_68f⟩
  obtain ⟨x0_4_91c, x0_4_91f⟩ := CellF.up (Chg.trans (Chg.trans (by repeat (first | exact Chg.refl _ _ | apply Chg.drew | apply Chg.drewN | refine Chg.alloc ?_ _)) G1.out) (Chg.trans (by repeat (first | exact Chg.refl _ _ | apply Chg.drew | apply Chg.drewN | refine Chg.alloc ?_ _)) G2.out)) ⟨x0_4_69c, x0_4_69f⟩
  obtain ⟨x0_5_92c, x0_5_92f⟩ := CellF.up (Chg.trans (Chg.trans (by repeat (first | exact Chg.refl _ _ | apply Chg.drew | apply Chg.drewN | refine Chg.alloc ?_ _)) G1.out) (Chg.trans (by repeat (first | exact Chg.refl _ _ | apply Chg.drew | apply Chg.drewN | refine Chg.alloc ?_ _)) G2.out)) ⟨x0_5_70c, x0_5_70f⟩
  obtain ⟨x0_6_93c, x0_6_93f⟩ := CellF.up (Chg.trans (Chg.trans (by repeat (first | exact Chg.refl _ _ | apply Chg.drew | apply Chg.drewN | refine Chg.alloc ?_ _)) G1.out) (Chg.trans (by repeat (first | exact Chg.refl _ _ | apply Chg.drew | apply Chg.drewN | refine Chg.alloc ?_ _)) G2.out)) ⟨x0_6_71c, x0_6_71f⟩
  clear g1 G1 G2 K1
  clear U_55
  clear X0_56
  clear q0_0_57
  clear q0_1_58
  clear q0_2_59
  clear q0_3_60
  clear q0_4_61
  clear q0_5_62
  clear q0_6_63
  clear C0_64
  clear x0_0_65c x0_0_65f
  clear x0_1_66c x0_1_66f
  clear x0_2_67c x0_2_67f
  clear x0_3_68c x0_3_68f
  clear x0_4_69c x0_4_69f
  clear x0_5_70c x0_5_70f
  clear x0_6_71c x0_6_71f
  clear U_74
  clear X0_75
  clear C0_76
  go_wp2
  go_ret
  exact ⟨rfl, Up.below (Chg.trans U_77.out (by repeat (first | exact Chg.refl _ _ | apply Chg.drew | apply Chg.drewN | refine Chg.alloc ?_ _)))⟩
set_option maxRecDepth 100000 in
theorem walk (w : World) (v0 : Value) (a0 : MacM) (ha0 : MacA w (fun b => b < w.heap.size) v0 a0) (a1 : Int) (ia1 : I64 a1) :
    Calls Try.prog 3 #[v0, .int .i64 a1] w fun e w' => e = .returned (.bool true) ∧ Below w.heap.size w w' := by
  by_cases hbt : (szMc a0 : Int) ≤ 1048576
  rotate_left
  · skip
    obtain ⟨Fa0, fa0, Ba0, ba0, Ca0, ca0, La0, la0, Da0, da0, rfl, y0⟩ := openMac ha0
    have X0 := Lib.hid ha0
    clear ha0 y0
    have U0 := Lib.hid (Chg.refl Nowhere w)
    have hd : decide ((-1 : Int) < 0) = true := rfl
    have U_1 := Lib.hid (Chg.trans U0.out ((Chg.refl Nowhere w).alloc (.cells #[.int .i64 a0.wd, .int .i64 a0.rk, .slice Fa0 a0.fr.length fa0, .slice Ba0 a0.bk.length ba0, .slice Ca0 a0.cs.length ca0, .slice La0 a0.ls.length la0, .slice Da0 a0.dr.length da0] 27)))
    clear U0
    have X_2 := Lib.hid (X0.out.up ((Chg.refl Nowhere w).alloc (.cells #[.int .i64 a0.wd, .int .i64 a0.rk, .slice Fa0 a0.fr.length fa0, .slice Ba0 a0.bk.length ba0, .slice Ca0 a0.cs.length ca0, .slice La0 a0.ls.length la0, .slice Da0 a0.dr.length da0] 27)))
    clear X0
    have q0_3 := (show (w.alloc (.cells #[.int .i64 a0.wd, .int .i64 a0.rk, .slice Fa0 a0.fr.length fa0, .slice Ba0 a0.bk.length ba0, .slice Ca0 a0.cs.length ca0, .slice La0 a0.ls.length la0, .slice Da0 a0.dr.length da0] 27)).cell? ⟨w.heap.size, 0, none⟩ = some (.int .i64 a0.wd) from cell_new _ _ _ _)
    have q1_4 := (show (w.alloc (.cells #[.int .i64 a0.wd, .int .i64 a0.rk, .slice Fa0 a0.fr.length fa0, .slice Ba0 a0.bk.length ba0, .slice Ca0 a0.cs.length ca0, .slice La0 a0.ls.length la0, .slice Da0 a0.dr.length da0] 27)).cell? ⟨w.heap.size, 1, none⟩ = some (.int .i64 a0.rk) from cell_new _ _ _ _)
    have q2_5 := (show (w.alloc (.cells #[.int .i64 a0.wd, .int .i64 a0.rk, .slice Fa0 a0.fr.length fa0, .slice Ba0 a0.bk.length ba0, .slice Ca0 a0.cs.length ca0, .slice La0 a0.ls.length la0, .slice Da0 a0.dr.length da0] 27)).cell? ⟨w.heap.size, 2, none⟩ = some (.slice Fa0 a0.fr.length fa0) from cell_new _ _ _ _)
    have q3_6 := (show (w.alloc (.cells #[.int .i64 a0.wd, .int .i64 a0.rk, .slice Fa0 a0.fr.length fa0, .slice Ba0 a0.bk.length ba0, .slice Ca0 a0.cs.length ca0, .slice La0 a0.ls.length la0, .slice Da0 a0.dr.length da0] 27)).cell? ⟨w.heap.size, 3, none⟩ = some (.slice Ba0 a0.bk.length ba0) from cell_new _ _ _ _)
    have q4_7 := (show (w.alloc (.cells #[.int .i64 a0.wd, .int .i64 a0.rk, .slice Fa0 a0.fr.length fa0, .slice Ba0 a0.bk.length ba0, .slice Ca0 a0.cs.length ca0, .slice La0 a0.ls.length la0, .slice Da0 a0.dr.length da0] 27)).cell? ⟨w.heap.size, 4, none⟩ = some (.slice Ca0 a0.cs.length ca0) from cell_new _ _ _ _)
    have q5_8 := (show (w.alloc (.cells #[.int .i64 a0.wd, .int .i64 a0.rk, .slice Fa0 a0.fr.length fa0, .slice Ba0 a0.bk.length ba0, .slice Ca0 a0.cs.length ca0, .slice La0 a0.ls.length la0, .slice Da0 a0.dr.length da0] 27)).cell? ⟨w.heap.size, 5, none⟩ = some (.slice La0 a0.ls.length la0) from cell_new _ _ _ _)
    have q6_9 := (show (w.alloc (.cells #[.int .i64 a0.wd, .int .i64 a0.rk, .slice Fa0 a0.fr.length fa0, .slice Ba0 a0.bk.length ba0, .slice Ca0 a0.cs.length ca0, .slice La0 a0.ls.length la0, .slice Da0 a0.dr.length da0] 27)).cell? ⟨w.heap.size, 6, none⟩ = some (.slice Da0 a0.dr.length da0) from cell_new _ _ _ _)
    have hbx10 : w.heap.size < (w.alloc (.cells #[.int .i64 a0.wd, .int .i64 a0.rk, .slice Fa0 a0.fr.length fa0, .slice Ba0 a0.bk.length ba0, .slice Ca0 a0.cs.length ca0, .slice La0 a0.ls.length la0, .slice Da0 a0.dr.length da0] 27)).heap.size := by simp
    go_enter Try.func3, Try.ntmps3
    go_wp2_with fail
    refine (szMacA_no _ _ _ a0 1048576 (by omega) (by omega) (X_2.out.up (by repeat (first | exact Chg.refl _ _ | apply Chg.drew | apply Chg.drewN | refine Chg.alloc ?_ _)))).mono ?_
    rintro e w11 ⟨rfl, g1⟩
    have G1 := Lib.hid g1
    have hz11 := G1.out.size
    clear g1
    have U_12 := Lib.hid (Chg.trans U_1.out (Chg.trans (by repeat (first | exact Chg.refl _ _ | apply Chg.drew | apply Chg.drewN | refine Chg.alloc ?_ _)) G1.out))
    clear U_1
    have X_13 := Lib.hid (X_2.out.up (Chg.trans (by repeat (first | exact Chg.refl _ _ | apply Chg.drew | apply Chg.drewN | refine Chg.alloc ?_ _)) G1.out))
    clear X_2
    have q0_14 := Chg.cell (Chg.trans (by repeat (first | exact Chg.refl _ _ | apply Chg.drew | apply Chg.drewN | refine Chg.alloc ?_ _)) G1.out) q0_3 id
    clear q0_3
    have q1_15 := Chg.cell (Chg.trans (by repeat (first | exact Chg.refl _ _ | apply Chg.drew | apply Chg.drewN | refine Chg.alloc ?_ _)) G1.out) q1_4 id
    clear q1_4
    have q2_16 := Chg.cell (Chg.trans (by repeat (first | exact Chg.refl _ _ | apply Chg.drew | apply Chg.drewN | refine Chg.alloc ?_ _)) G1.out) q2_5 id
    clear q2_5
    have q3_17 := Chg.cell (Chg.trans (by repeat (first | exact Chg.refl _ _ | apply Chg.drew | apply Chg.drewN | refine Chg.alloc ?_ _)) G1.out) q3_6 id
    clear q3_6
    have q4_18 := Chg.cell (Chg.trans (by repeat (first | exact Chg.refl _ _ | apply Chg.drew | apply Chg.drewN | refine Chg.alloc ?_ _)) G1.out) q4_7 id
    clear q4_7
    have q5_19 := Chg.cell (Chg.trans (by repeat (first | exact Chg.refl _ _ | apply Chg.drew | apply Chg.drewN | refine Chg.alloc ?_ _)) G1.out) q5_8 id
    clear q5_8
    have q6_20 := Chg.cell (Chg.trans (by repeat (first | exact Chg.refl _ _ | apply Chg.drew | apply Chg.drewN | refine Chg.alloc ?_ _)) G1.out) q6_9 id
    clear q6_9
    clear G1
    go_wp2
    go_ret
    exact ⟨rfl, Up.below (Chg.trans U_12.out (by repeat (first | exact Chg.refl _ _ | apply Chg.drew | apply Chg.drewN | refine Chg.alloc ?_ _)))⟩
  exact walk0 w v0 a0 ha0 a1 ia1 hbt
end fnExactIsAtRest
end Go.Proofs.Ytobgbnpgledabaa
