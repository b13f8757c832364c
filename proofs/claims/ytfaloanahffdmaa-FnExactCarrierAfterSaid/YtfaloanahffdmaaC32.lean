/- The program's CarrierAfter answers as the reference's, for every row, number of columns and place; what it is given stays as it was. No condition. -/
import Derived.Test.YtfaloanahffdmaaRowOps7
namespace Go.Proofs.Ytfaloanahffdmaa
open Go.ChangeShapes Go.WideShapes Go.ChangeAt Go.RowKit
namespace fnExactCarrierAfter
set_option linter.unusedVariables false in
set_option maxRecDepth 100000 in
set_option maxHeartbeats 8000000 in
theorem walk0 (w : World) (v0 : Value) (a0 : RowM) (ha0 : RowV w (fun b => b < w.heap.size) v0 a0) (a1 : Int) (ia1 : I64 a1) (a2 : Int) (ia2 : I64 a2)  (hbt : (a0.xs.length : Int) ≤ 1048576) :
    Calls Try.prog 16 #[v0, .int .i64 a1, .int .i64 a2] w fun e w' => e = .returned (.bool true) ∧ Below w.heap.size w w' := by
  have U0 := Lib.hid (Chg.refl Nowhere w)
  obtain ⟨A0, c0, rfl, y0, hl0, hc0⟩ := openRow ha0
  have X0 := Lib.hid ha0
  clear ha0 y0
  have U_1 := Lib.hid (Chg.trans U0.out ((Chg.refl Nowhere w).alloc (.cells #[.int .i64 a0.d, .int .i64 a0.c, .slice A0 a0.xs.length c0] 52)))
  clear U0
  have X0_2 := Lib.hid (X0.out.up ((Chg.refl Nowhere w).alloc (.cells #[.int .i64 a0.d, .int .i64 a0.c, .slice A0 a0.xs.length c0] 52)))
  clear X0
  have q0_0_3 := (show (w.alloc (.cells #[.int .i64 a0.d, .int .i64 a0.c, .slice A0 a0.xs.length c0] 52)).cell? ⟨w.heap.size, 0, none⟩ = some (.int .i64 a0.d) from cell_new _ _ _ _)
  have q0_1_4 := (show (w.alloc (.cells #[.int .i64 a0.d, .int .i64 a0.c, .slice A0 a0.xs.length c0] 52)).cell? ⟨w.heap.size, 1, none⟩ = some (.int .i64 a0.c) from cell_new _ _ _ _)
  have q0_2_5 := (show (w.alloc (.cells #[.int .i64 a0.d, .int .i64 a0.c, .slice A0 a0.xs.length c0] 52)).cell? ⟨w.heap.size, 2, none⟩ = some (.slice A0 a0.xs.length c0) from cell_new _ _ _ _)
  have hbx6 : w.heap.size < (w.alloc (.cells #[.int .i64 a0.d, .int .i64 a0.c, .slice A0 a0.xs.length c0] 52)).heap.size := by simp
  have hr0 : a0.xs.length ≤ 1048576 := by omega
  go_enter Try.func16, Try.ntmps16
  have hd0 : decide ((1048576 : Int) - a0.xs.length < 0) = false := decide_eq_false (by omega)
  go_wp2_with fail
  refine (szRow_ok _ _ _ a0 (1048576) (by omega) (by omega) (X0_2.out.up (by repeat (first | exact Chg.refl _ _ | apply Chg.drew | apply Chg.drewN | refine Chg.alloc ?_ _)))).mono ?_
  rintro e w7 ⟨rfl, g1⟩
  have G1 := Lib.hid g1
  obtain ⟨hy7, hz7⟩ := up_pre (show Up (w.alloc (.cells #[.int .i64 a0.d, .int .i64 a0.c, .slice A0 a0.xs.length c0] 52)) _ from (by repeat (first | exact Chg.refl _ _ | apply Chg.drew | apply Chg.drewN | refine Chg.alloc ?_ _))) G1.out
  clear g1
  have U_8 := Lib.hid (Chg.trans U_1.out (Chg.trans (by repeat (first | exact Chg.refl _ _ | apply Chg.drew | apply Chg.drewN | refine Chg.alloc ?_ _)) G1.out))
  clear U_1
  have X0_9 := Lib.hid (X0_2.out.up (Chg.trans (by repeat (first | exact Chg.refl _ _ | apply Chg.drew | apply Chg.drewN | refine Chg.alloc ?_ _)) G1.out))
  clear X0_2
  have q0_0_10 := Chg.cell (Chg.trans (by repeat (first | exact Chg.refl _ _ | apply Chg.drew | apply Chg.drewN | refine Chg.alloc ?_ _)) G1.out) q0_0_3 id
  clear q0_0_3
  have q0_1_11 := Chg.cell (Chg.trans (by repeat (first | exact Chg.refl _ _ | apply Chg.drew | apply Chg.drewN | refine Chg.alloc ?_ _)) G1.out) q0_1_4 id
  clear q0_1_4
  have q0_2_12 := Chg.cell (Chg.trans (by repeat (first | exact Chg.refl _ _ | apply Chg.drew | apply Chg.drewN | refine Chg.alloc ?_ _)) G1.out) q0_2_5 id
  clear q0_2_5
  clear G1
  go_wp2_with fail
  refine (toRow_any _ _ _ a0 (by unfold cntInts; omega) (X0_9.out.up (by repeat (first | exact Chg.refl _ _ | apply Chg.drew | apply Chg.drewN | refine Chg.alloc ?_ _)))).mono ?_
  rintro e w13 ⟨v13, rfl, k1, g1⟩
  have K1 := Lib.hid k1
  clear k1
  have G1 := Lib.hid g1
  obtain ⟨hy13, hz13⟩ := up_pre (show Up w7 _ from (by repeat (first | exact Chg.refl _ _ | apply Chg.drew | apply Chg.drewN | refine Chg.alloc ?_ _))) G1.out
  clear g1
  have U_14 := Lib.hid (Chg.trans U_8.out (Chg.trans (by repeat (first | exact Chg.refl _ _ | apply Chg.drew | apply Chg.drewN | refine Chg.alloc ?_ _)) G1.out))
  clear U_8
  have X0_15 := Lib.hid (X0_9.out.up (Chg.trans (by repeat (first | exact Chg.refl _ _ | apply Chg.drew | apply Chg.drewN | refine Chg.alloc ?_ _)) G1.out))
  clear X0_9
  have q0_0_16 := Chg.cell (Chg.trans (by repeat (first | exact Chg.refl _ _ | apply Chg.drew | apply Chg.drewN | refine Chg.alloc ?_ _)) G1.out) q0_0_10 id
  clear q0_0_10
  have q0_1_17 := Chg.cell (Chg.trans (by repeat (first | exact Chg.refl _ _ | apply Chg.drew | apply Chg.drewN | refine Chg.alloc ?_ _)) G1.out) q0_1_11 id
  clear q0_1_11
  have q0_2_18 := Chg.cell (Chg.trans (by repeat (first | exact Chg.refl _ _ | apply Chg.drew | apply Chg.drewN | refine Chg.alloc ?_ _)) G1.out) q0_2_12 id
  clear q0_2_12
  clear G1
  have B0_19 := Lib.hid (K1.out)
  clear K1
  obtain ⟨As13, cs13, rfl, ys13, hls13, hcs13⟩ := openRow B0_19.out
  clear ys13
  go_wp2_with fail
  refine (sCarrierAfter_any _ _ _ a0 (B0_19.out.up (by repeat (first | exact Chg.refl _ _ | apply Chg.drew | apply Chg.drewN | refine Chg.alloc ?_ _))) a1 a2).mono ?_
  rintro e w20 ⟨rfl, g1⟩
  have G1 := Lib.hid g1
  obtain ⟨hy20, hz20⟩ := up_pre (show Up w13 _ from (by repeat (first | exact Chg.refl _ _ | apply Chg.drew | apply Chg.drewN | refine Chg.alloc ?_ _))) G1.out
  clear g1
  have U_21 := Lib.hid (Chg.trans U_14.out (Chg.trans (by repeat (first | exact Chg.refl _ _ | apply Chg.drew | apply Chg.drewN | refine Chg.alloc ?_ _)) G1.out))
  clear U_14
  have X0_22 := Lib.hid (X0_15.out.up (Chg.trans (by repeat (first | exact Chg.refl _ _ | apply Chg.drew | apply Chg.drewN | refine Chg.alloc ?_ _)) G1.out))
  clear X0_15
  have q0_0_23 := Chg.cell (Chg.trans (by repeat (first | exact Chg.refl _ _ | apply Chg.drew | apply Chg.drewN | refine Chg.alloc ?_ _)) G1.out) q0_0_16 id
  clear q0_0_16
  have q0_1_24 := Chg.cell (Chg.trans (by repeat (first | exact Chg.refl _ _ | apply Chg.drew | apply Chg.drewN | refine Chg.alloc ?_ _)) G1.out) q0_1_17 id
  clear q0_1_17
  have q0_2_25 := Chg.cell (Chg.trans (by repeat (first | exact Chg.refl _ _ | apply Chg.drew | apply Chg.drewN | refine Chg.alloc ?_ _)) G1.out) q0_2_18 id
  clear q0_2_18
  have B0_26 := Lib.hid (B0_19.out.up (Chg.trans (by repeat (first | exact Chg.refl _ _ | apply Chg.drew | apply Chg.drewN | refine Chg.alloc ?_ _)) G1.out))
  clear B0_19
  clear G1
  clear B0_26
  go_wp2_with fail
  refine (toRow_any _ _ _ a0 (by unfold cntInts; omega) (X0_22.out.up (by repeat (first | exact Chg.refl _ _ | apply Chg.drew | apply Chg.drewN | refine Chg.alloc ?_ _)))).mono ?_
  rintro e w27 ⟨v27, rfl, k1, g1⟩
  have K1 := Lib.hid k1
  clear k1
  have G1 := Lib.hid g1
  obtain ⟨hy27, hz27⟩ := up_pre (show Up w20 _ from (by repeat (first | exact Chg.refl _ _ | apply Chg.drew | apply Chg.drewN | refine Chg.alloc ?_ _))) G1.out
  clear g1
  have U_28 := Lib.hid (Chg.trans U_21.out (Chg.trans (by repeat (first | exact Chg.refl _ _ | apply Chg.drew | apply Chg.drewN | refine Chg.alloc ?_ _)) G1.out))
  clear U_21
  have X0_29 := Lib.hid (X0_22.out.up (Chg.trans (by repeat (first | exact Chg.refl _ _ | apply Chg.drew | apply Chg.drewN | refine Chg.alloc ?_ _)) G1.out))
  clear X0_22
  have q0_0_30 := Chg.cell (Chg.trans (by repeat (first | exact Chg.refl _ _ | apply Chg.drew | apply Chg.drewN | refine Chg.alloc ?_ _)) G1.out) q0_0_23 id
  clear q0_0_23
  have q0_1_31 := Chg.cell (Chg.trans (by repeat (first | exact Chg.refl _ _ | apply Chg.drew | apply Chg.drewN | refine Chg.alloc ?_ _)) G1.out) q0_1_24 id
  clear q0_1_24
  have q0_2_32 := Chg.cell (Chg.trans (by repeat (first | exact Chg.refl _ _ | apply Chg.drew | apply Chg.drewN | refine Chg.alloc ?_ _)) G1.out) q0_2_25 id
  clear q0_2_25
  clear G1
  have C0_33 := Lib.hid (K1.out)
  clear K1
  obtain ⟨As27, cs27, rfl, ys27, hls27, hcs27⟩ := openRow C0_33.out
  clear ys27
  go_wp2_with fail
  refine (CarrierAfter_any _ _ _ a0 (C0_33.out.up (by repeat (first | exact Chg.refl _ _ | apply Chg.drew | apply Chg.drewN | refine Chg.alloc ?_ _))) a1 a2).mono ?_
  rintro e w34 ⟨rfl, g1⟩
  have G1 := Lib.hid g1
  obtain ⟨hy34, hz34⟩ := up_pre (show Up w27 _ from (by repeat (first | exact Chg.refl _ _ | apply Chg.drew | apply Chg.drewN | refine Chg.alloc ?_ _))) G1.out
  clear g1
  have U_35 := Lib.hid (Chg.trans U_28.out (Chg.trans (by repeat (first | exact Chg.refl _ _ | apply Chg.drew | apply Chg.drewN | refine Chg.alloc ?_ _)) G1.out))
  clear U_28
  have X0_36 := Lib.hid (X0_29.out.up (Chg.trans (by repeat (first | exact Chg.refl _ _ | apply Chg.drew | apply Chg.drewN | refine Chg.alloc ?_ _)) G1.out))
  clear X0_29
  have q0_0_37 := Chg.cell (Chg.trans (by repeat (first | exact Chg.refl _ _ | apply Chg.drew | apply Chg.drewN | refine Chg.alloc ?_ _)) G1.out) q0_0_30 id
  clear q0_0_30
  have q0_1_38 := Chg.cell (Chg.trans (by repeat (first | exact Chg.refl _ _ | apply Chg.drew | apply Chg.drewN | refine Chg.alloc ?_ _)) G1.out) q0_1_31 id
  clear q0_1_31
  have q0_2_39 := Chg.cell (Chg.trans (by repeat (first | exact Chg.refl _ _ | apply Chg.drew | apply Chg.drewN | refine Chg.alloc ?_ _)) G1.out) q0_2_32 id
  clear q0_2_32
  have C0_40 := Lib.hid (C0_33.out.up (Chg.trans (by repeat (first | exact Chg.refl _ _ | apply Chg.drew | apply Chg.drewN | refine Chg.alloc ?_ _)) G1.out))
  clear C0_33
  obtain ⟨x0_0_41c, x0_0_41f⟩ := (show CellF w34 ⟨w27.heap.size, 0, none⟩ (.int .i64 a0.d) from CellF.up G1.out (by repeat (first | ((refine cellF_at ?_ rfl); (simp; done)) | refine CellF.up ((Chg.refl _ _).alloc _) ?_)))
  obtain ⟨x0_1_42c, x0_1_42f⟩ := (show CellF w34 ⟨w27.heap.size, 1, none⟩ (.int .i64 a0.c) from CellF.up G1.out (by repeat (first | ((refine cellF_at ?_ rfl); (simp; done)) | refine CellF.up ((Chg.refl _ _).alloc _) ?_)))
  obtain ⟨x0_2_43c, x0_2_43f⟩ := (show CellF w34 ⟨w27.heap.size, 2, none⟩ (.slice As27 a0.xs.length cs27) from CellF.up G1.out (by repeat (first | ((refine cellF_at ?_ rfl); (simp; done)) | refine CellF.up ((Chg.refl _ _).alloc _) ?_)))
  clear G1
  go_wp2
  go_region_held3 (fun w' => w'.cell? ⟨w.heap.size, 0, none⟩ = some (.int .i64 a0.d) ∧ w'.cell? ⟨w.heap.size, 1, none⟩ = some (.int .i64 a0.c) ∧ w'.cell? ⟨w.heap.size, 2, none⟩ = some (.slice A0 a0.xs.length c0) ∧ w'.cell? ⟨w27.heap.size, 0, none⟩ = some (.int .i64 a0.d) ∧ w'.cell? ⟨w27.heap.size, 1, none⟩ = some (.int .i64 a0.c) ∧ w'.cell? ⟨w27.heap.size, 2, none⟩ = some (.slice As27 a0.xs.length cs27))
      (first | (exact ⟨q0_0_37, q0_1_38, q0_2_39, x0_0_41c, x0_1_42c, x0_2_43c⟩) | (obtain ⟨p0, p1, p2, p3, p4, p5⟩ : (World.cell? _ _ = _ ∧ World.cell? _ _ = _ ∧ World.cell? _ _ = _ ∧ World.cell? _ _ = _ ∧ World.cell? _ _ = _ ∧ World.cell? _ _ = _) := (by assumption); exact ⟨Chg.cell g1 p0 id, Chg.cell g1 p1 id, Chg.cell g1 p2 id, Chg.cell g1 p3 id, Chg.cell g1 p4 id, Chg.cell g1 p5 id⟩))
      (first | (go_at_call 39; refine (toRow_any _ _ _ a0 (by unfold cntInts; omega) (X0_36.out.up (by repeat (first | exact Chg.refl _ _ | apply Chg.drew | apply Chg.drewN | refine Chg.alloc ?_ _)))).mono ?_; rintro e w44 ⟨v44, rfl, k1, g1⟩; obtain ⟨As44, cs44, rfl, ys44, hls44, hcs44⟩ := openRow k1; have K1 := Lib.hid k1; clear k1 ys44; have G1 := Lib.hid g1; obtain ⟨hy44, hz44⟩ := up_pre (show Up w34 _ from (by repeat (first | exact Chg.refl _ _ | apply Chg.drew | apply Chg.drewN | refine Chg.alloc ?_ _))) G1.out; have U_46 := Lib.hid (Chg.trans U_35.out (Chg.trans (by repeat (first | exact Chg.refl _ _ | apply Chg.drew | apply Chg.drewN | refine Chg.alloc ?_ _)) G1.out)); have X0_47 := Lib.hid (X0_36.out.up (Chg.trans (by repeat (first | exact Chg.refl _ _ | apply Chg.drew | apply Chg.drewN | refine Chg.alloc ?_ _)) G1.out)); have C0_48 := Lib.hid (C0_40.out.up (Chg.trans (by repeat (first | exact Chg.refl _ _ | apply Chg.drew | apply Chg.drewN | refine Chg.alloc ?_ _)) G1.out))) | (go_at_call 41; refine (eqRow_same _ _ _ _ _ a0 (C0_48.out.up (by repeat (first | exact Chg.refl _ _ | apply Chg.drew | apply Chg.drewN | refine Chg.alloc ?_ _))) (K1.out.up (by repeat (first | exact Chg.refl _ _ | apply Chg.drew | apply Chg.drewN | refine Chg.alloc ?_ _)))).mono ?_; rintro e w45 ⟨rfl, g1⟩; have G2 := Lib.hid g1; obtain ⟨hy45, hz45⟩ := up_pre (show Up w44 _ from (by repeat (first | exact Chg.refl _ _ | apply Chg.drew | apply Chg.drewN | refine Chg.alloc ?_ _))) G2.out; have U_49 := Lib.hid (Chg.trans U_46.out (Chg.trans (by repeat (first | exact Chg.refl _ _ | apply Chg.drew | apply Chg.drewN | refine Chg.alloc ?_ _)) G2.out)); have X0_50 := Lib.hid (X0_47.out.up (Chg.trans (by repeat (first | exact Chg.refl _ _ | apply Chg.drew | apply Chg.drewN | refine Chg.alloc ?_ _)) G2.out)); have C0_51 := Lib.hid (C0_48.out.up (Chg.trans (by repeat (first | exact Chg.refl _ _ | apply Chg.drew | apply Chg.drewN | refine Chg.alloc ?_ _)) G2.out))))
  have q0_0_52 := Chg.cell (Chg.trans (Chg.trans (by repeat (first | exact Chg.refl _ _ | apply Chg.drew | apply Chg.drewN | refine Chg.alloc ?_ _)) G1.out) (Chg.trans (by repeat (first | exact Chg.refl _ _ | apply Chg.drew | apply Chg.drewN | refine Chg.alloc ?_ _)) G2.out)) q0_0_37 id
  have q0_1_53 := Chg.cell (Chg.trans (Chg.trans (by repeat (first | exact Chg.refl _ _ | apply Chg.drew | apply Chg.drewN | refine Chg.alloc ?_ _)) G1.out) (Chg.trans (by repeat (first | exact Chg.refl _ _ | apply Chg.drew | apply Chg.drewN | refine Chg.alloc ?_ _)) G2.out)) q0_1_38 id
  have q0_2_54 := Chg.cell (Chg.trans (Chg.trans (by repeat (first | exact Chg.refl _ _ | apply Chg.drew | apply Chg.drewN | refine Chg.alloc ?_ _)) G1.out) (Chg.trans (by repeat (first | exact Chg.refl _ _ | apply Chg.drew | apply Chg.drewN | refine Chg.alloc ?_ _)) G2.out)) q0_2_39 id
  obtain ⟨x0_0_55c, x0_0_55f⟩ := CellF.up (Chg.trans (Chg.trans (by repeat (first | exact Chg.refl _ _ | apply Chg.drew | apply Chg.drewN | refine Chg.alloc ?_ _)) G1.out) (Chg.trans (by repeat (first | exact Chg.refl _ _ | apply Chg.drew | apply Chg.drewN | refine Chg.alloc ?_ _)) G2.out)) ⟨x0_0_41c, x0_0_41f⟩
  obtain ⟨x0_1_56c, x0_1_56f⟩ := CellF.up (Chg.trans (Chg.trans (by repeat (first | exact Chg.refl _ _ | apply Chg.drew | apply Chg.drewN | refine Chg.alloc ?_ _)) G1.out) (Chg.trans (by repeat (first | exact Chg.refl _ _ | apply Chg.drew | apply Chg.drewN | refine Chg.alloc ?_ _)) G2.out)) ⟨x0_1_42c, x0_1_42f⟩
  obtain ⟨x0_2_57c, x0_2_57f⟩ := CellF.up (Chg.trans (Chg.trans (by repeat (first | exact Chg.refl _ _ | apply Chg.drew | apply Chg.drewN | refine Chg.alloc ?_ _)) G1.out) (Chg.trans (by repeat (first | exact Chg.refl _ _ | apply Chg.drew | apply Chg.drewN | refine Chg.alloc ?_ _)) G2.out)) ⟨x0_2_43c, x0_2_43f⟩
  clear g1 G1 G2 K1
  clear U_35
  clear X0_36
  clear q0_0_37
  clear q0_1_38
  clear q0_2_39
  clear C0_40
  clear x0_0_41c x0_0_41f
  clear x0_1_42c x0_1_42f
  clear x0_2_43c x0_2_43f
  clear U_46
  clear X0_47
  clear C0_48
  go_wp2
  go_ret
  exact ⟨rfl, Up.below (Chg.trans U_49.out (by repeat (first | exact Chg.refl _ _ | apply Chg.drew | apply Chg.drewN | refine Chg.alloc ?_ _)))⟩
set_option maxRecDepth 100000 in
theorem walk (w : World) (v0 : Value) (a0 : RowM) (ha0 : RowV w (fun b => b < w.heap.size) v0 a0) (a1 : Int) (ia1 : I64 a1) (a2 : Int) (ia2 : I64 a2) :
    Calls Try.prog 16 #[v0, .int .i64 a1, .int .i64 a2] w fun e w' => e = .returned (.bool true) ∧ Below w.heap.size w w' := by
  by_cases hbt : (a0.xs.length : Int) ≤ 1048576
  rotate_left
  · skip
    obtain ⟨A0, c0, rfl, y0, hl0, hc0⟩ := openRow ha0
    have X0 := Lib.hid ha0
    clear ha0 y0
    have U0 := Lib.hid (Chg.refl Nowhere w)
    have hd : decide ((-1 : Int) < 0) = true := rfl
    have U_1 := Lib.hid (Chg.trans U0.out ((Chg.refl Nowhere w).alloc (.cells #[.int .i64 a0.d, .int .i64 a0.c, .slice A0 a0.xs.length c0] 52)))
    clear U0
    have X_2 := Lib.hid (X0.out.up ((Chg.refl Nowhere w).alloc (.cells #[.int .i64 a0.d, .int .i64 a0.c, .slice A0 a0.xs.length c0] 52)))
    clear X0
    have q0_3 := (show (w.alloc (.cells #[.int .i64 a0.d, .int .i64 a0.c, .slice A0 a0.xs.length c0] 52)).cell? ⟨w.heap.size, 0, none⟩ = some (.int .i64 a0.d) from cell_new _ _ _ _)
    have q1_4 := (show (w.alloc (.cells #[.int .i64 a0.d, .int .i64 a0.c, .slice A0 a0.xs.length c0] 52)).cell? ⟨w.heap.size, 1, none⟩ = some (.int .i64 a0.c) from cell_new _ _ _ _)
    have q2_5 := (show (w.alloc (.cells #[.int .i64 a0.d, .int .i64 a0.c, .slice A0 a0.xs.length c0] 52)).cell? ⟨w.heap.size, 2, none⟩ = some (.slice A0 a0.xs.length c0) from cell_new _ _ _ _)
    have hbx6 : w.heap.size < (w.alloc (.cells #[.int .i64 a0.d, .int .i64 a0.c, .slice A0 a0.xs.length c0] 52)).heap.size := by simp
    go_enter Try.func16, Try.ntmps16
    go_wp2_with fail
    refine (szRow_no _ _ _ a0 1048576 (by omega) (by omega) (X_2.out.up (by repeat (first | exact Chg.refl _ _ | apply Chg.drew | apply Chg.drewN | refine Chg.alloc ?_ _)))).mono ?_
    rintro e w7 ⟨rfl, g1⟩
    have G1 := Lib.hid g1
    have hz7 := G1.out.size
    clear g1
    have U_8 := Lib.hid (Chg.trans U_1.out (Chg.trans (by repeat (first | exact Chg.refl _ _ | apply Chg.drew | apply Chg.drewN | refine Chg.alloc ?_ _)) G1.out))
    clear U_1
    have X_9 := Lib.hid (X_2.out.up (Chg.trans (by repeat (first | exact Chg.refl _ _ | apply Chg.drew | apply Chg.drewN | refine Chg.alloc ?_ _)) G1.out))
    clear X_2
    have q0_10 := Chg.cell (Chg.trans (by repeat (first | exact Chg.refl _ _ | apply Chg.drew | apply Chg.drewN | refine Chg.alloc ?_ _)) G1.out) q0_3 id
    clear q0_3
    have q1_11 := Chg.cell (Chg.trans (by repeat (first | exact Chg.refl _ _ | apply Chg.drew | apply Chg.drewN | refine Chg.alloc ?_ _)) G1.out) q1_4 id
    clear q1_4
    have q2_12 := Chg.cell (Chg.trans (by repeat (first | exact Chg.refl _ _ | apply Chg.drew | apply Chg.drewN | refine Chg.alloc ?_ _)) G1.out) q2_5 id
    clear q2_5
    clear G1
    go_wp2
    go_ret
    exact ⟨rfl, Up.below (Chg.trans U_8.out (by repeat (first | exact Chg.refl _ _ | apply Chg.drew | apply Chg.drewN | refine Chg.alloc ?_ _)))⟩
  exact walk0 w v0 a0 ha0 a1 ia1 a2 ia2 hbt
end fnExactCarrierAfter
end Go.Proofs.Ytfaloanahffdmaa
