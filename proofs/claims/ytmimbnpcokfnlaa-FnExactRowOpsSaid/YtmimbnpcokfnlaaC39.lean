/- The program's RowOps answers as the reference's, for every row, number of columns and place; what it is given stays as it was; its memory is its own. No condition. -/
import Derived.Test.YtmimbnpcokfnlaaRowOps9
namespace Go.Proofs.Ytmimbnpcokfnlaa
open Go.ChangeShapes Go.WideShapes Go.ChangeAt Go.RowKit
theorem rowOut_bd (r : RowM) (n a : Int) : cntOps (rowOut r n a) ≤ 40000 := by
  unfold cntOps rowOut
  split
  · rename_i h
    have hz := askM_zero h
    have h1 := preM_len (laid_of hz.1).len
    have h2 := rowTo_len hz.1 a hz.2.2
    rw [List.length_append]
    omega
  · simp
namespace fnExactRowOps
set_option linter.unusedVariables false in
set_option maxRecDepth 100000 in
set_option maxHeartbeats 8000000 in
theorem walk0 (w : World) (v0 : Value) (a0 : RowM) (ha0 : RowV w (fun b => b < w.heap.size) v0 a0) (a1 : Int) (ia1 : I64 a1) (a2 : Int) (ia2 : I64 a2)  (hbt : (a0.xs.length : Int) ≤ 1048576) :
    Calls Try.prog 10 #[v0, .int .i64 a1, .int .i64 a2] w fun e w' => e = .returned (.bool true) ∧ Below w.heap.size w w' := by
  have U0 := Lib.hid (Chg.refl Nowhere w)
  obtain ⟨A0, c0, rfl, y0, hl0, hc0⟩ := openRow ha0
  have X0 := Lib.hid ha0
  clear ha0 y0
  have U_1 := Lib.hid (Chg.trans U0.out ((Chg.refl Nowhere w).alloc (.cells #[.int .i64 a0.d, .int .i64 a0.c, .slice A0 a0.xs.length c0] 91)))
  clear U0
  have X0_2 := Lib.hid (X0.out.up ((Chg.refl Nowhere w).alloc (.cells #[.int .i64 a0.d, .int .i64 a0.c, .slice A0 a0.xs.length c0] 91)))
  clear X0
  have q0_0_3 := (show (w.alloc (.cells #[.int .i64 a0.d, .int .i64 a0.c, .slice A0 a0.xs.length c0] 91)).cell? ⟨w.heap.size, 0, none⟩ = some (.int .i64 a0.d) from cell_new _ _ _ _)
  have q0_1_4 := (show (w.alloc (.cells #[.int .i64 a0.d, .int .i64 a0.c, .slice A0 a0.xs.length c0] 91)).cell? ⟨w.heap.size, 1, none⟩ = some (.int .i64 a0.c) from cell_new _ _ _ _)
  have q0_2_5 := (show (w.alloc (.cells #[.int .i64 a0.d, .int .i64 a0.c, .slice A0 a0.xs.length c0] 91)).cell? ⟨w.heap.size, 2, none⟩ = some (.slice A0 a0.xs.length c0) from cell_new _ _ _ _)
  have hbx6 : w.heap.size < (w.alloc (.cells #[.int .i64 a0.d, .int .i64 a0.c, .slice A0 a0.xs.length c0] 91)).heap.size := by simp
  have hr0 : a0.xs.length ≤ 1048576 := by omega
  go_enter Try.func10, Try.ntmps10
  have hd0 : decide ((1048576 : Int) - a0.xs.length < 0) = false := decide_eq_false (by omega)
  go_wp2_with fail
  refine (szRow_ok _ _ _ a0 (1048576) (by omega) (by omega) (X0_2.out.up (by repeat (first | exact Chg.refl _ _ | apply Chg.drew | apply Chg.drewN | refine Chg.alloc ?_ _)))).mono ?_
  rintro e w7 ⟨rfl, g1⟩
  have G1 := Lib.hid g1
  obtain ⟨hy7, hz7⟩ := up_pre (show Up (w.alloc (.cells #[.int .i64 a0.d, .int .i64 a0.c, .slice A0 a0.xs.length c0] 91)) _ from (by repeat (first | exact Chg.refl _ _ | apply Chg.drew | apply Chg.drewN | refine Chg.alloc ?_ _))) G1.out
  clear g1
  have U_8 := Lib.hid (Chg.trans U_1.out (Chg.trans (by repeat (first | exact Chg.refl _ _ | apply Chg.drew | apply Chg.drewN | refine Chg.alloc ?_ _)) G1.out))
  clear U_1
  have X0_9 := Lib.hid (X0_2.out.up (Chg.trans (by repeat (first | exact Chg.refl _ _ | apply Chg.drew | apply Chg.drewN | refine Chg.alloc ?_ _)) G1.out))
  clear X0_2
  have q0_0_10 := Chg.cell (Chg.trans (by repeat (first | exact Chg.refl _ _ | apply Chg.drew | apply Chg.drewN | refine Chg.alloc ?_ _)) G1.out) q0_0_3 id
  clear q0_0_3
  have q0_1_11 := Chg.cell (Chg.trans (by repeat (first | exact Chg.refl _ _ | apply Chg.drew | apply Chg.drewN | refine Chg.alloc ?_ _)) G1.out) q0_1_4 id
  clear q0_1_4
  have q0_2_12 := Chg.cell (Chg.trans (by repeat (first | exact Chg.refl _ _ | apply Chg.drew | apply Chg.drewN | refine Chg.alloc ?_ _)) G1.out) q0_2_5 id
  clear q0_2_5
  clear G1
  go_wp2_with fail
  refine (toRow_any _ _ _ a0 (by unfold cntInts; omega) (X0_9.out.up (by repeat (first | exact Chg.refl _ _ | apply Chg.drew | apply Chg.drewN | refine Chg.alloc ?_ _)))).mono ?_
  rintro e w13 ⟨v13, rfl, k1, g1⟩
  have K1 := Lib.hid k1
  clear k1
  have G1 := Lib.hid g1
  obtain ⟨hy13, hz13⟩ := up_pre (show Up w7 _ from (by repeat (first | exact Chg.refl _ _ | apply Chg.drew | apply Chg.drewN | refine Chg.alloc ?_ _))) G1.out
  clear g1
  have U_14 := Lib.hid (Chg.trans U_8.out (Chg.trans (by repeat (first | exact Chg.refl _ _ | apply Chg.drew | apply Chg.drewN | refine Chg.alloc ?_ _)) G1.out))
  clear U_8
  have X0_15 := Lib.hid (X0_9.out.up (Chg.trans (by repeat (first | exact Chg.refl _ _ | apply Chg.drew | apply Chg.drewN | refine Chg.alloc ?_ _)) G1.out))
  clear X0_9
  have q0_0_16 := Chg.cell (Chg.trans (by repeat (first | exact Chg.refl _ _ | apply Chg.drew | apply Chg.drewN | refine Chg.alloc ?_ _)) G1.out) q0_0_10 id
  clear q0_0_10
  have q0_1_17 := Chg.cell (Chg.trans (by repeat (first | exact Chg.refl _ _ | apply Chg.drew | apply Chg.drewN | refine Chg.alloc ?_ _)) G1.out) q0_1_11 id
  clear q0_1_11
  have q0_2_18 := Chg.cell (Chg.trans (by repeat (first | exact Chg.refl _ _ | apply Chg.drew | apply Chg.drewN | refine Chg.alloc ?_ _)) G1.out) q0_2_12 id
  clear q0_2_12
  clear G1
  have B0_19 := Lib.hid (K1.out)
  clear K1
  obtain ⟨As13, cs13, rfl, ys13, hls13, hcs13⟩ := openRow B0_19.out
  clear ys13
  go_wp2_with fail
  refine (sRowOps_any _ _ _ a0 (B0_19.out.up (by repeat (first | exact Chg.refl _ _ | apply Chg.drew | apply Chg.drewN | refine Chg.alloc ?_ _))) a1 a2).mono ?_
  rintro e w20 ⟨v20, rfl, k1, g1⟩
  obtain ⟨A20, c20, rfl, hl20, hc20, -⟩ := k1.shape
  have K1 := Lib.hid k1
  clear k1
  have G1 := Lib.hid g1
  obtain ⟨hy20, hz20⟩ := up_pre (show Up w13 _ from (by repeat (first | exact Chg.refl _ _ | apply Chg.drew | apply Chg.drewN | refine Chg.alloc ?_ _))) G1.out
  clear g1
  have U_21 := Lib.hid (Chg.trans U_14.out (Chg.trans (by repeat (first | exact Chg.refl _ _ | apply Chg.drew | apply Chg.drewN | refine Chg.alloc ?_ _)) G1.out))
  clear U_14
  have X0_22 := Lib.hid (X0_15.out.up (Chg.trans (by repeat (first | exact Chg.refl _ _ | apply Chg.drew | apply Chg.drewN | refine Chg.alloc ?_ _)) G1.out))
  clear X0_15
  have q0_0_23 := Chg.cell (Chg.trans (by repeat (first | exact Chg.refl _ _ | apply Chg.drew | apply Chg.drewN | refine Chg.alloc ?_ _)) G1.out) q0_0_16 id
  clear q0_0_16
  have q0_1_24 := Chg.cell (Chg.trans (by repeat (first | exact Chg.refl _ _ | apply Chg.drew | apply Chg.drewN | refine Chg.alloc ?_ _)) G1.out) q0_1_17 id
  clear q0_1_17
  have q0_2_25 := Chg.cell (Chg.trans (by repeat (first | exact Chg.refl _ _ | apply Chg.drew | apply Chg.drewN | refine Chg.alloc ?_ _)) G1.out) q0_2_18 id
  clear q0_2_18
  have B0_26 := Lib.hid (B0_19.out.up (Chg.trans (by repeat (first | exact Chg.refl _ _ | apply Chg.drew | apply Chg.drewN | refine Chg.alloc ?_ _)) G1.out))
  clear B0_19
  clear G1
  have W0_27 := Lib.hid (K1.out)
  clear K1
  clear B0_26
  go_wp2_with fail
  refine (toRow_any _ _ _ a0 (by unfold cntInts; omega) (X0_22.out.up (by repeat (first | exact Chg.refl _ _ | apply Chg.drew | apply Chg.drewN | refine Chg.alloc ?_ _)))).mono ?_
  rintro e w28 ⟨v28, rfl, k1, g1⟩
  have K1 := Lib.hid k1
  clear k1
  have G1 := Lib.hid g1
  obtain ⟨hy28, hz28⟩ := up_pre (show Up w20 _ from (by repeat (first | exact Chg.refl _ _ | apply Chg.drew | apply Chg.drewN | refine Chg.alloc ?_ _))) G1.out
  clear g1
  have U_29 := Lib.hid (Chg.trans U_21.out (Chg.trans (by repeat (first | exact Chg.refl _ _ | apply Chg.drew | apply Chg.drewN | refine Chg.alloc ?_ _)) G1.out))
  clear U_21
  have X0_30 := Lib.hid (X0_22.out.up (Chg.trans (by repeat (first | exact Chg.refl _ _ | apply Chg.drew | apply Chg.drewN | refine Chg.alloc ?_ _)) G1.out))
  clear X0_22
  have q0_0_31 := Chg.cell (Chg.trans (by repeat (first | exact Chg.refl _ _ | apply Chg.drew | apply Chg.drewN | refine Chg.alloc ?_ _)) G1.out) q0_0_23 id
  clear q0_0_23
  have q0_1_32 := Chg.cell (Chg.trans (by repeat (first | exact Chg.refl _ _ | apply Chg.drew | apply Chg.drewN | refine Chg.alloc ?_ _)) G1.out) q0_1_24 id
  clear q0_1_24
  have q0_2_33 := Chg.cell (Chg.trans (by repeat (first | exact Chg.refl _ _ | apply Chg.drew | apply Chg.drewN | refine Chg.alloc ?_ _)) G1.out) q0_2_25 id
  clear q0_2_25
  have W0_34 := Lib.hid (W0_27.out.up (Chg.trans (by repeat (first | exact Chg.refl _ _ | apply Chg.drew | apply Chg.drewN | refine Chg.alloc ?_ _)) G1.out))
  clear W0_27
  clear G1
  have C0_35 := Lib.hid (K1.out)
  clear K1
  obtain ⟨As28, cs28, rfl, ys28, hls28, hcs28⟩ := openRow C0_35.out
  clear ys28
  go_wp2_with fail
  refine (RowOps_any _ _ _ a0 (C0_35.out.up (by repeat (first | exact Chg.refl _ _ | apply Chg.drew | apply Chg.drewN | refine Chg.alloc ?_ _))) a1 a2).mono ?_
  rintro e w36 ⟨v36, rfl, k1, g1⟩
  obtain ⟨A36, c36, rfl, hl36, hc36, -⟩ := k1.shape
  have K1 := Lib.hid k1
  clear k1
  have G1 := Lib.hid g1
  obtain ⟨hy36, hz36⟩ := up_pre (show Up w28 _ from (by repeat (first | exact Chg.refl _ _ | apply Chg.drew | apply Chg.drewN | refine Chg.alloc ?_ _))) G1.out
  clear g1
  have U_37 := Lib.hid (Chg.trans U_29.out (Chg.trans (by repeat (first | exact Chg.refl _ _ | apply Chg.drew | apply Chg.drewN | refine Chg.alloc ?_ _)) G1.out))
  clear U_29
  have X0_38 := Lib.hid (X0_30.out.up (Chg.trans (by repeat (first | exact Chg.refl _ _ | apply Chg.drew | apply Chg.drewN | refine Chg.alloc ?_ _)) G1.out))
  clear X0_30
  have q0_0_39 := Chg.cell (Chg.trans (by repeat (first | exact Chg.refl _ _ | apply Chg.drew | apply Chg.drewN | refine Chg.alloc ?_ _)) G1.out) q0_0_31 id
  clear q0_0_31
  have q0_1_40 := Chg.cell (Chg.trans (by repeat (first | exact Chg.refl _ _ | apply Chg.drew | apply Chg.drewN | refine Chg.alloc ?_ _)) G1.out) q0_1_32 id
  clear q0_1_32
  have q0_2_41 := Chg.cell (Chg.trans (by repeat (first | exact Chg.refl _ _ | apply Chg.drew | apply Chg.drewN | refine Chg.alloc ?_ _)) G1.out) q0_2_33 id
  clear q0_2_33
  have W0_42 := Lib.hid (W0_34.out.up (Chg.trans (by repeat (first | exact Chg.refl _ _ | apply Chg.drew | apply Chg.drewN | refine Chg.alloc ?_ _)) G1.out))
  clear W0_34
  have C0_43 := Lib.hid (C0_35.out.up (Chg.trans (by repeat (first | exact Chg.refl _ _ | apply Chg.drew | apply Chg.drewN | refine Chg.alloc ?_ _)) G1.out))
  clear C0_35
  obtain ⟨x0_0_44c, x0_0_44f⟩ := (show CellF w36 ⟨w28.heap.size, 0, none⟩ (.int .i64 a0.d) from CellF.up G1.out (by repeat (first | ((refine cellF_at ?_ rfl); (simp; done)) | refine CellF.up ((Chg.refl _ _).alloc _) ?_)))
  obtain ⟨x0_1_45c, x0_1_45f⟩ := (show CellF w36 ⟨w28.heap.size, 1, none⟩ (.int .i64 a0.c) from CellF.up G1.out (by repeat (first | ((refine cellF_at ?_ rfl); (simp; done)) | refine CellF.up ((Chg.refl _ _).alloc _) ?_)))
  obtain ⟨x0_2_46c, x0_2_46f⟩ := (show CellF w36 ⟨w28.heap.size, 2, none⟩ (.slice As28 a0.xs.length cs28) from CellF.up G1.out (by repeat (first | ((refine cellF_at ?_ rfl); (simp; done)) | refine CellF.up ((Chg.refl _ _).alloc _) ?_)))
  clear G1
  have R0_47 := Lib.hid (K1.out)
  clear K1
  go_wp2_with fail
  refine (eqOps _ _ _ _ _ (rowOut a0 a1 a2) (R0_47.out.up (by repeat (first | exact Chg.refl _ _ | apply Chg.drew | apply Chg.drewN | refine Chg.alloc ?_ _))) (W0_42.out.up (by repeat (first | exact Chg.refl _ _ | apply Chg.drew | apply Chg.drewN | refine Chg.alloc ?_ _)))).mono ?_
  rintro e w48 ⟨rfl, g1⟩
  have G1 := Lib.hid g1
  obtain ⟨hy48, hz48⟩ := up_pre (show Up w36 _ from (by repeat (first | exact Chg.refl _ _ | apply Chg.drew | apply Chg.drewN | refine Chg.alloc ?_ _))) G1.out
  clear g1
  have U_49 := Lib.hid (Chg.trans U_37.out (Chg.trans (by repeat (first | exact Chg.refl _ _ | apply Chg.drew | apply Chg.drewN | refine Chg.alloc ?_ _)) G1.out))
  clear U_37
  have X0_50 := Lib.hid (X0_38.out.up (Chg.trans (by repeat (first | exact Chg.refl _ _ | apply Chg.drew | apply Chg.drewN | refine Chg.alloc ?_ _)) G1.out))
  clear X0_38
  have q0_0_51 := Chg.cell (Chg.trans (by repeat (first | exact Chg.refl _ _ | apply Chg.drew | apply Chg.drewN | refine Chg.alloc ?_ _)) G1.out) q0_0_39 id
  clear q0_0_39
  have q0_1_52 := Chg.cell (Chg.trans (by repeat (first | exact Chg.refl _ _ | apply Chg.drew | apply Chg.drewN | refine Chg.alloc ?_ _)) G1.out) q0_1_40 id
  clear q0_1_40
  have q0_2_53 := Chg.cell (Chg.trans (by repeat (first | exact Chg.refl _ _ | apply Chg.drew | apply Chg.drewN | refine Chg.alloc ?_ _)) G1.out) q0_2_41 id
  clear q0_2_41
  have W0_54 := Lib.hid (W0_42.out.up (Chg.trans (by repeat (first | exact Chg.refl _ _ | apply Chg.drew | apply Chg.drewN | refine Chg.alloc ?_ _)) G1.out))
  clear W0_42
  have C0_55 := Lib.hid (C0_43.out.up (Chg.trans (by repeat (first | exact Chg.refl _ _ | apply Chg.drew | apply Chg.drewN | refine Chg.alloc ?_ _)) G1.out))
  clear C0_43
  obtain ⟨x0_0_56c, x0_0_56f⟩ := CellF.up (Chg.trans (by repeat (first | exact Chg.refl _ _ | apply Chg.drew | apply Chg.drewN | refine Chg.alloc ?_ _)) G1.out) ⟨x0_0_44c, x0_0_44f⟩
  clear x0_0_44c x0_0_44f
  obtain ⟨x0_1_57c, x0_1_57f⟩ := CellF.up (Chg.trans (by repeat (first | exact Chg.refl _ _ | apply Chg.drew | apply Chg.drewN | refine Chg.alloc ?_ _)) G1.out) ⟨x0_1_45c, x0_1_45f⟩
  clear x0_1_45c x0_1_45f
  obtain ⟨x0_2_58c, x0_2_58f⟩ := CellF.up (Chg.trans (by repeat (first | exact Chg.refl _ _ | apply Chg.drew | apply Chg.drewN | refine Chg.alloc ?_ _)) G1.out) ⟨x0_2_46c, x0_2_46f⟩
  clear x0_2_46c x0_2_46f
  have R0_59 := Lib.hid (R0_47.out.up (Chg.trans (by repeat (first | exact Chg.refl _ _ | apply Chg.drew | apply Chg.drewN | refine Chg.alloc ?_ _)) G1.out))
  clear R0_47
  clear G1
  go_wp2
  go_region_held3 (fun w' => w'.cell? ⟨w.heap.size, 0, none⟩ = some (.int .i64 a0.d) ∧ w'.cell? ⟨w.heap.size, 1, none⟩ = some (.int .i64 a0.c) ∧ w'.cell? ⟨w.heap.size, 2, none⟩ = some (.slice A0 a0.xs.length c0) ∧ w'.cell? ⟨w28.heap.size, 0, none⟩ = some (.int .i64 a0.d) ∧ w'.cell? ⟨w28.heap.size, 1, none⟩ = some (.int .i64 a0.c) ∧ w'.cell? ⟨w28.heap.size, 2, none⟩ = some (.slice As28 a0.xs.length cs28))
      (first | (exact ⟨q0_0_51, q0_1_52, q0_2_53, x0_0_56c, x0_1_57c, x0_2_58c⟩) | (obtain ⟨p0, p1, p2, p3, p4, p5⟩ : (World.cell? _ _ = _ ∧ World.cell? _ _ = _ ∧ World.cell? _ _ = _ ∧ World.cell? _ _ = _ ∧ World.cell? _ _ = _ ∧ World.cell? _ _ = _) := (by assumption); exact ⟨Chg.cell g1 p0 id, Chg.cell g1 p1 id, Chg.cell g1 p2 id, Chg.cell g1 p3 id, Chg.cell g1 p4 id, Chg.cell g1 p5 id⟩))
      (first | (go_at_call 56; refine (toRow_any _ _ _ a0 (by unfold cntInts; omega) (X0_50.out.up (by repeat (first | exact Chg.refl _ _ | apply Chg.drew | apply Chg.drewN | refine Chg.alloc ?_ _)))).mono ?_; rintro e w60 ⟨v60, rfl, k1, g1⟩; obtain ⟨As60, cs60, rfl, ys60, hls60, hcs60⟩ := openRow k1; have K1 := Lib.hid k1; clear k1 ys60; have G1 := Lib.hid g1; obtain ⟨hy60, hz60⟩ := up_pre (show Up w48 _ from (by repeat (first | exact Chg.refl _ _ | apply Chg.drew | apply Chg.drewN | refine Chg.alloc ?_ _))) G1.out; have U_62 := Lib.hid (Chg.trans U_49.out (Chg.trans (by repeat (first | exact Chg.refl _ _ | apply Chg.drew | apply Chg.drewN | refine Chg.alloc ?_ _)) G1.out)); have X0_63 := Lib.hid (X0_50.out.up (Chg.trans (by repeat (first | exact Chg.refl _ _ | apply Chg.drew | apply Chg.drewN | refine Chg.alloc ?_ _)) G1.out)); have W0_64 := Lib.hid (W0_54.out.up (Chg.trans (by repeat (first | exact Chg.refl _ _ | apply Chg.drew | apply Chg.drewN | refine Chg.alloc ?_ _)) G1.out)); have C0_65 := Lib.hid (C0_55.out.up (Chg.trans (by repeat (first | exact Chg.refl _ _ | apply Chg.drew | apply Chg.drewN | refine Chg.alloc ?_ _)) G1.out)); have R0_66 := Lib.hid (R0_59.out.up (Chg.trans (by repeat (first | exact Chg.refl _ _ | apply Chg.drew | apply Chg.drewN | refine Chg.alloc ?_ _)) G1.out))) | (go_at_call 58; refine (eqRow_same _ _ _ _ _ a0 (C0_65.out.up (by repeat (first | exact Chg.refl _ _ | apply Chg.drew | apply Chg.drewN | refine Chg.alloc ?_ _))) (K1.out.up (by repeat (first | exact Chg.refl _ _ | apply Chg.drew | apply Chg.drewN | refine Chg.alloc ?_ _)))).mono ?_; rintro e w61 ⟨rfl, g1⟩; have G2 := Lib.hid g1; obtain ⟨hy61, hz61⟩ := up_pre (show Up w60 _ from (by repeat (first | exact Chg.refl _ _ | apply Chg.drew | apply Chg.drewN | refine Chg.alloc ?_ _))) G2.out; have U_67 := Lib.hid (Chg.trans U_62.out (Chg.trans (by repeat (first | exact Chg.refl _ _ | apply Chg.drew | apply Chg.drewN | refine Chg.alloc ?_ _)) G2.out)); have X0_68 := Lib.hid (X0_63.out.up (Chg.trans (by repeat (first | exact Chg.refl _ _ | apply Chg.drew | apply Chg.drewN | refine Chg.alloc ?_ _)) G2.out)); have W0_69 := Lib.hid (W0_64.out.up (Chg.trans (by repeat (first | exact Chg.refl _ _ | apply Chg.drew | apply Chg.drewN | refine Chg.alloc ?_ _)) G2.out)); have C0_70 := Lib.hid (C0_65.out.up (Chg.trans (by repeat (first | exact Chg.refl _ _ | apply Chg.drew | apply Chg.drewN | refine Chg.alloc ?_ _)) G2.out)); have R0_71 := Lib.hid (R0_66.out.up (Chg.trans (by repeat (first | exact Chg.refl _ _ | apply Chg.drew | apply Chg.drewN | refine Chg.alloc ?_ _)) G2.out))))
  have q0_0_72 := Chg.cell (Chg.trans (Chg.trans (by repeat (first | exact Chg.refl _ _ | apply Chg.drew | apply Chg.drewN | refine Chg.alloc ?_ _)) G1.out) (Chg.trans (by repeat (first | exact Chg.refl _ _ | apply Chg.drew | apply Chg.drewN | refine Chg.alloc ?_ _)) G2.out)) q0_0_51 id
  have q0_1_73 := Chg.cell (Chg.trans (Chg.trans (by repeat (first | exact Chg.refl _ _ | apply Chg.drew | apply Chg.drewN | refine Chg.alloc ?_ _)) G1.out) (Chg.trans (by repeat (first | exact Chg.refl _ _ | apply Chg.drew | apply Chg.drewN | refine Chg.alloc ?_ _)) G2.out)) q0_1_52 id
  have q0_2_74 := Chg.cell (Chg.trans (Chg.trans (by repeat (first | exact Chg.refl _ _ | apply Chg.drew | apply Chg.drewN | refine Chg.alloc ?_ _)) G1.out) (Chg.trans (by repeat (first | exact Chg.refl _ _ | apply Chg.drew | apply Chg.drewN | refine Chg.alloc ?_ _)) G2.out)) q0_2_53 id
  obtain ⟨x0_0_75c, x0_0_75f⟩ := CellF.up (Chg.trans (Chg.trans (by repeat (first | exact Chg.refl _ _ | apply Chg.drew | apply Chg.drewN | refine Chg.alloc ?_ _)) G1.out) (Chg.trans (by repeat (first | exact Chg.refl _ _ | apply Chg.drew | apply Chg.drewN | refine Chg.alloc ?_ _)) G2.out)) ⟨x0_0_56c, x0_0_56f⟩
  obtain ⟨x0_1_76c, x0_1_76f⟩ := CellF.up (Chg.trans (Chg.trans (by repeat (first | exact Chg.refl _ _ | apply Chg.drew | apply Chg.drewN | refine Chg.alloc ?_ _)) G1.out) (Chg.trans (by repeat (first | exact Chg.refl _ _ | apply Chg.drew | apply Chg.drewN | refine Chg.alloc ?_ _)) G2.out)) ⟨x0_1_57c, x0_1_57f⟩
  obtain ⟨x0_2_77c, x0_2_77f⟩ := CellF.up (Chg.trans (Chg.trans (by repeat (first | exact Chg.refl _ _ | apply Chg.drew | apply Chg.drewN | refine Chg.alloc ?_ _)) G1.out) (Chg.trans (by repeat (first | exact Chg.refl _ _ | apply Chg.drew | apply Chg.drewN | refine Chg.alloc ?_ _)) G2.out)) ⟨x0_2_58c, x0_2_58f⟩
  clear g1 G1 G2 K1
  clear U_49
  clear X0_50
  clear q0_0_51
  clear q0_1_52
  clear q0_2_53
  clear W0_54
  clear C0_55
  clear x0_0_56c x0_0_56f
  clear x0_1_57c x0_1_57f
  clear x0_2_58c x0_2_58f
  clear R0_59
  clear U_62
  clear X0_63
  clear W0_64
  clear C0_65
  clear R0_66
  have hp0 : (0 : Int) ≤ (1 : Int) := by omega
  have hr0' : cntInts a0.xs ≤ 8388608 := by unfold cntInts; omega
  have hq0 : (1 : Int) + cntInts a0.xs ≤ 4611686018427387904 := by omega
  go_wp2_with fail
  refine (markRow_any _ _ _ a0 ((1 : Int)) hp0 hq0 (C0_70.out.up (by repeat (first | exact Chg.refl _ _ | apply Chg.drew | apply Chg.drewN | refine Chg.alloc ?_ _)))).mono ?_
  rintro e w78 ⟨rfl, g1⟩
  have G1 := Lib.hid g1
  obtain ⟨hy78, hz78⟩ := up_pre (show Up w61 _ from (by repeat (first | exact Chg.refl _ _ | apply Chg.drew | apply Chg.drewN | refine Chg.alloc ?_ _))) G1.out
  clear g1
  clear C0_70
  clear x0_0_75c x0_0_75f
  clear x0_1_76c x0_1_76f
  clear x0_2_77c x0_2_77f
  have U_79 := Lib.hid (Chg.new (Chg.trans U_67.out (by repeat (first | exact Chg.refl _ _ | apply Chg.drew | apply Chg.drewN | refine Chg.alloc ?_ _))) G1.out (fun i hi h2 => by simp only [New] at h2; omega))
  clear U_67
  have X0_80 := Lib.hid ((X0_68.out.up (by repeat (first | exact Chg.refl _ _ | apply Chg.drew | apply Chg.drewN | refine Chg.alloc ?_ _))).keep G1.out (fun b hb h1 h2 => by simp only [New] at h1 h2; omega))
  clear X0_68
  have W0_81 := Lib.hid ((W0_69.out.up (by repeat (first | exact Chg.refl _ _ | apply Chg.drew | apply Chg.drewN | refine Chg.alloc ?_ _))).keep G1.out (fun b hb h1 h2 => by simp only [New] at h1 h2; omega))
  clear W0_69
  have R0_82 := Lib.hid ((R0_71.out.up (by repeat (first | exact Chg.refl _ _ | apply Chg.drew | apply Chg.drewN | refine Chg.alloc ?_ _))).keep G1.out (fun b hb h1 h2 => by simp only [New] at h1 h2; omega))
  clear R0_71
  have q0_0_83 := Chg.cell G1.out (Chg.cell (S := Nowhere) (by repeat (first | exact Chg.refl _ _ | apply Chg.drew | apply Chg.drewN | refine Chg.alloc ?_ _)) q0_0_72 id) (fun h2 => by simp only [New] at h2; omega)
  clear q0_0_72
  have q0_1_84 := Chg.cell G1.out (Chg.cell (S := Nowhere) (by repeat (first | exact Chg.refl _ _ | apply Chg.drew | apply Chg.drewN | refine Chg.alloc ?_ _)) q0_1_73 id) (fun h2 => by simp only [New] at h2; omega)
  clear q0_1_73
  have q0_2_85 := Chg.cell G1.out (Chg.cell (S := Nowhere) (by repeat (first | exact Chg.refl _ _ | apply Chg.drew | apply Chg.drewN | refine Chg.alloc ?_ _)) q0_2_74 id) (fun h2 => by simp only [New] at h2; omega)
  clear q0_2_74
  clear G1
  have hneg : decide (((1 : Int) + cntInts a0.xs : Int) < 0) = false := decide_eq_false (by omega)
  go_wp2_with fail
  refine (eqOps _ _ _ _ _ (rowOut a0 a1 a2) (R0_82.out.up (by repeat (first | exact Chg.refl _ _ | apply Chg.drew | apply Chg.drewN | refine Chg.alloc ?_ _))) (W0_81.out.up (by repeat (first | exact Chg.refl _ _ | apply Chg.drew | apply Chg.drewN | refine Chg.alloc ?_ _)))).mono ?_
  rintro e w86 ⟨rfl, g1⟩
  have G1 := Lib.hid g1
  obtain ⟨hy86, hz86⟩ := up_pre (show Up w78 _ from (by repeat (first | exact Chg.refl _ _ | apply Chg.drew | apply Chg.drewN | refine Chg.alloc ?_ _))) G1.out
  clear g1
  have U_87 := Lib.hid (Chg.trans U_79.out (Chg.trans (by repeat (first | exact Chg.refl _ _ | apply Chg.drew | apply Chg.drewN | refine Chg.alloc ?_ _)) G1.out))
  clear U_79
  have X0_88 := Lib.hid (X0_80.out.up (Chg.trans (by repeat (first | exact Chg.refl _ _ | apply Chg.drew | apply Chg.drewN | refine Chg.alloc ?_ _)) G1.out))
  clear X0_80
  have W0_89 := Lib.hid (W0_81.out.up (Chg.trans (by repeat (first | exact Chg.refl _ _ | apply Chg.drew | apply Chg.drewN | refine Chg.alloc ?_ _)) G1.out))
  clear W0_81
  have R0_90 := Lib.hid (R0_82.out.up (Chg.trans (by repeat (first | exact Chg.refl _ _ | apply Chg.drew | apply Chg.drewN | refine Chg.alloc ?_ _)) G1.out))
  clear R0_82
  have q0_0_91 := Chg.cell (Chg.trans (by repeat (first | exact Chg.refl _ _ | apply Chg.drew | apply Chg.drewN | refine Chg.alloc ?_ _)) G1.out) q0_0_83 id
  clear q0_0_83
  have q0_1_92 := Chg.cell (Chg.trans (by repeat (first | exact Chg.refl _ _ | apply Chg.drew | apply Chg.drewN | refine Chg.alloc ?_ _)) G1.out) q0_1_84 id
  clear q0_1_84
  have q0_2_93 := Chg.cell (Chg.trans (by repeat (first | exact Chg.refl _ _ | apply Chg.drew | apply Chg.drewN | refine Chg.alloc ?_ _)) G1.out) q0_2_85 id
  clear q0_2_85
  clear G1
  clear hneg
  have HR := Lib.hid (rowOut_bd a0 a1 a2)
  have hr1_0 : (0 : Int) ≤ 1 := by omega
  have hr2_0 : (1 : Int) + cntOps (rowOut a0 a1 a2) ≤ 4611686018427387904 := by have := HR.out; omega
  go_wp2_with fail
  refine (markOps _ _ _ (rowOut a0 a1 a2) (1) hr1_0 hr2_0 (R0_90.out.up (by repeat (first | exact Chg.refl _ _ | apply Chg.drew | apply Chg.drewN | refine Chg.alloc ?_ _)))).mono ?_
  rintro e w94 ⟨rfl, g1, k1⟩
  have G1 := Lib.hid g1
  obtain ⟨hy94, hz94⟩ := up_pre (show Up w86 _ from (by repeat (first | exact Chg.refl _ _ | apply Chg.drew | apply Chg.drewN | refine Chg.alloc ?_ _))) G1.out
  have K1 := Lib.hid k1
  clear g1 k1
  clear R0_90
  have U_95 := Lib.hid (Chg.new (Chg.trans U_87.out (by repeat (first | exact Chg.refl _ _ | apply Chg.drew | apply Chg.drewN | refine Chg.alloc ?_ _))) G1.out (fun i hi h2 => by simp only [New] at h2; omega))
  clear U_87
  have X0_96 := Lib.hid ((X0_88.out.up (by repeat (first | exact Chg.refl _ _ | apply Chg.drew | apply Chg.drewN | refine Chg.alloc ?_ _))).keep G1.out (fun b hb h1 h2 => by simp only [New] at h1 h2; omega))
  clear X0_88
  have W0_97 := Lib.hid ((W0_89.out.up (by repeat (first | exact Chg.refl _ _ | apply Chg.drew | apply Chg.drewN | refine Chg.alloc ?_ _))).keep G1.out (fun b hb h1 h2 => by simp only [New] at h1 h2; omega))
  clear W0_89
  have q0_0_98 := Chg.cell G1.out (Chg.cell (S := Nowhere) (by repeat (first | exact Chg.refl _ _ | apply Chg.drew | apply Chg.drewN | refine Chg.alloc ?_ _)) q0_0_91 id) (fun h2 => by simp only [New] at h2; omega)
  clear q0_0_91
  have q0_1_99 := Chg.cell G1.out (Chg.cell (S := Nowhere) (by repeat (first | exact Chg.refl _ _ | apply Chg.drew | apply Chg.drewN | refine Chg.alloc ?_ _)) q0_1_92 id) (fun h2 => by simp only [New] at h2; omega)
  clear q0_1_92
  have q0_2_100 := Chg.cell G1.out (Chg.cell (S := Nowhere) (by repeat (first | exact Chg.refl _ _ | apply Chg.drew | apply Chg.drewN | refine Chg.alloc ?_ _)) q0_2_93 id) (fun h2 => by simp only [New] at h2; omega)
  clear q0_2_93
  clear G1
  have M0_101 := Lib.hid (K1.out)
  clear K1
  have hneg0 : decide ((1 : Int) + cntOps (rowOut a0 a1 a2) < 0) = false := decide_eq_false (by omega)
  go_wp2_with fail
  refine (heldOps _ _ _ (rowOut a0 a1 a2) (1) hr1_0 hr2_0 (M0_101.out.up (by repeat (first | exact Chg.refl _ _ | apply Chg.drew | apply Chg.drewN | refine Chg.alloc ?_ _)))).mono ?_
  rintro e w102 ⟨rfl, g1⟩
  have G1 := Lib.hid g1
  obtain ⟨hy102, hz102⟩ := up_pre (show Up w94 _ from (by repeat (first | exact Chg.refl _ _ | apply Chg.drew | apply Chg.drewN | refine Chg.alloc ?_ _))) G1.out
  clear g1
  have U_103 := Lib.hid (Chg.trans U_95.out (Chg.trans (by repeat (first | exact Chg.refl _ _ | apply Chg.drew | apply Chg.drewN | refine Chg.alloc ?_ _)) G1.out))
  clear U_95
  have X0_104 := Lib.hid (X0_96.out.up (Chg.trans (by repeat (first | exact Chg.refl _ _ | apply Chg.drew | apply Chg.drewN | refine Chg.alloc ?_ _)) G1.out))
  clear X0_96
  have W0_105 := Lib.hid (W0_97.out.up (Chg.trans (by repeat (first | exact Chg.refl _ _ | apply Chg.drew | apply Chg.drewN | refine Chg.alloc ?_ _)) G1.out))
  clear W0_97
  have q0_0_106 := Chg.cell (Chg.trans (by repeat (first | exact Chg.refl _ _ | apply Chg.drew | apply Chg.drewN | refine Chg.alloc ?_ _)) G1.out) q0_0_98 id
  clear q0_0_98
  have q0_1_107 := Chg.cell (Chg.trans (by repeat (first | exact Chg.refl _ _ | apply Chg.drew | apply Chg.drewN | refine Chg.alloc ?_ _)) G1.out) q0_1_99 id
  clear q0_1_99
  have q0_2_108 := Chg.cell (Chg.trans (by repeat (first | exact Chg.refl _ _ | apply Chg.drew | apply Chg.drewN | refine Chg.alloc ?_ _)) G1.out) q0_2_100 id
  clear q0_2_100
  have M0_109 := Lib.hid (M0_101.out.up (Chg.trans (by repeat (first | exact Chg.refl _ _ | apply Chg.drew | apply Chg.drewN | refine Chg.alloc ?_ _)) G1.out))
  clear M0_101
  clear G1
  go_wp2_with fail
  refine (toRow_any _ _ _ a0 (by unfold cntInts; omega) (X0_104.out.up (by repeat (first | exact Chg.refl _ _ | apply Chg.drew | apply Chg.drewN | refine Chg.alloc ?_ _)))).mono ?_
  rintro e w110 ⟨v110, rfl, k1, g1⟩
  have K1 := Lib.hid k1
  clear k1
  have G1 := Lib.hid g1
  obtain ⟨hy110, hz110⟩ := up_pre (show Up w102 _ from (by repeat (first | exact Chg.refl _ _ | apply Chg.drew | apply Chg.drewN | refine Chg.alloc ?_ _))) G1.out
  clear g1
  have U_111 := Lib.hid (Chg.trans U_103.out (Chg.trans (by repeat (first | exact Chg.refl _ _ | apply Chg.drew | apply Chg.drewN | refine Chg.alloc ?_ _)) G1.out))
  clear U_103
  have X0_112 := Lib.hid (X0_104.out.up (Chg.trans (by repeat (first | exact Chg.refl _ _ | apply Chg.drew | apply Chg.drewN | refine Chg.alloc ?_ _)) G1.out))
  clear X0_104
  have W0_113 := Lib.hid (W0_105.out.up (Chg.trans (by repeat (first | exact Chg.refl _ _ | apply Chg.drew | apply Chg.drewN | refine Chg.alloc ?_ _)) G1.out))
  clear W0_105
  have q0_0_114 := Chg.cell (Chg.trans (by repeat (first | exact Chg.refl _ _ | apply Chg.drew | apply Chg.drewN | refine Chg.alloc ?_ _)) G1.out) q0_0_106 id
  clear q0_0_106
  have q0_1_115 := Chg.cell (Chg.trans (by repeat (first | exact Chg.refl _ _ | apply Chg.drew | apply Chg.drewN | refine Chg.alloc ?_ _)) G1.out) q0_1_107 id
  clear q0_1_107
  have q0_2_116 := Chg.cell (Chg.trans (by repeat (first | exact Chg.refl _ _ | apply Chg.drew | apply Chg.drewN | refine Chg.alloc ?_ _)) G1.out) q0_2_108 id
  clear q0_2_108
  have M0_117 := Lib.hid (M0_109.out.up (Chg.trans (by repeat (first | exact Chg.refl _ _ | apply Chg.drew | apply Chg.drewN | refine Chg.alloc ?_ _)) G1.out))
  clear M0_109
  clear G1
  have E0_118 := Lib.hid (K1.out)
  clear K1
  obtain ⟨As110, cs110, rfl, ys110, hls110, hcs110⟩ := openRow E0_118.out
  clear ys110
  go_wp2_with fail
  refine (RowOps_any _ _ _ a0 (E0_118.out.up (by repeat (first | exact Chg.refl _ _ | apply Chg.drew | apply Chg.drewN | refine Chg.alloc ?_ _))) a1 a2).mono ?_
  rintro e w119 ⟨v119, rfl, k1, g1⟩
  obtain ⟨A119, c119, rfl, hl119, hc119, -⟩ := k1.shape
  have K1 := Lib.hid k1
  clear k1
  have G1 := Lib.hid g1
  obtain ⟨hy119, hz119⟩ := up_pre (show Up w110 _ from (by repeat (first | exact Chg.refl _ _ | apply Chg.drew | apply Chg.drewN | refine Chg.alloc ?_ _))) G1.out
  clear g1
  have U_120 := Lib.hid (Chg.trans U_111.out (Chg.trans (by repeat (first | exact Chg.refl _ _ | apply Chg.drew | apply Chg.drewN | refine Chg.alloc ?_ _)) G1.out))
  clear U_111
  have X0_121 := Lib.hid (X0_112.out.up (Chg.trans (by repeat (first | exact Chg.refl _ _ | apply Chg.drew | apply Chg.drewN | refine Chg.alloc ?_ _)) G1.out))
  clear X0_112
  have W0_122 := Lib.hid (W0_113.out.up (Chg.trans (by repeat (first | exact Chg.refl _ _ | apply Chg.drew | apply Chg.drewN | refine Chg.alloc ?_ _)) G1.out))
  clear W0_113
  have q0_0_123 := Chg.cell (Chg.trans (by repeat (first | exact Chg.refl _ _ | apply Chg.drew | apply Chg.drewN | refine Chg.alloc ?_ _)) G1.out) q0_0_114 id
  clear q0_0_114
  have q0_1_124 := Chg.cell (Chg.trans (by repeat (first | exact Chg.refl _ _ | apply Chg.drew | apply Chg.drewN | refine Chg.alloc ?_ _)) G1.out) q0_1_115 id
  clear q0_1_115
  have q0_2_125 := Chg.cell (Chg.trans (by repeat (first | exact Chg.refl _ _ | apply Chg.drew | apply Chg.drewN | refine Chg.alloc ?_ _)) G1.out) q0_2_116 id
  clear q0_2_116
  have M0_126 := Lib.hid (M0_117.out.up (Chg.trans (by repeat (first | exact Chg.refl _ _ | apply Chg.drew | apply Chg.drewN | refine Chg.alloc ?_ _)) G1.out))
  clear M0_117
  have E0_127 := Lib.hid (E0_118.out.up (Chg.trans (by repeat (first | exact Chg.refl _ _ | apply Chg.drew | apply Chg.drewN | refine Chg.alloc ?_ _)) G1.out))
  clear E0_118
  clear G1
  have H0_128 := Lib.hid (K1.out)
  clear K1
  go_wp2_with fail
  refine (eqOps _ _ _ _ _ (rowOut a0 a1 a2) (H0_128.out.up (by repeat (first | exact Chg.refl _ _ | apply Chg.drew | apply Chg.drewN | refine Chg.alloc ?_ _))) (W0_122.out.up (by repeat (first | exact Chg.refl _ _ | apply Chg.drew | apply Chg.drewN | refine Chg.alloc ?_ _)))).mono ?_
  rintro e w129 ⟨rfl, g1⟩
  have G1 := Lib.hid g1
  obtain ⟨hy129, hz129⟩ := up_pre (show Up w119 _ from (by repeat (first | exact Chg.refl _ _ | apply Chg.drew | apply Chg.drewN | refine Chg.alloc ?_ _))) G1.out
  clear g1
  have U_130 := Lib.hid (Chg.trans U_120.out (Chg.trans (by repeat (first | exact Chg.refl _ _ | apply Chg.drew | apply Chg.drewN | refine Chg.alloc ?_ _)) G1.out))
  clear U_120
  have X0_131 := Lib.hid (X0_121.out.up (Chg.trans (by repeat (first | exact Chg.refl _ _ | apply Chg.drew | apply Chg.drewN | refine Chg.alloc ?_ _)) G1.out))
  clear X0_121
  have W0_132 := Lib.hid (W0_122.out.up (Chg.trans (by repeat (first | exact Chg.refl _ _ | apply Chg.drew | apply Chg.drewN | refine Chg.alloc ?_ _)) G1.out))
  clear W0_122
  have q0_0_133 := Chg.cell (Chg.trans (by repeat (first | exact Chg.refl _ _ | apply Chg.drew | apply Chg.drewN | refine Chg.alloc ?_ _)) G1.out) q0_0_123 id
  clear q0_0_123
  have q0_1_134 := Chg.cell (Chg.trans (by repeat (first | exact Chg.refl _ _ | apply Chg.drew | apply Chg.drewN | refine Chg.alloc ?_ _)) G1.out) q0_1_124 id
  clear q0_1_124
  have q0_2_135 := Chg.cell (Chg.trans (by repeat (first | exact Chg.refl _ _ | apply Chg.drew | apply Chg.drewN | refine Chg.alloc ?_ _)) G1.out) q0_2_125 id
  clear q0_2_125
  have M0_136 := Lib.hid (M0_126.out.up (Chg.trans (by repeat (first | exact Chg.refl _ _ | apply Chg.drew | apply Chg.drewN | refine Chg.alloc ?_ _)) G1.out))
  clear M0_126
  have E0_137 := Lib.hid (E0_127.out.up (Chg.trans (by repeat (first | exact Chg.refl _ _ | apply Chg.drew | apply Chg.drewN | refine Chg.alloc ?_ _)) G1.out))
  clear E0_127
  have H0_138 := Lib.hid (H0_128.out.up (Chg.trans (by repeat (first | exact Chg.refl _ _ | apply Chg.drew | apply Chg.drewN | refine Chg.alloc ?_ _)) G1.out))
  clear H0_128
  clear G1
  go_wp2_with fail
  refine (heldOps _ _ _ (rowOut a0 a1 a2) (1) hr1_0 hr2_0 (M0_136.out.up (by repeat (first | exact Chg.refl _ _ | apply Chg.drew | apply Chg.drewN | refine Chg.alloc ?_ _)))).mono ?_
  rintro e w139 ⟨rfl, g1⟩
  have G1 := Lib.hid g1
  obtain ⟨hy139, hz139⟩ := up_pre (show Up w129 _ from (by repeat (first | exact Chg.refl _ _ | apply Chg.drew | apply Chg.drewN | refine Chg.alloc ?_ _))) G1.out
  clear g1
  have U_140 := Lib.hid (Chg.trans U_130.out (Chg.trans (by repeat (first | exact Chg.refl _ _ | apply Chg.drew | apply Chg.drewN | refine Chg.alloc ?_ _)) G1.out))
  clear U_130
  have X0_141 := Lib.hid (X0_131.out.up (Chg.trans (by repeat (first | exact Chg.refl _ _ | apply Chg.drew | apply Chg.drewN | refine Chg.alloc ?_ _)) G1.out))
  clear X0_131
  have W0_142 := Lib.hid (W0_132.out.up (Chg.trans (by repeat (first | exact Chg.refl _ _ | apply Chg.drew | apply Chg.drewN | refine Chg.alloc ?_ _)) G1.out))
  clear W0_132
  have q0_0_143 := Chg.cell (Chg.trans (by repeat (first | exact Chg.refl _ _ | apply Chg.drew | apply Chg.drewN | refine Chg.alloc ?_ _)) G1.out) q0_0_133 id
  clear q0_0_133
  have q0_1_144 := Chg.cell (Chg.trans (by repeat (first | exact Chg.refl _ _ | apply Chg.drew | apply Chg.drewN | refine Chg.alloc ?_ _)) G1.out) q0_1_134 id
  clear q0_1_134
  have q0_2_145 := Chg.cell (Chg.trans (by repeat (first | exact Chg.refl _ _ | apply Chg.drew | apply Chg.drewN | refine Chg.alloc ?_ _)) G1.out) q0_2_135 id
  clear q0_2_135
  have M0_146 := Lib.hid (M0_136.out.up (Chg.trans (by repeat (first | exact Chg.refl _ _ | apply Chg.drew | apply Chg.drewN | refine Chg.alloc ?_ _)) G1.out))
  clear M0_136
  have E0_147 := Lib.hid (E0_137.out.up (Chg.trans (by repeat (first | exact Chg.refl _ _ | apply Chg.drew | apply Chg.drewN | refine Chg.alloc ?_ _)) G1.out))
  clear E0_137
  have H0_148 := Lib.hid (H0_138.out.up (Chg.trans (by repeat (first | exact Chg.refl _ _ | apply Chg.drew | apply Chg.drewN | refine Chg.alloc ?_ _)) G1.out))
  clear H0_138
  clear G1
  go_wp2
  go_ret
  exact ⟨rfl, Up.below (Chg.trans U_140.out (by repeat (first | exact Chg.refl _ _ | apply Chg.drew | apply Chg.drewN | refine Chg.alloc ?_ _)))⟩
set_option maxRecDepth 100000 in
theorem walk (w : World) (v0 : Value) (a0 : RowM) (ha0 : RowV w (fun b => b < w.heap.size) v0 a0) (a1 : Int) (ia1 : I64 a1) (a2 : Int) (ia2 : I64 a2) :
    Calls Try.prog 10 #[v0, .int .i64 a1, .int .i64 a2] w fun e w' => e = .returned (.bool true) ∧ Below w.heap.size w w' := by
  by_cases hbt : (a0.xs.length : Int) ≤ 1048576
  rotate_left
  · skip
    obtain ⟨A0, c0, rfl, y0, hl0, hc0⟩ := openRow ha0
    have X0 := Lib.hid ha0
    clear ha0 y0
    have U0 := Lib.hid (Chg.refl Nowhere w)
    have hd : decide ((-1 : Int) < 0) = true := rfl
    have U_1 := Lib.hid (Chg.trans U0.out ((Chg.refl Nowhere w).alloc (.cells #[.int .i64 a0.d, .int .i64 a0.c, .slice A0 a0.xs.length c0] 91)))
    clear U0
    have X_2 := Lib.hid (X0.out.up ((Chg.refl Nowhere w).alloc (.cells #[.int .i64 a0.d, .int .i64 a0.c, .slice A0 a0.xs.length c0] 91)))
    clear X0
    have q0_3 := (show (w.alloc (.cells #[.int .i64 a0.d, .int .i64 a0.c, .slice A0 a0.xs.length c0] 91)).cell? ⟨w.heap.size, 0, none⟩ = some (.int .i64 a0.d) from cell_new _ _ _ _)
    have q1_4 := (show (w.alloc (.cells #[.int .i64 a0.d, .int .i64 a0.c, .slice A0 a0.xs.length c0] 91)).cell? ⟨w.heap.size, 1, none⟩ = some (.int .i64 a0.c) from cell_new _ _ _ _)
    have q2_5 := (show (w.alloc (.cells #[.int .i64 a0.d, .int .i64 a0.c, .slice A0 a0.xs.length c0] 91)).cell? ⟨w.heap.size, 2, none⟩ = some (.slice A0 a0.xs.length c0) from cell_new _ _ _ _)
    have hbx6 : w.heap.size < (w.alloc (.cells #[.int .i64 a0.d, .int .i64 a0.c, .slice A0 a0.xs.length c0] 91)).heap.size := by simp
    go_enter Try.func10, Try.ntmps10
    go_wp2_with fail
    refine (szRow_no _ _ _ a0 1048576 (by omega) (by omega) (X_2.out.up (by repeat (first | exact Chg.refl _ _ | apply Chg.drew | apply Chg.drewN | refine Chg.alloc ?_ _)))).mono ?_
    rintro e w7 ⟨rfl, g1⟩
    have G1 := Lib.hid g1
    have hz7 := G1.out.size
    clear g1
    have U_8 := Lib.hid (Chg.trans U_1.out (Chg.trans (by repeat (first | exact Chg.refl _ _ | apply Chg.drew | apply Chg.drewN | refine Chg.alloc ?_ _)) G1.out))
    clear U_1
    have X_9 := Lib.hid (X_2.out.up (Chg.trans (by repeat (first | exact Chg.refl _ _ | apply Chg.drew | apply Chg.drewN | refine Chg.alloc ?_ _)) G1.out))
    clear X_2
    have q0_10 := Chg.cell (Chg.trans (by repeat (first | exact Chg.refl _ _ | apply Chg.drew | apply Chg.drewN | refine Chg.alloc ?_ _)) G1.out) q0_3 id
    clear q0_3
    have q1_11 := Chg.cell (Chg.trans (by repeat (first | exact Chg.refl _ _ | apply Chg.drew | apply Chg.drewN | refine Chg.alloc ?_ _)) G1.out) q1_4 id
    clear q1_4
    have q2_12 := Chg.cell (Chg.trans (by repeat (first | exact Chg.refl _ _ | apply Chg.drew | apply Chg.drewN | refine Chg.alloc ?_ _)) G1.out) q2_5 id
    clear q2_5
    clear G1
    go_wp2
    go_ret
    exact ⟨rfl, Up.below (Chg.trans U_8.out (by repeat (first | exact Chg.refl _ _ | apply Chg.drew | apply Chg.drewN | refine Chg.alloc ?_ _)))⟩
  exact walk0 w v0 a0 ha0 a1 ia1 a2 ia2 hbt
end fnExactRowOps
end Go.Proofs.Ytmimbnpcokfnlaa
