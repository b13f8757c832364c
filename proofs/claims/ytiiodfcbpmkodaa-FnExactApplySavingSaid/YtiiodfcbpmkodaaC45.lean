/- The program's ApplySaving answers as the reference's, for every width, program and saving; what it is given stays as it was; its memory is its own. No condition. -/
import Derived.Test.YtiiodfcbpmkodaaMT5
import Derived.Test.YtiiodfcbpmkodaaCopy
namespace Go.Proofs.Ytiiodfcbpmkodaa
open Go.ChangeShapes Go.WideShapes Go.ChangeAt Go.RowKit
theorem toSaving_any (w : World) (f t : Int) :
    Calls Try.prog 21 #[.agg #[.int .i64 f, .int .i64 t]] w fun e w' => e = .returned (.agg #[.int .i64 f, .int .i64 t]) ∧ Up w w' := by
  go_enter Try.func21, Try.ntmps21
  go_wp2
  exact bodyPost_ret (v := .agg #[.int .i64 f, .int .i64 t]) (by simp [results, Try.results21, go_sem]) rfl ⟨rfl, by repeat (first | exact Chg.refl _ _ | refine Chg.alloc ?_ _)⟩
theorem apL_len (n : Int) (xs : List OpM) (r k : Int) : (apL n xs r k).length ≤ xs.length := by
  unfold apL
  split
  · unfold cutM; simp; omega
  · simp
namespace fnExactApplySaving
set_option linter.unusedVariables false in
set_option maxRecDepth 100000 in
set_option maxHeartbeats 8000000 in
theorem walk0 (w : World) (a0 : Int) (ia0 : I64 a0) (v1 : Value) (a1 : List OpM) (ha1 : Ops w (fun b => b < w.heap.size) v1 a1) (a2f a2t : Int) (ia2f : I64 a2f) (ia2t : I64 a2t)  (hbt : (a1.length : Int) ≤ 1048576) :
    Calls Try.prog 6 #[.int .i64 a0, v1, .agg #[.int .i64 a2f, .int .i64 a2t]] w fun e w' => e = .returned (.bool true) ∧ Below w.heap.size w w' := by
  have U0 := Lib.hid (Chg.refl Nowhere w)
  obtain ⟨A1, c1, rfl, hl1, hc1, -⟩ := ha1.shape
  have X1 := Lib.hid ha1
  clear ha1
  have U_1 := Lib.hid (Chg.trans U0.out ((Chg.refl Nowhere w).alloc (.cells #[.int .i64 a2f, .int .i64 a2t] 38)))
  clear U0
  have X1_2 := Lib.hid (X1.out.up ((Chg.refl Nowhere w).alloc (.cells #[.int .i64 a2f, .int .i64 a2t] 38)))
  clear X1
  have q2_0_3 := (show (w.alloc (.cells #[.int .i64 a2f, .int .i64 a2t] 38)).cell? ⟨w.heap.size, 0, none⟩ = some (.int .i64 a2f) from cell_new _ _ _ _)
  have q2_1_4 := (show (w.alloc (.cells #[.int .i64 a2f, .int .i64 a2t] 38)).cell? ⟨w.heap.size, 1, none⟩ = some (.int .i64 a2t) from cell_new _ _ _ _)
  have hbx5 : w.heap.size < (w.alloc (.cells #[.int .i64 a2f, .int .i64 a2t] 38)).heap.size := by simp
  have hr1 : a1.length ≤ 1048576 := by omega
  go_enter Try.func6, Try.ntmps6
  have hd1 : decide ((1048576 : Int) - a1.length < 0) = false := decide_eq_false (by omega)
  go_wp2_with fail
  refine (szOps_ok _ _ _ a1 (1048576) (by omega) (by omega) (X1_2.out.up (by repeat (first | exact Chg.refl _ _ | apply Chg.drew | apply Chg.drewN | refine Chg.alloc ?_ _)))).mono ?_
  rintro e w' ⟨rfl, rfl⟩
  go_wp2
  have U_h6 := U_1
  clear U_1
  have X1_h6 := X1_2
  clear X1_2
  have q2_0_h6 := q2_0_3
  clear q2_0_3
  have q2_1_h6 := q2_1_4
  clear q2_1_4
  go_region_held3 (fun w' => w'.cell? ⟨w.heap.size, 0, none⟩ = some (.int .i64 a2f) ∧ w'.cell? ⟨w.heap.size, 1, none⟩ = some (.int .i64 a2t))
      (first | (exact ⟨q2_0_h6, q2_1_h6⟩) | (obtain ⟨p0, p1⟩ : (World.cell? _ _ = _ ∧ World.cell? _ _ = _) := (by assumption); exact ⟨Chg.cell g1 p0 id, Chg.cell g1 p1 id⟩))
      (first | (go_at_call 12; refine (toOps _ _ _ a1 (by unfold cntOps; omega) (X1_h6.out.up (by repeat (first | exact Chg.refl _ _ | apply Chg.drew | apply Chg.drewN | refine Chg.alloc ?_ _)))).mono ?_; rintro e w6 ⟨v6, rfl, k1, g1⟩; obtain ⟨A6, c6, rfl, hl6, hc6, -⟩ := k1.shape; have C_h6 := Lib.hid k1; have hz6_1 := g1.size; have U_h6 := Lib.hid (Chg.trans U_h6.out (Chg.trans (by repeat (first | exact Chg.refl _ _ | apply Chg.drew | apply Chg.drewN | refine Chg.alloc ?_ _)) g1)); have X1_h6 := Lib.hid (X1_h6.out.up (Chg.trans (by repeat (first | exact Chg.refl _ _ | apply Chg.drew | apply Chg.drewN | refine Chg.alloc ?_ _)) g1)); have q2_0_h6 := Chg.cell (Chg.trans (by repeat (first | exact Chg.refl _ _ | apply Chg.drew | apply Chg.drewN | refine Chg.alloc ?_ _)) g1) q2_0_h6 id; have q2_1_h6 := Chg.cell (Chg.trans (by repeat (first | exact Chg.refl _ _ | apply Chg.drew | apply Chg.drewN | refine Chg.alloc ?_ _)) g1) q2_1_h6 id; clear k1) | (go_at_call 21; refine (toSaving_any _ a2f a2t).mono ?_; rintro e w6_2 ⟨rfl, g1⟩; have hz6_2 := g1.size; have U_h6 := Lib.hid (Chg.trans U_h6.out (Chg.trans (by repeat (first | exact Chg.refl _ _ | apply Chg.drew | apply Chg.drewN | refine Chg.alloc ?_ _)) g1)); have X1_h6 := Lib.hid (X1_h6.out.up (Chg.trans (by repeat (first | exact Chg.refl _ _ | apply Chg.drew | apply Chg.drewN | refine Chg.alloc ?_ _)) g1)); have q2_0_h6 := Chg.cell (Chg.trans (by repeat (first | exact Chg.refl _ _ | apply Chg.drew | apply Chg.drewN | refine Chg.alloc ?_ _)) g1) q2_0_h6 id; have q2_1_h6 := Chg.cell (Chg.trans (by repeat (first | exact Chg.refl _ _ | apply Chg.drew | apply Chg.drewN | refine Chg.alloc ?_ _)) g1) q2_1_h6 id; (try have C_h6 := Lib.hid (C_h6.out.up (Chg.trans (by repeat (first | exact Chg.refl _ _ | apply Chg.drew | apply Chg.drewN | refine Chg.alloc ?_ _)) g1)))) | (go_at_call 20; refine (sApplySavingT _ a0 _ _ a1 (C_h6.out.up (by repeat (first | exact Chg.refl _ _ | apply Chg.drew | apply Chg.drewN | refine Chg.alloc ?_ _))) a2f a2t).mono ?_; rintro e w6_3 ⟨v6_3, rfl, k1, g1⟩; obtain ⟨B6, d6, rfl, hm6, hd6, -⟩ := k1.shape; have hz6_3 := g1.size; have U_h6 := Lib.hid (Chg.trans U_h6.out (Chg.trans (by repeat (first | exact Chg.refl _ _ | apply Chg.drew | apply Chg.drewN | refine Chg.alloc ?_ _)) g1)); have X1_h6 := Lib.hid (X1_h6.out.up (Chg.trans (by repeat (first | exact Chg.refl _ _ | apply Chg.drew | apply Chg.drewN | refine Chg.alloc ?_ _)) g1)); have q2_0_h6 := Chg.cell (Chg.trans (by repeat (first | exact Chg.refl _ _ | apply Chg.drew | apply Chg.drewN | refine Chg.alloc ?_ _)) g1) q2_0_h6 id; have q2_1_h6 := Chg.cell (Chg.trans (by repeat (first | exact Chg.refl _ _ | apply Chg.drew | apply Chg.drewN | refine Chg.alloc ?_ _)) g1) q2_1_h6 id; have D_h6 := Lib.hid k1; clear k1))
  all_goals
    clear g1
    try clear C_h6
    have hzu6 := U_h6.out.size
    have hzv6 : w.heap.size < w6_3.heap.size := World.block_lt_of_cell? _ _ q2_0_h6
    go_wp2_with fail
    refine (toOps _ _ _ a1 (by unfold cntOps; omega) (X1_h6.out.up (by repeat (first | exact Chg.refl _ _ | apply Chg.drew | apply Chg.drewN | refine Chg.alloc ?_ _)))).mono ?_
    rintro e w7 ⟨v7, rfl, k1, g1⟩
    obtain ⟨A7, c7, rfl, hl7, hc7, -⟩ := k1.shape
    have K1 := Lib.hid k1
    clear k1
    have G1 := Lib.hid g1
    obtain ⟨hy7, hz7⟩ := up_prem (show Up w6_3 _ from (by repeat (first | exact Chg.refl _ _ | apply Chg.drew | apply Chg.drewN | refine Chg.alloc ?_ _))) G1.out
    clear g1
    have U_8 := Lib.hid (Chg.trans U_h6.out (Chg.trans (by repeat (first | exact Chg.refl _ _ | apply Chg.drew | apply Chg.drewN | refine Chg.alloc ?_ _)) G1.out))
    clear U_h6
    have X1_9 := Lib.hid (X1_h6.out.up (Chg.trans (by repeat (first | exact Chg.refl _ _ | apply Chg.drew | apply Chg.drewN | refine Chg.alloc ?_ _)) G1.out))
    clear X1_h6
    have q2_0_10 := Chg.cell (Chg.trans (by repeat (first | exact Chg.refl _ _ | apply Chg.drew | apply Chg.drewN | refine Chg.alloc ?_ _)) G1.out) q2_0_h6 id
    clear q2_0_h6
    have q2_1_11 := Chg.cell (Chg.trans (by repeat (first | exact Chg.refl _ _ | apply Chg.drew | apply Chg.drewN | refine Chg.alloc ?_ _)) G1.out) q2_1_h6 id
    clear q2_1_h6
    have W0_12 := Lib.hid (D_h6.out.up (Chg.trans (by repeat (first | exact Chg.refl _ _ | apply Chg.drew | apply Chg.drewN | refine Chg.alloc ?_ _)) G1.out))
    clear D_h6
    clear G1
    have C1_13 := Lib.hid (K1.out)
    clear K1
    go_wp2_with fail
    refine (toSaving_any _ a2f a2t).mono ?_
    rintro e w14 ⟨rfl, g1⟩
    have G1 := Lib.hid g1
    obtain ⟨hy14, hz14⟩ := up_prem (show Up w7 _ from (by repeat (first | exact Chg.refl _ _ | apply Chg.drew | apply Chg.drewN | refine Chg.alloc ?_ _))) G1.out
    clear g1
    have U_15 := Lib.hid (Chg.trans U_8.out (Chg.trans (by repeat (first | exact Chg.refl _ _ | apply Chg.drew | apply Chg.drewN | refine Chg.alloc ?_ _)) G1.out))
    clear U_8
    have X1_16 := Lib.hid (X1_9.out.up (Chg.trans (by repeat (first | exact Chg.refl _ _ | apply Chg.drew | apply Chg.drewN | refine Chg.alloc ?_ _)) G1.out))
    clear X1_9
    have q2_0_17 := Chg.cell (Chg.trans (by repeat (first | exact Chg.refl _ _ | apply Chg.drew | apply Chg.drewN | refine Chg.alloc ?_ _)) G1.out) q2_0_10 id
    clear q2_0_10
    have q2_1_18 := Chg.cell (Chg.trans (by repeat (first | exact Chg.refl _ _ | apply Chg.drew | apply Chg.drewN | refine Chg.alloc ?_ _)) G1.out) q2_1_11 id
    clear q2_1_11
    have W0_19 := Lib.hid (W0_12.out.up (Chg.trans (by repeat (first | exact Chg.refl _ _ | apply Chg.drew | apply Chg.drewN | refine Chg.alloc ?_ _)) G1.out))
    clear W0_12
    have C1_20 := Lib.hid (C1_13.out.up (Chg.trans (by repeat (first | exact Chg.refl _ _ | apply Chg.drew | apply Chg.drewN | refine Chg.alloc ?_ _)) G1.out))
    clear C1_13
    clear G1
    go_wp2_with fail
    refine (ApplySavingT _ a0 _ _ a1 (C1_20.out.up (by repeat (first | exact Chg.refl _ _ | apply Chg.drew | apply Chg.drewN | refine Chg.alloc ?_ _))) a2f a2t).mono ?_
    rintro e w21 ⟨v21, rfl, k1, g1⟩
    obtain ⟨A21, c21, rfl, hl21, hc21, -⟩ := k1.shape
    have K1 := Lib.hid k1
    clear k1
    have G1 := Lib.hid g1
    obtain ⟨hy21, hz21⟩ := up_prem (show Up w14 _ from (by repeat (first | exact Chg.refl _ _ | apply Chg.drew | apply Chg.drewN | refine Chg.alloc ?_ _))) G1.out
    clear g1
    have U_22 := Lib.hid (Chg.trans U_15.out (Chg.trans (by repeat (first | exact Chg.refl _ _ | apply Chg.drew | apply Chg.drewN | refine Chg.alloc ?_ _)) G1.out))
    clear U_15
    have X1_23 := Lib.hid (X1_16.out.up (Chg.trans (by repeat (first | exact Chg.refl _ _ | apply Chg.drew | apply Chg.drewN | refine Chg.alloc ?_ _)) G1.out))
    clear X1_16
    have q2_0_24 := Chg.cell (Chg.trans (by repeat (first | exact Chg.refl _ _ | apply Chg.drew | apply Chg.drewN | refine Chg.alloc ?_ _)) G1.out) q2_0_17 id
    clear q2_0_17
    have q2_1_25 := Chg.cell (Chg.trans (by repeat (first | exact Chg.refl _ _ | apply Chg.drew | apply Chg.drewN | refine Chg.alloc ?_ _)) G1.out) q2_1_18 id
    clear q2_1_18
    have W0_26 := Lib.hid (W0_19.out.up (Chg.trans (by repeat (first | exact Chg.refl _ _ | apply Chg.drew | apply Chg.drewN | refine Chg.alloc ?_ _)) G1.out))
    clear W0_19
    have C1_27 := Lib.hid (C1_20.out.up (Chg.trans (by repeat (first | exact Chg.refl _ _ | apply Chg.drew | apply Chg.drewN | refine Chg.alloc ?_ _)) G1.out))
    clear C1_20
    clear G1
    have R0_28 := Lib.hid (K1.out)
    clear K1
    go_wp2_with fail
    refine (eqOps _ _ _ _ _ (apL a0 a1 a2f a2t) (R0_28.out.up (by repeat (first | exact Chg.refl _ _ | apply Chg.drew | apply Chg.drewN | refine Chg.alloc ?_ _))) (W0_26.out.up (by repeat (first | exact Chg.refl _ _ | apply Chg.drew | apply Chg.drewN | refine Chg.alloc ?_ _)))).mono ?_
    rintro e w29 ⟨rfl, g1⟩
    have G1 := Lib.hid g1
    obtain ⟨hy29, hz29⟩ := up_prem (show Up w21 _ from (by repeat (first | exact Chg.refl _ _ | apply Chg.drew | apply Chg.drewN | refine Chg.alloc ?_ _))) G1.out
    clear g1
    have U_30 := Lib.hid (Chg.trans U_22.out (Chg.trans (by repeat (first | exact Chg.refl _ _ | apply Chg.drew | apply Chg.drewN | refine Chg.alloc ?_ _)) G1.out))
    clear U_22
    have X1_31 := Lib.hid (X1_23.out.up (Chg.trans (by repeat (first | exact Chg.refl _ _ | apply Chg.drew | apply Chg.drewN | refine Chg.alloc ?_ _)) G1.out))
    clear X1_23
    have q2_0_32 := Chg.cell (Chg.trans (by repeat (first | exact Chg.refl _ _ | apply Chg.drew | apply Chg.drewN | refine Chg.alloc ?_ _)) G1.out) q2_0_24 id
    clear q2_0_24
    have q2_1_33 := Chg.cell (Chg.trans (by repeat (first | exact Chg.refl _ _ | apply Chg.drew | apply Chg.drewN | refine Chg.alloc ?_ _)) G1.out) q2_1_25 id
    clear q2_1_25
    have W0_34 := Lib.hid (W0_26.out.up (Chg.trans (by repeat (first | exact Chg.refl _ _ | apply Chg.drew | apply Chg.drewN | refine Chg.alloc ?_ _)) G1.out))
    clear W0_26
    have C1_35 := Lib.hid (C1_27.out.up (Chg.trans (by repeat (first | exact Chg.refl _ _ | apply Chg.drew | apply Chg.drewN | refine Chg.alloc ?_ _)) G1.out))
    clear C1_27
    have R0_36 := Lib.hid (R0_28.out.up (Chg.trans (by repeat (first | exact Chg.refl _ _ | apply Chg.drew | apply Chg.drewN | refine Chg.alloc ?_ _)) G1.out))
    clear R0_28
    clear G1
    go_wp2_with fail
    refine (toOps _ _ _ a1 (by unfold cntOps; omega) (X1_31.out.up (by repeat (first | exact Chg.refl _ _ | apply Chg.drew | apply Chg.drewN | refine Chg.alloc ?_ _)))).mono ?_
    rintro e w37 ⟨v37, rfl, k1, g1⟩
    obtain ⟨A37, c37, rfl, hl37, hc37, -⟩ := k1.shape
    have K1 := Lib.hid k1
    clear k1
    have G1 := Lib.hid g1
    obtain ⟨hy37, hz37⟩ := up_prem (show Up w29 _ from (by repeat (first | exact Chg.refl _ _ | apply Chg.drew | apply Chg.drewN | refine Chg.alloc ?_ _))) G1.out
    clear g1
    have U_38 := Lib.hid (Chg.trans U_30.out (Chg.trans (by repeat (first | exact Chg.refl _ _ | apply Chg.drew | apply Chg.drewN | refine Chg.alloc ?_ _)) G1.out))
    clear U_30
    have X1_39 := Lib.hid (X1_31.out.up (Chg.trans (by repeat (first | exact Chg.refl _ _ | apply Chg.drew | apply Chg.drewN | refine Chg.alloc ?_ _)) G1.out))
    clear X1_31
    have q2_0_40 := Chg.cell (Chg.trans (by repeat (first | exact Chg.refl _ _ | apply Chg.drew | apply Chg.drewN | refine Chg.alloc ?_ _)) G1.out) q2_0_32 id
    clear q2_0_32
    have q2_1_41 := Chg.cell (Chg.trans (by repeat (first | exact Chg.refl _ _ | apply Chg.drew | apply Chg.drewN | refine Chg.alloc ?_ _)) G1.out) q2_1_33 id
    clear q2_1_33
    have W0_42 := Lib.hid (W0_34.out.up (Chg.trans (by repeat (first | exact Chg.refl _ _ | apply Chg.drew | apply Chg.drewN | refine Chg.alloc ?_ _)) G1.out))
    clear W0_34
    have C1_43 := Lib.hid (C1_35.out.up (Chg.trans (by repeat (first | exact Chg.refl _ _ | apply Chg.drew | apply Chg.drewN | refine Chg.alloc ?_ _)) G1.out))
    clear C1_35
    have R0_44 := Lib.hid (R0_36.out.up (Chg.trans (by repeat (first | exact Chg.refl _ _ | apply Chg.drew | apply Chg.drewN | refine Chg.alloc ?_ _)) G1.out))
    clear R0_36
    clear G1
    have D1_45 := Lib.hid (K1.out)
    clear K1
    go_wp2_with fail
    refine (eqOps _ _ _ _ _ a1 (C1_43.out.up (by repeat (first | exact Chg.refl _ _ | apply Chg.drew | apply Chg.drewN | refine Chg.alloc ?_ _))) (D1_45.out.up (by repeat (first | exact Chg.refl _ _ | apply Chg.drew | apply Chg.drewN | refine Chg.alloc ?_ _)))).mono ?_
    rintro e w46 ⟨rfl, g1⟩
    have G1 := Lib.hid g1
    obtain ⟨hy46, hz46⟩ := up_prem (show Up w37 _ from (by repeat (first | exact Chg.refl _ _ | apply Chg.drew | apply Chg.drewN | refine Chg.alloc ?_ _))) G1.out
    clear g1
    have U_47 := Lib.hid (Chg.trans U_38.out (Chg.trans (by repeat (first | exact Chg.refl _ _ | apply Chg.drew | apply Chg.drewN | refine Chg.alloc ?_ _)) G1.out))
    clear U_38
    have X1_48 := Lib.hid (X1_39.out.up (Chg.trans (by repeat (first | exact Chg.refl _ _ | apply Chg.drew | apply Chg.drewN | refine Chg.alloc ?_ _)) G1.out))
    clear X1_39
    have q2_0_49 := Chg.cell (Chg.trans (by repeat (first | exact Chg.refl _ _ | apply Chg.drew | apply Chg.drewN | refine Chg.alloc ?_ _)) G1.out) q2_0_40 id
    clear q2_0_40
    have q2_1_50 := Chg.cell (Chg.trans (by repeat (first | exact Chg.refl _ _ | apply Chg.drew | apply Chg.drewN | refine Chg.alloc ?_ _)) G1.out) q2_1_41 id
    clear q2_1_41
    have W0_51 := Lib.hid (W0_42.out.up (Chg.trans (by repeat (first | exact Chg.refl _ _ | apply Chg.drew | apply Chg.drewN | refine Chg.alloc ?_ _)) G1.out))
    clear W0_42
    have C1_52 := Lib.hid (C1_43.out.up (Chg.trans (by repeat (first | exact Chg.refl _ _ | apply Chg.drew | apply Chg.drewN | refine Chg.alloc ?_ _)) G1.out))
    clear C1_43
    have R0_53 := Lib.hid (R0_44.out.up (Chg.trans (by repeat (first | exact Chg.refl _ _ | apply Chg.drew | apply Chg.drewN | refine Chg.alloc ?_ _)) G1.out))
    clear R0_44
    have D1_54 := Lib.hid (D1_45.out.up (Chg.trans (by repeat (first | exact Chg.refl _ _ | apply Chg.drew | apply Chg.drewN | refine Chg.alloc ?_ _)) G1.out))
    clear D1_45
    clear G1
    clear D1_54
    have hp1 : (0 : Int) ≤ (1 : Int) := by omega
    have hr1' : cntOps a1 ≤ 8388608 := by unfold cntOps; omega
    have hq1 : (1 : Int) + cntOps a1 ≤ 4611686018427387904 := by omega
    go_wp2_with fail
    refine (markOps _ _ _ a1 ((1 : Int)) hp1 hq1 (C1_52.out.up (by repeat (first | exact Chg.refl _ _ | apply Chg.drew | apply Chg.drewN | refine Chg.alloc ?_ _)))).mono ?_
    rintro e w55 ⟨rfl, g1, -⟩
    have G1 := Lib.hid g1
    obtain ⟨hy55, hz55⟩ := up_prem (show Up w46 _ from (by repeat (first | exact Chg.refl _ _ | apply Chg.drew | apply Chg.drewN | refine Chg.alloc ?_ _))) G1.out
    clear g1
    clear C1_52
    have U_56 := Lib.hid (Chg.new (Chg.trans U_47.out (by repeat (first | exact Chg.refl _ _ | apply Chg.drew | apply Chg.drewN | refine Chg.alloc ?_ _))) G1.out (fun i hi h2 => by simp only [New] at h2; first | omega | (simp at h2; omega)))
    clear U_47
    have X1_57 := Lib.hid ((X1_48.out.up (by repeat (first | exact Chg.refl _ _ | apply Chg.drew | apply Chg.drewN | refine Chg.alloc ?_ _))).keep G1.out (fun b hb h1 h2 => by simp only [New] at h1 h2; first | omega | (simp at h1 h2; omega)))
    clear X1_48
    have q2_0_58 := Chg.cell G1.out (Chg.cell (S := Nowhere) (by repeat (first | exact Chg.refl _ _ | apply Chg.drew | apply Chg.drewN | refine Chg.alloc ?_ _)) q2_0_49 id) (fun h2 => by simp only [New] at h2; first | omega | (simp at h2; omega))
    clear q2_0_49
    have q2_1_59 := Chg.cell G1.out (Chg.cell (S := Nowhere) (by repeat (first | exact Chg.refl _ _ | apply Chg.drew | apply Chg.drewN | refine Chg.alloc ?_ _)) q2_1_50 id) (fun h2 => by simp only [New] at h2; first | omega | (simp at h2; omega))
    clear q2_1_50
    have W0_60 := Lib.hid ((W0_51.out.up (by repeat (first | exact Chg.refl _ _ | apply Chg.drew | apply Chg.drewN | refine Chg.alloc ?_ _))).keep G1.out (fun b hb h1 h2 => by simp only [New] at h1 h2; first | omega | (simp at h1 h2; omega)))
    clear W0_51
    have R0_61 := Lib.hid ((R0_53.out.up (by repeat (first | exact Chg.refl _ _ | apply Chg.drew | apply Chg.drewN | refine Chg.alloc ?_ _))).keep G1.out (fun b hb h1 h2 => by simp only [New] at h1 h2; first | omega | (simp at h1 h2; omega)))
    clear R0_53
    clear G1
    have hneg : decide (((1 : Int) + cntOps a1 : Int) < 0) = false := decide_eq_false (by omega)
    go_wp2_with fail
    refine (eqOps _ _ _ _ _ (apL a0 a1 a2f a2t) (R0_61.out.up (by repeat (first | exact Chg.refl _ _ | apply Chg.drew | apply Chg.drewN | refine Chg.alloc ?_ _))) (W0_60.out.up (by repeat (first | exact Chg.refl _ _ | apply Chg.drew | apply Chg.drewN | refine Chg.alloc ?_ _)))).mono ?_
    rintro e w62 ⟨rfl, g1⟩
    have G1 := Lib.hid g1
    obtain ⟨hy62, hz62⟩ := up_prem (show Up w55 _ from (by repeat (first | exact Chg.refl _ _ | apply Chg.drew | apply Chg.drewN | refine Chg.alloc ?_ _))) G1.out
    clear g1
    have U_63 := Lib.hid (Chg.trans U_56.out (Chg.trans (by repeat (first | exact Chg.refl _ _ | apply Chg.drew | apply Chg.drewN | refine Chg.alloc ?_ _)) G1.out))
    clear U_56
    have X1_64 := Lib.hid (X1_57.out.up (Chg.trans (by repeat (first | exact Chg.refl _ _ | apply Chg.drew | apply Chg.drewN | refine Chg.alloc ?_ _)) G1.out))
    clear X1_57
    have q2_0_65 := Chg.cell (Chg.trans (by repeat (first | exact Chg.refl _ _ | apply Chg.drew | apply Chg.drewN | refine Chg.alloc ?_ _)) G1.out) q2_0_58 id
    clear q2_0_58
    have q2_1_66 := Chg.cell (Chg.trans (by repeat (first | exact Chg.refl _ _ | apply Chg.drew | apply Chg.drewN | refine Chg.alloc ?_ _)) G1.out) q2_1_59 id
    clear q2_1_59
    have W0_67 := Lib.hid (W0_60.out.up (Chg.trans (by repeat (first | exact Chg.refl _ _ | apply Chg.drew | apply Chg.drewN | refine Chg.alloc ?_ _)) G1.out))
    clear W0_60
    have R0_68 := Lib.hid (R0_61.out.up (Chg.trans (by repeat (first | exact Chg.refl _ _ | apply Chg.drew | apply Chg.drewN | refine Chg.alloc ?_ _)) G1.out))
    clear R0_61
    clear G1
    clear hneg
    have HR := Lib.hid (show cntOps (apL a0 a1 a2f a2t) ≤ 9000000 by have := apL_len a0 a1 a2f a2t; unfold cntOps; omega)
    have hr1_0 : (0 : Int) ≤ 1 := by omega
    have hr2_0 : (1 : Int) + cntOps (apL a0 a1 a2f a2t) ≤ 4611686018427387904 := by have := HR.out; omega
    go_wp2_with fail
    refine (markOps _ _ _ (apL a0 a1 a2f a2t) (1) hr1_0 hr2_0 (R0_68.out.up (by repeat (first | exact Chg.refl _ _ | apply Chg.drew | apply Chg.drewN | refine Chg.alloc ?_ _)))).mono ?_
    rintro e w69 ⟨rfl, g1, k1⟩
    have G1 := Lib.hid g1
    obtain ⟨hy69, hz69⟩ := up_prem (show Up w62 _ from (by repeat (first | exact Chg.refl _ _ | apply Chg.drew | apply Chg.drewN | refine Chg.alloc ?_ _))) G1.out
    have K1 := Lib.hid k1
    clear g1 k1
    clear R0_68
    have U_70 := Lib.hid (Chg.new (Chg.trans U_63.out (by repeat (first | exact Chg.refl _ _ | apply Chg.drew | apply Chg.drewN | refine Chg.alloc ?_ _))) G1.out (fun i hi h2 => by simp only [New] at h2; first | omega | (simp at h2; omega)))
    clear U_63
    have X1_71 := Lib.hid ((X1_64.out.up (by repeat (first | exact Chg.refl _ _ | apply Chg.drew | apply Chg.drewN | refine Chg.alloc ?_ _))).keep G1.out (fun b hb h1 h2 => by simp only [New] at h1 h2; first | omega | (simp at h1 h2; omega)))
    clear X1_64
    have q2_0_72 := Chg.cell G1.out (Chg.cell (S := Nowhere) (by repeat (first | exact Chg.refl _ _ | apply Chg.drew | apply Chg.drewN | refine Chg.alloc ?_ _)) q2_0_65 id) (fun h2 => by simp only [New] at h2; first | omega | (simp at h2; omega))
    clear q2_0_65
    have q2_1_73 := Chg.cell G1.out (Chg.cell (S := Nowhere) (by repeat (first | exact Chg.refl _ _ | apply Chg.drew | apply Chg.drewN | refine Chg.alloc ?_ _)) q2_1_66 id) (fun h2 => by simp only [New] at h2; first | omega | (simp at h2; omega))
    clear q2_1_66
    have W0_74 := Lib.hid ((W0_67.out.up (by repeat (first | exact Chg.refl _ _ | apply Chg.drew | apply Chg.drewN | refine Chg.alloc ?_ _))).keep G1.out (fun b hb h1 h2 => by simp only [New] at h1 h2; first | omega | (simp at h1 h2; omega)))
    clear W0_67
    clear G1
    have M0_75 := Lib.hid (K1.out)
    clear K1
    have hneg0 : decide ((1 : Int) + cntOps (apL a0 a1 a2f a2t) < 0) = false := decide_eq_false (by omega)
    go_wp2_with fail
    refine (heldOps _ _ _ (apL a0 a1 a2f a2t) (1) hr1_0 hr2_0 (M0_75.out.up (by repeat (first | exact Chg.refl _ _ | apply Chg.drew | apply Chg.drewN | refine Chg.alloc ?_ _)))).mono ?_
    rintro e w76 ⟨rfl, g1⟩
    have G1 := Lib.hid g1
    obtain ⟨hy76, hz76⟩ := up_prem (show Up w69 _ from (by repeat (first | exact Chg.refl _ _ | apply Chg.drew | apply Chg.drewN | refine Chg.alloc ?_ _))) G1.out
    clear g1
    have U_77 := Lib.hid (Chg.trans U_70.out (Chg.trans (by repeat (first | exact Chg.refl _ _ | apply Chg.drew | apply Chg.drewN | refine Chg.alloc ?_ _)) G1.out))
    clear U_70
    have X1_78 := Lib.hid (X1_71.out.up (Chg.trans (by repeat (first | exact Chg.refl _ _ | apply Chg.drew | apply Chg.drewN | refine Chg.alloc ?_ _)) G1.out))
    clear X1_71
    have q2_0_79 := Chg.cell (Chg.trans (by repeat (first | exact Chg.refl _ _ | apply Chg.drew | apply Chg.drewN | refine Chg.alloc ?_ _)) G1.out) q2_0_72 id
    clear q2_0_72
    have q2_1_80 := Chg.cell (Chg.trans (by repeat (first | exact Chg.refl _ _ | apply Chg.drew | apply Chg.drewN | refine Chg.alloc ?_ _)) G1.out) q2_1_73 id
    clear q2_1_73
    have W0_81 := Lib.hid (W0_74.out.up (Chg.trans (by repeat (first | exact Chg.refl _ _ | apply Chg.drew | apply Chg.drewN | refine Chg.alloc ?_ _)) G1.out))
    clear W0_74
    have M0_82 := Lib.hid (M0_75.out.up (Chg.trans (by repeat (first | exact Chg.refl _ _ | apply Chg.drew | apply Chg.drewN | refine Chg.alloc ?_ _)) G1.out))
    clear M0_75
    clear G1
    go_wp2
    have U_h83 := U_77
    clear U_77
    have X1_h83 := X1_78
    clear X1_78
    have q2_0_h83 := q2_0_79
    clear q2_0_79
    have q2_1_h83 := q2_1_80
    clear q2_1_80
    have W0_h83 := W0_81
    clear W0_81
    have M0_h83 := M0_82
    clear M0_82
    go_region_held3 (fun w' => w'.cell? ⟨w.heap.size, 0, none⟩ = some (.int .i64 a2f) ∧ w'.cell? ⟨w.heap.size, 1, none⟩ = some (.int .i64 a2t))
        (first | (exact ⟨q2_0_h83, q2_1_h83⟩) | (obtain ⟨p0, p1⟩ : (World.cell? _ _ = _ ∧ World.cell? _ _ = _) := (by assumption); exact ⟨Chg.cell g1 p0 id, Chg.cell g1 p1 id⟩))
        (first | (go_at_call 12; refine (toOps _ _ _ a1 (by unfold cntOps; omega) (X1_h83.out.up (by repeat (first | exact Chg.refl _ _ | apply Chg.drew | apply Chg.drewN | refine Chg.alloc ?_ _)))).mono ?_; rintro e w83 ⟨v83, rfl, k1, g1⟩; obtain ⟨A83, c83, rfl, hl83, hc83, -⟩ := k1.shape; have C_h83 := Lib.hid k1; have hz83_1 := g1.size; have U_h83 := Lib.hid (Chg.trans U_h83.out (Chg.trans (by repeat (first | exact Chg.refl _ _ | apply Chg.drew | apply Chg.drewN | refine Chg.alloc ?_ _)) g1)); have X1_h83 := Lib.hid (X1_h83.out.up (Chg.trans (by repeat (first | exact Chg.refl _ _ | apply Chg.drew | apply Chg.drewN | refine Chg.alloc ?_ _)) g1)); have q2_0_h83 := Chg.cell (Chg.trans (by repeat (first | exact Chg.refl _ _ | apply Chg.drew | apply Chg.drewN | refine Chg.alloc ?_ _)) g1) q2_0_h83 id; have q2_1_h83 := Chg.cell (Chg.trans (by repeat (first | exact Chg.refl _ _ | apply Chg.drew | apply Chg.drewN | refine Chg.alloc ?_ _)) g1) q2_1_h83 id; have W0_h83 := Lib.hid (W0_h83.out.up (Chg.trans (by repeat (first | exact Chg.refl _ _ | apply Chg.drew | apply Chg.drewN | refine Chg.alloc ?_ _)) g1)); have M0_h83 := Lib.hid (M0_h83.out.up (Chg.trans (by repeat (first | exact Chg.refl _ _ | apply Chg.drew | apply Chg.drewN | refine Chg.alloc ?_ _)) g1)); clear k1) | (go_at_call 21; refine (toSaving_any _ a2f a2t).mono ?_; rintro e w83_2 ⟨rfl, g1⟩; have hz83_2 := g1.size; have U_h83 := Lib.hid (Chg.trans U_h83.out (Chg.trans (by repeat (first | exact Chg.refl _ _ | apply Chg.drew | apply Chg.drewN | refine Chg.alloc ?_ _)) g1)); have X1_h83 := Lib.hid (X1_h83.out.up (Chg.trans (by repeat (first | exact Chg.refl _ _ | apply Chg.drew | apply Chg.drewN | refine Chg.alloc ?_ _)) g1)); have q2_0_h83 := Chg.cell (Chg.trans (by repeat (first | exact Chg.refl _ _ | apply Chg.drew | apply Chg.drewN | refine Chg.alloc ?_ _)) g1) q2_0_h83 id; have q2_1_h83 := Chg.cell (Chg.trans (by repeat (first | exact Chg.refl _ _ | apply Chg.drew | apply Chg.drewN | refine Chg.alloc ?_ _)) g1) q2_1_h83 id; have W0_h83 := Lib.hid (W0_h83.out.up (Chg.trans (by repeat (first | exact Chg.refl _ _ | apply Chg.drew | apply Chg.drewN | refine Chg.alloc ?_ _)) g1)); have M0_h83 := Lib.hid (M0_h83.out.up (Chg.trans (by repeat (first | exact Chg.refl _ _ | apply Chg.drew | apply Chg.drewN | refine Chg.alloc ?_ _)) g1)); (try have C_h83 := Lib.hid (C_h83.out.up (Chg.trans (by repeat (first | exact Chg.refl _ _ | apply Chg.drew | apply Chg.drewN | refine Chg.alloc ?_ _)) g1)))) | (go_at_call 22; refine (ApplySavingT _ a0 _ _ a1 (C_h83.out.up (by repeat (first | exact Chg.refl _ _ | apply Chg.drew | apply Chg.drewN | refine Chg.alloc ?_ _))) a2f a2t).mono ?_; rintro e w83_3 ⟨v83_3, rfl, k1, g1⟩; obtain ⟨B83, d83, rfl, hm83, hd83, -⟩ := k1.shape; have hz83_3 := g1.size; have U_h83 := Lib.hid (Chg.trans U_h83.out (Chg.trans (by repeat (first | exact Chg.refl _ _ | apply Chg.drew | apply Chg.drewN | refine Chg.alloc ?_ _)) g1)); have X1_h83 := Lib.hid (X1_h83.out.up (Chg.trans (by repeat (first | exact Chg.refl _ _ | apply Chg.drew | apply Chg.drewN | refine Chg.alloc ?_ _)) g1)); have q2_0_h83 := Chg.cell (Chg.trans (by repeat (first | exact Chg.refl _ _ | apply Chg.drew | apply Chg.drewN | refine Chg.alloc ?_ _)) g1) q2_0_h83 id; have q2_1_h83 := Chg.cell (Chg.trans (by repeat (first | exact Chg.refl _ _ | apply Chg.drew | apply Chg.drewN | refine Chg.alloc ?_ _)) g1) q2_1_h83 id; have W0_h83 := Lib.hid (W0_h83.out.up (Chg.trans (by repeat (first | exact Chg.refl _ _ | apply Chg.drew | apply Chg.drewN | refine Chg.alloc ?_ _)) g1)); have M0_h83 := Lib.hid (M0_h83.out.up (Chg.trans (by repeat (first | exact Chg.refl _ _ | apply Chg.drew | apply Chg.drewN | refine Chg.alloc ?_ _)) g1)); have D_h83 := Lib.hid k1; clear k1))
    all_goals
      clear g1
      try clear C_h83
      have hzu83 := U_h83.out.size
      have hzv83 : w.heap.size < w83_3.heap.size := World.block_lt_of_cell? _ _ q2_0_h83
      go_wp2_with fail
      refine (eqOps _ _ _ _ _ (apL a0 a1 a2f a2t) (D_h83.out.up (by repeat (first | exact Chg.refl _ _ | apply Chg.drew | apply Chg.drewN | refine Chg.alloc ?_ _))) (W0_h83.out.up (by repeat (first | exact Chg.refl _ _ | apply Chg.drew | apply Chg.drewN | refine Chg.alloc ?_ _)))).mono ?_
      rintro e w84 ⟨rfl, g1⟩
      have G1 := Lib.hid g1
      obtain ⟨hy84, hz84⟩ := up_prem (show Up w83_3 _ from (by repeat (first | exact Chg.refl _ _ | apply Chg.drew | apply Chg.drewN | refine Chg.alloc ?_ _))) G1.out
      clear g1
      have U_85 := Lib.hid (Chg.trans U_h83.out (Chg.trans (by repeat (first | exact Chg.refl _ _ | apply Chg.drew | apply Chg.drewN | refine Chg.alloc ?_ _)) G1.out))
      clear U_h83
      have X1_86 := Lib.hid (X1_h83.out.up (Chg.trans (by repeat (first | exact Chg.refl _ _ | apply Chg.drew | apply Chg.drewN | refine Chg.alloc ?_ _)) G1.out))
      clear X1_h83
      have q2_0_87 := Chg.cell (Chg.trans (by repeat (first | exact Chg.refl _ _ | apply Chg.drew | apply Chg.drewN | refine Chg.alloc ?_ _)) G1.out) q2_0_h83 id
      clear q2_0_h83
      have q2_1_88 := Chg.cell (Chg.trans (by repeat (first | exact Chg.refl _ _ | apply Chg.drew | apply Chg.drewN | refine Chg.alloc ?_ _)) G1.out) q2_1_h83 id
      clear q2_1_h83
      have W0_89 := Lib.hid (W0_h83.out.up (Chg.trans (by repeat (first | exact Chg.refl _ _ | apply Chg.drew | apply Chg.drewN | refine Chg.alloc ?_ _)) G1.out))
      clear W0_h83
      have M0_90 := Lib.hid (M0_h83.out.up (Chg.trans (by repeat (first | exact Chg.refl _ _ | apply Chg.drew | apply Chg.drewN | refine Chg.alloc ?_ _)) G1.out))
      clear M0_h83
      have H0_91 := Lib.hid (D_h83.out.up (Chg.trans (by repeat (first | exact Chg.refl _ _ | apply Chg.drew | apply Chg.drewN | refine Chg.alloc ?_ _)) G1.out))
      clear D_h83
      clear G1
      go_wp2_with fail
      refine (heldOps _ _ _ (apL a0 a1 a2f a2t) (1) hr1_0 hr2_0 (M0_90.out.up (by repeat (first | exact Chg.refl _ _ | apply Chg.drew | apply Chg.drewN | refine Chg.alloc ?_ _)))).mono ?_
      rintro e w92 ⟨rfl, g1⟩
      have G1 := Lib.hid g1
      obtain ⟨hy92, hz92⟩ := up_prem (show Up w84 _ from (by repeat (first | exact Chg.refl _ _ | apply Chg.drew | apply Chg.drewN | refine Chg.alloc ?_ _))) G1.out
      clear g1
      have U_93 := Lib.hid (Chg.trans U_85.out (Chg.trans (by repeat (first | exact Chg.refl _ _ | apply Chg.drew | apply Chg.drewN | refine Chg.alloc ?_ _)) G1.out))
      clear U_85
      have X1_94 := Lib.hid (X1_86.out.up (Chg.trans (by repeat (first | exact Chg.refl _ _ | apply Chg.drew | apply Chg.drewN | refine Chg.alloc ?_ _)) G1.out))
      clear X1_86
      have q2_0_95 := Chg.cell (Chg.trans (by repeat (first | exact Chg.refl _ _ | apply Chg.drew | apply Chg.drewN | refine Chg.alloc ?_ _)) G1.out) q2_0_87 id
      clear q2_0_87
      have q2_1_96 := Chg.cell (Chg.trans (by repeat (first | exact Chg.refl _ _ | apply Chg.drew | apply Chg.drewN | refine Chg.alloc ?_ _)) G1.out) q2_1_88 id
      clear q2_1_88
      have W0_97 := Lib.hid (W0_89.out.up (Chg.trans (by repeat (first | exact Chg.refl _ _ | apply Chg.drew | apply Chg.drewN | refine Chg.alloc ?_ _)) G1.out))
      clear W0_89
      have M0_98 := Lib.hid (M0_90.out.up (Chg.trans (by repeat (first | exact Chg.refl _ _ | apply Chg.drew | apply Chg.drewN | refine Chg.alloc ?_ _)) G1.out))
      clear M0_90
      have H0_99 := Lib.hid (H0_91.out.up (Chg.trans (by repeat (first | exact Chg.refl _ _ | apply Chg.drew | apply Chg.drewN | refine Chg.alloc ?_ _)) G1.out))
      clear H0_91
      clear G1
      go_wp2
      go_ret
      exact ⟨rfl, Up.below (Chg.trans U_93.out (by repeat (first | exact Chg.refl _ _ | apply Chg.drew | apply Chg.drewN | refine Chg.alloc ?_ _)))⟩
set_option maxRecDepth 100000 in
theorem walk (w : World) (a0 : Int) (ia0 : I64 a0) (v1 : Value) (a1 : List OpM) (ha1 : Ops w (fun b => b < w.heap.size) v1 a1) (a2f a2t : Int) (ia2f : I64 a2f) (ia2t : I64 a2t) :
    Calls Try.prog 6 #[.int .i64 a0, v1, .agg #[.int .i64 a2f, .int .i64 a2t]] w fun e w' => e = .returned (.bool true) ∧ Below w.heap.size w w' := by
  by_cases hbt : (a1.length : Int) ≤ 1048576
  rotate_left
  · skip
    obtain ⟨A1, c1, rfl, -⟩ := ha1.shape
    have X1 := Lib.hid ha1
    clear ha1
    have U0 := Lib.hid (Chg.refl Nowhere w)
    have hd : decide ((-1 : Int) < 0) = true := rfl
    have U_1 := Lib.hid (Chg.trans U0.out ((Chg.refl Nowhere w).alloc (.cells #[.int .i64 a2f, .int .i64 a2t] 38)))
    clear U0
    have X_2 := Lib.hid (X1.out.up ((Chg.refl Nowhere w).alloc (.cells #[.int .i64 a2f, .int .i64 a2t] 38)))
    clear X1
    have q2_0_3 := (show (w.alloc (.cells #[.int .i64 a2f, .int .i64 a2t] 38)).cell? ⟨w.heap.size, 0, none⟩ = some (.int .i64 a2f) from cell_new _ _ _ _)
    have q2_1_4 := (show (w.alloc (.cells #[.int .i64 a2f, .int .i64 a2t] 38)).cell? ⟨w.heap.size, 1, none⟩ = some (.int .i64 a2t) from cell_new _ _ _ _)
    have hbx5 : w.heap.size < (w.alloc (.cells #[.int .i64 a2f, .int .i64 a2t] 38)).heap.size := by simp
    go_enter Try.func6, Try.ntmps6
    go_wp2_with fail
    refine (szOps_no _ _ _ a1 1048576 (by omega) (by omega) (X_2.out.up (by repeat (first | exact Chg.refl _ _ | apply Chg.drew | apply Chg.drewN | refine Chg.alloc ?_ _)))).mono ?_
    rintro e _ ⟨rfl, rfl⟩
    go_wp2
    go_ret
    exact ⟨rfl, Up.below (Chg.trans U_1.out (by repeat (first | exact Chg.refl _ _ | apply Chg.drew | apply Chg.drewN | refine Chg.alloc ?_ _)))⟩
  exact walk0 w a0 ia0 v1 a1 ha1 a2f a2t ia2f ia2t hbt
end fnExactApplySaving
end Go.Proofs.Ytiiodfcbpmkodaa
