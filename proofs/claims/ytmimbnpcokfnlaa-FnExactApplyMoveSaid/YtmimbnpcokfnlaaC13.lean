/- The program's ApplyMove answers as the reference's, for every list and move; what it is given stays as it was; its memory is its own. No condition. -/
import Derived.Test.YtmimbnpcokfnlaaApp
import Derived.Test.YtmimbnpcokfnlaaRowLaw
namespace Go.Proofs.Ytmimbnpcokfnlaa
open Go.ChangeShapes Go.WideShapes Go.ChangeAt Go.RowKit
theorem sApplyMove_law (w : World) (S : Nat → Prop) (v : Value) (xs : List Int) (h : Ints w S v xs) (f t : Int) :
    Calls Try.prog 11 #[v, .agg #[.int .i64 f, .int .i64 t]] w fun e w' => ∃ v', e = .returned (.tuple #[v', .int .i64 (appCode xs f t)]) ∧ Ints w' (New w.heap.size w'.heap.size) v' (appOut xs f t) ∧ Up w w' := sApplyMove_any w S v xs f t h
theorem ApplyMove_law (w : World) (S : Nat → Prop) (v : Value) (xs : List Int) (h : Ints w S v xs) (f t : Int) :
    Calls Try.prog 14 #[v, .agg #[.int .i64 f, .int .i64 t]] w fun e w' => ∃ v', e = .returned (.tuple #[v', .int .i64 (appCode xs f t)]) ∧ Ints w' (New w.heap.size w'.heap.size) v' (appOut xs f t) ∧ Up w w' := ApplyMove_any w S v xs f t h
theorem appOut_len (xs : List Int) (f t : Int) : cntInts (appOut xs f t) ≤ 8 := by
  unfold cntInts
  by_cases h : appCode xs f t = 0
  · rw [appOut_yes h]
    have h1 := onceL_length (mvL xs f t) (mvL xs f t) xs.length
    have h2 : xs.length ≤ 8 := by
      cases hp : placesB false xs with
      | false => rw [appCode_a hp] at h; omega
      | true => exact (places_bd hp).1
    omega
  · rw [appOut_no rfl h]; simp
namespace fnExactApplyMove
set_option linter.unusedVariables false in
set_option maxRecDepth 100000 in
set_option maxHeartbeats 8000000 in
theorem walk0 (w : World) (v0 : Value) (a0 : List Int) (ha0 : Ints w (fun b => b < w.heap.size) v0 a0) (a1f a1t : Int) (ia1f : I64 a1f) (ia1t : I64 a1t) (hb0 : a0.length ≤ 1048576) :
    Calls Try.prog 3 #[v0, .agg #[.int .i64 a1f, .int .i64 a1t]] w fun e w' => e = .returned (.bool true) ∧ Below w.heap.size w w' := by
  have U0 := Lib.hid (Chg.refl Nowhere w)
  obtain ⟨A0, c0, rfl, hl0, hc0, -⟩ := ha0.shape
  have X0 := Lib.hid ha0
  clear ha0
  have U_1 := Lib.hid (Chg.trans U0.out ((Chg.refl Nowhere w).alloc (.cells #[.int .i64 a1f, .int .i64 a1t] 24)))
  clear U0
  have X0_2 := Lib.hid (X0.out.up ((Chg.refl Nowhere w).alloc (.cells #[.int .i64 a1f, .int .i64 a1t] 24)))
  clear X0
  have q1_0_3 := (show (w.alloc (.cells #[.int .i64 a1f, .int .i64 a1t] 24)).cell? ⟨w.heap.size, 0, none⟩ = some (.int .i64 a1f) from cell_new _ _ _ _)
  have q1_1_4 := (show (w.alloc (.cells #[.int .i64 a1f, .int .i64 a1t] 24)).cell? ⟨w.heap.size, 1, none⟩ = some (.int .i64 a1t) from cell_new _ _ _ _)
  have hbx5 : w.heap.size < (w.alloc (.cells #[.int .i64 a1f, .int .i64 a1t] 24)).heap.size := by simp
  go_enter Try.func3, Try.ntmps3
  go_wp2
  have U_h6 := U_1
  clear U_1
  have X0_h6 := X0_2
  clear X0_2
  have q1_0_h6 := q1_0_3
  clear q1_0_3
  have q1_1_h6 := q1_1_4
  clear q1_1_4
  go_region_held3 (fun w' => w'.cell? ⟨w.heap.size, 0, none⟩ = some (.int .i64 a1f) ∧ w'.cell? ⟨w.heap.size, 1, none⟩ = some (.int .i64 a1t))
      (first | (exact ⟨q1_0_h6, q1_1_h6⟩) | (obtain ⟨p0, p1⟩ : (World.cell? _ _ = _ ∧ World.cell? _ _ = _) := (by assumption); exact ⟨Chg.cell g1 p0 id, Chg.cell g1 p1 id⟩))
      (first | (go_at_call 12; refine (toInts _ _ _ a0 (by unfold cntInts; omega) (X0_h6.out.up (by repeat (first | exact Chg.refl _ _ | apply Chg.drew | apply Chg.drewN | refine Chg.alloc ?_ _)))).mono ?_; rintro e w6 ⟨v6, rfl, k1, g1⟩; obtain ⟨A6, c6, rfl, hl6, hc6, -⟩ := k1.shape; have C_h6 := Lib.hid k1; have hz6_1 := g1.size; have U_h6 := Lib.hid (Chg.trans U_h6.out (Chg.trans (by repeat (first | exact Chg.refl _ _ | apply Chg.drew | apply Chg.drewN | refine Chg.alloc ?_ _)) g1)); have X0_h6 := Lib.hid (X0_h6.out.up (Chg.trans (by repeat (first | exact Chg.refl _ _ | apply Chg.drew | apply Chg.drewN | refine Chg.alloc ?_ _)) g1)); have q1_0_h6 := Chg.cell (Chg.trans (by repeat (first | exact Chg.refl _ _ | apply Chg.drew | apply Chg.drewN | refine Chg.alloc ?_ _)) g1) q1_0_h6 id; have q1_1_h6 := Chg.cell (Chg.trans (by repeat (first | exact Chg.refl _ _ | apply Chg.drew | apply Chg.drewN | refine Chg.alloc ?_ _)) g1) q1_1_h6 id; clear k1) | (go_at_call 13; refine (toMove_any _ a1f a1t).mono ?_; rintro e w6_2 ⟨rfl, g1⟩; have hz6_2 := g1.size; have U_h6 := Lib.hid (Chg.trans U_h6.out (Chg.trans (by repeat (first | exact Chg.refl _ _ | apply Chg.drew | apply Chg.drewN | refine Chg.alloc ?_ _)) g1)); have X0_h6 := Lib.hid (X0_h6.out.up (Chg.trans (by repeat (first | exact Chg.refl _ _ | apply Chg.drew | apply Chg.drewN | refine Chg.alloc ?_ _)) g1)); have q1_0_h6 := Chg.cell (Chg.trans (by repeat (first | exact Chg.refl _ _ | apply Chg.drew | apply Chg.drewN | refine Chg.alloc ?_ _)) g1) q1_0_h6 id; have q1_1_h6 := Chg.cell (Chg.trans (by repeat (first | exact Chg.refl _ _ | apply Chg.drew | apply Chg.drewN | refine Chg.alloc ?_ _)) g1) q1_1_h6 id; (try have C_h6 := Lib.hid (C_h6.out.up (Chg.trans (by repeat (first | exact Chg.refl _ _ | apply Chg.drew | apply Chg.drewN | refine Chg.alloc ?_ _)) g1)))) | (go_at_call 11; refine (sApplyMove_law _ _ _ a0 (C_h6.out.up (by repeat (first | exact Chg.refl _ _ | apply Chg.drew | apply Chg.drewN | refine Chg.alloc ?_ _))) a1f a1t).mono ?_; rintro e w6_3 ⟨v6_3, rfl, k1, g1⟩; obtain ⟨B6, d6, rfl, hm6, hd6, -⟩ := k1.shape; have hz6_3 := g1.size; have U_h6 := Lib.hid (Chg.trans U_h6.out (Chg.trans (by repeat (first | exact Chg.refl _ _ | apply Chg.drew | apply Chg.drewN | refine Chg.alloc ?_ _)) g1)); have X0_h6 := Lib.hid (X0_h6.out.up (Chg.trans (by repeat (first | exact Chg.refl _ _ | apply Chg.drew | apply Chg.drewN | refine Chg.alloc ?_ _)) g1)); have q1_0_h6 := Chg.cell (Chg.trans (by repeat (first | exact Chg.refl _ _ | apply Chg.drew | apply Chg.drewN | refine Chg.alloc ?_ _)) g1) q1_0_h6 id; have q1_1_h6 := Chg.cell (Chg.trans (by repeat (first | exact Chg.refl _ _ | apply Chg.drew | apply Chg.drewN | refine Chg.alloc ?_ _)) g1) q1_1_h6 id; have D_h6 := Lib.hid k1; clear k1))
  all_goals
    clear g1
    try clear C_h6
    have hzu6 := U_h6.out.size
    have hzv6 : w.heap.size < w6_3.heap.size := World.block_lt_of_cell? _ _ q1_0_h6
    go_wp2_with fail
    refine (toInts _ _ _ a0 (by unfold cntInts; omega) (X0_h6.out.up (by repeat (first | exact Chg.refl _ _ | apply Chg.drew | apply Chg.drewN | refine Chg.alloc ?_ _)))).mono ?_
    rintro e w7 ⟨v7, rfl, k1, g1⟩
    obtain ⟨A7, c7, rfl, hl7, hc7, -⟩ := k1.shape
    have K1 := Lib.hid k1
    clear k1
    have G1 := Lib.hid g1
    obtain ⟨hy7, hz7⟩ := up_pre (show Up w6_3 _ from (by repeat (first | exact Chg.refl _ _ | apply Chg.drew | apply Chg.drewN | refine Chg.alloc ?_ _))) G1.out
    clear g1
    have U_8 := Lib.hid (Chg.trans U_h6.out (Chg.trans (by repeat (first | exact Chg.refl _ _ | apply Chg.drew | apply Chg.drewN | refine Chg.alloc ?_ _)) G1.out))
    clear U_h6
    have X0_9 := Lib.hid (X0_h6.out.up (Chg.trans (by repeat (first | exact Chg.refl _ _ | apply Chg.drew | apply Chg.drewN | refine Chg.alloc ?_ _)) G1.out))
    clear X0_h6
    have q1_0_10 := Chg.cell (Chg.trans (by repeat (first | exact Chg.refl _ _ | apply Chg.drew | apply Chg.drewN | refine Chg.alloc ?_ _)) G1.out) q1_0_h6 id
    clear q1_0_h6
    have q1_1_11 := Chg.cell (Chg.trans (by repeat (first | exact Chg.refl _ _ | apply Chg.drew | apply Chg.drewN | refine Chg.alloc ?_ _)) G1.out) q1_1_h6 id
    clear q1_1_h6
    have W0_12 := Lib.hid (D_h6.out.up (Chg.trans (by repeat (first | exact Chg.refl _ _ | apply Chg.drew | apply Chg.drewN | refine Chg.alloc ?_ _)) G1.out))
    clear D_h6
    clear G1
    have C0_13 := Lib.hid (K1.out)
    clear K1
    go_wp2_with fail
    refine (toMove_any _ a1f a1t).mono ?_
    rintro e w14 ⟨rfl, g1⟩
    have G1 := Lib.hid g1
    obtain ⟨hy14, hz14⟩ := up_pre (show Up w7 _ from (by repeat (first | exact Chg.refl _ _ | apply Chg.drew | apply Chg.drewN | refine Chg.alloc ?_ _))) G1.out
    clear g1
    have U_15 := Lib.hid (Chg.trans U_8.out (Chg.trans (by repeat (first | exact Chg.refl _ _ | apply Chg.drew | apply Chg.drewN | refine Chg.alloc ?_ _)) G1.out))
    clear U_8
    have X0_16 := Lib.hid (X0_9.out.up (Chg.trans (by repeat (first | exact Chg.refl _ _ | apply Chg.drew | apply Chg.drewN | refine Chg.alloc ?_ _)) G1.out))
    clear X0_9
    have q1_0_17 := Chg.cell (Chg.trans (by repeat (first | exact Chg.refl _ _ | apply Chg.drew | apply Chg.drewN | refine Chg.alloc ?_ _)) G1.out) q1_0_10 id
    clear q1_0_10
    have q1_1_18 := Chg.cell (Chg.trans (by repeat (first | exact Chg.refl _ _ | apply Chg.drew | apply Chg.drewN | refine Chg.alloc ?_ _)) G1.out) q1_1_11 id
    clear q1_1_11
    have W0_19 := Lib.hid (W0_12.out.up (Chg.trans (by repeat (first | exact Chg.refl _ _ | apply Chg.drew | apply Chg.drewN | refine Chg.alloc ?_ _)) G1.out))
    clear W0_12
    have C0_20 := Lib.hid (C0_13.out.up (Chg.trans (by repeat (first | exact Chg.refl _ _ | apply Chg.drew | apply Chg.drewN | refine Chg.alloc ?_ _)) G1.out))
    clear C0_13
    clear G1
    go_wp2_with fail
    refine (ApplyMove_law _ _ _ a0 (C0_20.out.up (by repeat (first | exact Chg.refl _ _ | apply Chg.drew | apply Chg.drewN | refine Chg.alloc ?_ _))) a1f a1t).mono ?_
    rintro e w21 ⟨v21, rfl, k1, g1⟩
    obtain ⟨A21, c21, rfl, hl21, hc21, -⟩ := k1.shape
    have K1 := Lib.hid k1
    clear k1
    have G1 := Lib.hid g1
    obtain ⟨hy21, hz21⟩ := up_pre (show Up w14 _ from (by repeat (first | exact Chg.refl _ _ | apply Chg.drew | apply Chg.drewN | refine Chg.alloc ?_ _))) G1.out
    clear g1
    have U_22 := Lib.hid (Chg.trans U_15.out (Chg.trans (by repeat (first | exact Chg.refl _ _ | apply Chg.drew | apply Chg.drewN | refine Chg.alloc ?_ _)) G1.out))
    clear U_15
    have X0_23 := Lib.hid (X0_16.out.up (Chg.trans (by repeat (first | exact Chg.refl _ _ | apply Chg.drew | apply Chg.drewN | refine Chg.alloc ?_ _)) G1.out))
    clear X0_16
    have q1_0_24 := Chg.cell (Chg.trans (by repeat (first | exact Chg.refl _ _ | apply Chg.drew | apply Chg.drewN | refine Chg.alloc ?_ _)) G1.out) q1_0_17 id
    clear q1_0_17
    have q1_1_25 := Chg.cell (Chg.trans (by repeat (first | exact Chg.refl _ _ | apply Chg.drew | apply Chg.drewN | refine Chg.alloc ?_ _)) G1.out) q1_1_18 id
    clear q1_1_18
    have W0_26 := Lib.hid (W0_19.out.up (Chg.trans (by repeat (first | exact Chg.refl _ _ | apply Chg.drew | apply Chg.drewN | refine Chg.alloc ?_ _)) G1.out))
    clear W0_19
    have C0_27 := Lib.hid (C0_20.out.up (Chg.trans (by repeat (first | exact Chg.refl _ _ | apply Chg.drew | apply Chg.drewN | refine Chg.alloc ?_ _)) G1.out))
    clear C0_20
    clear G1
    have R0_28 := Lib.hid (K1.out)
    clear K1
    go_wp2_with fail
    refine (eqInts _ _ _ _ _ (appOut a0 a1f a1t) (R0_28.out.up (by repeat (first | exact Chg.refl _ _ | apply Chg.drew | apply Chg.drewN | refine Chg.alloc ?_ _))) (W0_26.out.up (by repeat (first | exact Chg.refl _ _ | apply Chg.drew | apply Chg.drewN | refine Chg.alloc ?_ _)))).mono ?_
    rintro e w29 ⟨rfl, g1⟩
    have G1 := Lib.hid g1
    obtain ⟨hy29, hz29⟩ := up_pre (show Up w21 _ from (by repeat (first | exact Chg.refl _ _ | apply Chg.drew | apply Chg.drewN | refine Chg.alloc ?_ _))) G1.out
    clear g1
    have U_30 := Lib.hid (Chg.trans U_22.out (Chg.trans (by repeat (first | exact Chg.refl _ _ | apply Chg.drew | apply Chg.drewN | refine Chg.alloc ?_ _)) G1.out))
    clear U_22
    have X0_31 := Lib.hid (X0_23.out.up (Chg.trans (by repeat (first | exact Chg.refl _ _ | apply Chg.drew | apply Chg.drewN | refine Chg.alloc ?_ _)) G1.out))
    clear X0_23
    have q1_0_32 := Chg.cell (Chg.trans (by repeat (first | exact Chg.refl _ _ | apply Chg.drew | apply Chg.drewN | refine Chg.alloc ?_ _)) G1.out) q1_0_24 id
    clear q1_0_24
    have q1_1_33 := Chg.cell (Chg.trans (by repeat (first | exact Chg.refl _ _ | apply Chg.drew | apply Chg.drewN | refine Chg.alloc ?_ _)) G1.out) q1_1_25 id
    clear q1_1_25
    have W0_34 := Lib.hid (W0_26.out.up (Chg.trans (by repeat (first | exact Chg.refl _ _ | apply Chg.drew | apply Chg.drewN | refine Chg.alloc ?_ _)) G1.out))
    clear W0_26
    have C0_35 := Lib.hid (C0_27.out.up (Chg.trans (by repeat (first | exact Chg.refl _ _ | apply Chg.drew | apply Chg.drewN | refine Chg.alloc ?_ _)) G1.out))
    clear C0_27
    have R0_36 := Lib.hid (R0_28.out.up (Chg.trans (by repeat (first | exact Chg.refl _ _ | apply Chg.drew | apply Chg.drewN | refine Chg.alloc ?_ _)) G1.out))
    clear R0_28
    clear G1
    go_wp2_with fail
    refine (toInts _ _ _ a0 (by unfold cntInts; omega) (X0_31.out.up (by repeat (first | exact Chg.refl _ _ | apply Chg.drew | apply Chg.drewN | refine Chg.alloc ?_ _)))).mono ?_
    rintro e w37 ⟨v37, rfl, k1, g1⟩
    obtain ⟨A37, c37, rfl, hl37, hc37, -⟩ := k1.shape
    have K1 := Lib.hid k1
    clear k1
    have G1 := Lib.hid g1
    obtain ⟨hy37, hz37⟩ := up_pre (show Up w29 _ from (by repeat (first | exact Chg.refl _ _ | apply Chg.drew | apply Chg.drewN | refine Chg.alloc ?_ _))) G1.out
    clear g1
    have U_38 := Lib.hid (Chg.trans U_30.out (Chg.trans (by repeat (first | exact Chg.refl _ _ | apply Chg.drew | apply Chg.drewN | refine Chg.alloc ?_ _)) G1.out))
    clear U_30
    have X0_39 := Lib.hid (X0_31.out.up (Chg.trans (by repeat (first | exact Chg.refl _ _ | apply Chg.drew | apply Chg.drewN | refine Chg.alloc ?_ _)) G1.out))
    clear X0_31
    have q1_0_40 := Chg.cell (Chg.trans (by repeat (first | exact Chg.refl _ _ | apply Chg.drew | apply Chg.drewN | refine Chg.alloc ?_ _)) G1.out) q1_0_32 id
    clear q1_0_32
    have q1_1_41 := Chg.cell (Chg.trans (by repeat (first | exact Chg.refl _ _ | apply Chg.drew | apply Chg.drewN | refine Chg.alloc ?_ _)) G1.out) q1_1_33 id
    clear q1_1_33
    have W0_42 := Lib.hid (W0_34.out.up (Chg.trans (by repeat (first | exact Chg.refl _ _ | apply Chg.drew | apply Chg.drewN | refine Chg.alloc ?_ _)) G1.out))
    clear W0_34
    have C0_43 := Lib.hid (C0_35.out.up (Chg.trans (by repeat (first | exact Chg.refl _ _ | apply Chg.drew | apply Chg.drewN | refine Chg.alloc ?_ _)) G1.out))
    clear C0_35
    have R0_44 := Lib.hid (R0_36.out.up (Chg.trans (by repeat (first | exact Chg.refl _ _ | apply Chg.drew | apply Chg.drewN | refine Chg.alloc ?_ _)) G1.out))
    clear R0_36
    clear G1
    have D0_45 := Lib.hid (K1.out)
    clear K1
    go_wp2_with fail
    refine (eqInts _ _ _ _ _ a0 (C0_43.out.up (by repeat (first | exact Chg.refl _ _ | apply Chg.drew | apply Chg.drewN | refine Chg.alloc ?_ _))) (D0_45.out.up (by repeat (first | exact Chg.refl _ _ | apply Chg.drew | apply Chg.drewN | refine Chg.alloc ?_ _)))).mono ?_
    rintro e w46 ⟨rfl, g1⟩
    have G1 := Lib.hid g1
    obtain ⟨hy46, hz46⟩ := up_pre (show Up w37 _ from (by repeat (first | exact Chg.refl _ _ | apply Chg.drew | apply Chg.drewN | refine Chg.alloc ?_ _))) G1.out
    clear g1
    have U_47 := Lib.hid (Chg.trans U_38.out (Chg.trans (by repeat (first | exact Chg.refl _ _ | apply Chg.drew | apply Chg.drewN | refine Chg.alloc ?_ _)) G1.out))
    clear U_38
    have X0_48 := Lib.hid (X0_39.out.up (Chg.trans (by repeat (first | exact Chg.refl _ _ | apply Chg.drew | apply Chg.drewN | refine Chg.alloc ?_ _)) G1.out))
    clear X0_39
    have q1_0_49 := Chg.cell (Chg.trans (by repeat (first | exact Chg.refl _ _ | apply Chg.drew | apply Chg.drewN | refine Chg.alloc ?_ _)) G1.out) q1_0_40 id
    clear q1_0_40
    have q1_1_50 := Chg.cell (Chg.trans (by repeat (first | exact Chg.refl _ _ | apply Chg.drew | apply Chg.drewN | refine Chg.alloc ?_ _)) G1.out) q1_1_41 id
    clear q1_1_41
    have W0_51 := Lib.hid (W0_42.out.up (Chg.trans (by repeat (first | exact Chg.refl _ _ | apply Chg.drew | apply Chg.drewN | refine Chg.alloc ?_ _)) G1.out))
    clear W0_42
    have C0_52 := Lib.hid (C0_43.out.up (Chg.trans (by repeat (first | exact Chg.refl _ _ | apply Chg.drew | apply Chg.drewN | refine Chg.alloc ?_ _)) G1.out))
    clear C0_43
    have R0_53 := Lib.hid (R0_44.out.up (Chg.trans (by repeat (first | exact Chg.refl _ _ | apply Chg.drew | apply Chg.drewN | refine Chg.alloc ?_ _)) G1.out))
    clear R0_44
    have D0_54 := Lib.hid (D0_45.out.up (Chg.trans (by repeat (first | exact Chg.refl _ _ | apply Chg.drew | apply Chg.drewN | refine Chg.alloc ?_ _)) G1.out))
    clear D0_45
    clear G1
    clear D0_54
    have hp0 : (0 : Int) ≤ (1 : Int) := by omega
    have hr0' : cntInts a0 ≤ 8388608 := by unfold cntInts; omega
    have hq0 : (1 : Int) + cntInts a0 ≤ 4611686018427387904 := by omega
    go_wp2_with fail
    refine (markInts _ _ _ a0 ((1 : Int)) hp0 hq0 (C0_52.out.up (by repeat (first | exact Chg.refl _ _ | apply Chg.drew | apply Chg.drewN | refine Chg.alloc ?_ _)))).mono ?_
    rintro e w55 ⟨rfl, g1, -⟩
    have G1 := Lib.hid g1
    obtain ⟨hy55, hz55⟩ := up_pre (show Up w46 _ from (by repeat (first | exact Chg.refl _ _ | apply Chg.drew | apply Chg.drewN | refine Chg.alloc ?_ _))) G1.out
    clear g1
    clear C0_52
    have U_56 := Lib.hid (Chg.new (Chg.trans U_47.out (by repeat (first | exact Chg.refl _ _ | apply Chg.drew | apply Chg.drewN | refine Chg.alloc ?_ _))) G1.out (fun i hi h2 => by simp only [New] at h2; first | omega | (simp at h2; omega)))
    clear U_47
    have X0_57 := Lib.hid ((X0_48.out.up (by repeat (first | exact Chg.refl _ _ | apply Chg.drew | apply Chg.drewN | refine Chg.alloc ?_ _))).keep G1.out (fun b hb h1 h2 => by simp only [New] at h1 h2; first | omega | (simp at h1 h2; omega)))
    clear X0_48
    have q1_0_58 := Chg.cell G1.out (Chg.cell (S := Nowhere) (by repeat (first | exact Chg.refl _ _ | apply Chg.drew | apply Chg.drewN | refine Chg.alloc ?_ _)) q1_0_49 id) (fun h2 => by simp only [New] at h2; first | omega | (simp at h2; omega))
    clear q1_0_49
    have q1_1_59 := Chg.cell G1.out (Chg.cell (S := Nowhere) (by repeat (first | exact Chg.refl _ _ | apply Chg.drew | apply Chg.drewN | refine Chg.alloc ?_ _)) q1_1_50 id) (fun h2 => by simp only [New] at h2; first | omega | (simp at h2; omega))
    clear q1_1_50
    have W0_60 := Lib.hid ((W0_51.out.up (by repeat (first | exact Chg.refl _ _ | apply Chg.drew | apply Chg.drewN | refine Chg.alloc ?_ _))).keep G1.out (fun b hb h1 h2 => by simp only [New] at h1 h2; first | omega | (simp at h1 h2; omega)))
    clear W0_51
    have R0_61 := Lib.hid ((R0_53.out.up (by repeat (first | exact Chg.refl _ _ | apply Chg.drew | apply Chg.drewN | refine Chg.alloc ?_ _))).keep G1.out (fun b hb h1 h2 => by simp only [New] at h1 h2; first | omega | (simp at h1 h2; omega)))
    clear R0_53
    clear G1
    have hneg : decide (((1 : Int) + cntInts a0 : Int) < 0) = false := decide_eq_false (by omega)
    go_wp2_with fail
    refine (eqInts _ _ _ _ _ (appOut a0 a1f a1t) (R0_61.out.up (by repeat (first | exact Chg.refl _ _ | apply Chg.drew | apply Chg.drewN | refine Chg.alloc ?_ _))) (W0_60.out.up (by repeat (first | exact Chg.refl _ _ | apply Chg.drew | apply Chg.drewN | refine Chg.alloc ?_ _)))).mono ?_
    rintro e w62 ⟨rfl, g1⟩
    have G1 := Lib.hid g1
    obtain ⟨hy62, hz62⟩ := up_pre (show Up w55 _ from (by repeat (first | exact Chg.refl _ _ | apply Chg.drew | apply Chg.drewN | refine Chg.alloc ?_ _))) G1.out
    clear g1
    have U_63 := Lib.hid (Chg.trans U_56.out (Chg.trans (by repeat (first | exact Chg.refl _ _ | apply Chg.drew | apply Chg.drewN | refine Chg.alloc ?_ _)) G1.out))
    clear U_56
    have X0_64 := Lib.hid (X0_57.out.up (Chg.trans (by repeat (first | exact Chg.refl _ _ | apply Chg.drew | apply Chg.drewN | refine Chg.alloc ?_ _)) G1.out))
    clear X0_57
    have q1_0_65 := Chg.cell (Chg.trans (by repeat (first | exact Chg.refl _ _ | apply Chg.drew | apply Chg.drewN | refine Chg.alloc ?_ _)) G1.out) q1_0_58 id
    clear q1_0_58
    have q1_1_66 := Chg.cell (Chg.trans (by repeat (first | exact Chg.refl _ _ | apply Chg.drew | apply Chg.drewN | refine Chg.alloc ?_ _)) G1.out) q1_1_59 id
    clear q1_1_59
    have W0_67 := Lib.hid (W0_60.out.up (Chg.trans (by repeat (first | exact Chg.refl _ _ | apply Chg.drew | apply Chg.drewN | refine Chg.alloc ?_ _)) G1.out))
    clear W0_60
    have R0_68 := Lib.hid (R0_61.out.up (Chg.trans (by repeat (first | exact Chg.refl _ _ | apply Chg.drew | apply Chg.drewN | refine Chg.alloc ?_ _)) G1.out))
    clear R0_61
    clear G1
    clear hneg
    have HR := Lib.hid (appOut_len a0 a1f a1t)
    have hr1_0 : (0 : Int) ≤ 1 := by omega
    have hr2_0 : (1 : Int) + cntInts (appOut a0 a1f a1t) ≤ 4611686018427387904 := by have := HR.out; omega
    go_wp2_with fail
    refine (markInts _ _ _ (appOut a0 a1f a1t) (1) hr1_0 hr2_0 (R0_68.out.up (by repeat (first | exact Chg.refl _ _ | apply Chg.drew | apply Chg.drewN | refine Chg.alloc ?_ _)))).mono ?_
    rintro e w69 ⟨rfl, g1, k1⟩
    have G1 := Lib.hid g1
    obtain ⟨hy69, hz69⟩ := up_pre (show Up w62 _ from (by repeat (first | exact Chg.refl _ _ | apply Chg.drew | apply Chg.drewN | refine Chg.alloc ?_ _))) G1.out
    have K1 := Lib.hid k1
    clear g1 k1
    clear R0_68
    have U_70 := Lib.hid (Chg.new (Chg.trans U_63.out (by repeat (first | exact Chg.refl _ _ | apply Chg.drew | apply Chg.drewN | refine Chg.alloc ?_ _))) G1.out (fun i hi h2 => by simp only [New] at h2; first | omega | (simp at h2; omega)))
    clear U_63
    have X0_71 := Lib.hid ((X0_64.out.up (by repeat (first | exact Chg.refl _ _ | apply Chg.drew | apply Chg.drewN | refine Chg.alloc ?_ _))).keep G1.out (fun b hb h1 h2 => by simp only [New] at h1 h2; first | omega | (simp at h1 h2; omega)))
    clear X0_64
    have q1_0_72 := Chg.cell G1.out (Chg.cell (S := Nowhere) (by repeat (first | exact Chg.refl _ _ | apply Chg.drew | apply Chg.drewN | refine Chg.alloc ?_ _)) q1_0_65 id) (fun h2 => by simp only [New] at h2; first | omega | (simp at h2; omega))
    clear q1_0_65
    have q1_1_73 := Chg.cell G1.out (Chg.cell (S := Nowhere) (by repeat (first | exact Chg.refl _ _ | apply Chg.drew | apply Chg.drewN | refine Chg.alloc ?_ _)) q1_1_66 id) (fun h2 => by simp only [New] at h2; first | omega | (simp at h2; omega))
    clear q1_1_66
    have W0_74 := Lib.hid ((W0_67.out.up (by repeat (first | exact Chg.refl _ _ | apply Chg.drew | apply Chg.drewN | refine Chg.alloc ?_ _))).keep G1.out (fun b hb h1 h2 => by simp only [New] at h1 h2; first | omega | (simp at h1 h2; omega)))
    clear W0_67
    clear G1
    have M0_75 := Lib.hid (K1.out)
    clear K1
    have hneg0 : decide ((1 : Int) + cntInts (appOut a0 a1f a1t) < 0) = false := decide_eq_false (by omega)
    go_wp2_with fail
    refine (heldInts _ _ _ (appOut a0 a1f a1t) (1) hr1_0 hr2_0 (M0_75.out.up (by repeat (first | exact Chg.refl _ _ | apply Chg.drew | apply Chg.drewN | refine Chg.alloc ?_ _)))).mono ?_
    rintro e w76 ⟨rfl, g1⟩
    have G1 := Lib.hid g1
    obtain ⟨hy76, hz76⟩ := up_pre (show Up w69 _ from (by repeat (first | exact Chg.refl _ _ | apply Chg.drew | apply Chg.drewN | refine Chg.alloc ?_ _))) G1.out
    clear g1
    have U_77 := Lib.hid (Chg.trans U_70.out (Chg.trans (by repeat (first | exact Chg.refl _ _ | apply Chg.drew | apply Chg.drewN | refine Chg.alloc ?_ _)) G1.out))
    clear U_70
    have X0_78 := Lib.hid (X0_71.out.up (Chg.trans (by repeat (first | exact Chg.refl _ _ | apply Chg.drew | apply Chg.drewN | refine Chg.alloc ?_ _)) G1.out))
    clear X0_71
    have q1_0_79 := Chg.cell (Chg.trans (by repeat (first | exact Chg.refl _ _ | apply Chg.drew | apply Chg.drewN | refine Chg.alloc ?_ _)) G1.out) q1_0_72 id
    clear q1_0_72
    have q1_1_80 := Chg.cell (Chg.trans (by repeat (first | exact Chg.refl _ _ | apply Chg.drew | apply Chg.drewN | refine Chg.alloc ?_ _)) G1.out) q1_1_73 id
    clear q1_1_73
    have W0_81 := Lib.hid (W0_74.out.up (Chg.trans (by repeat (first | exact Chg.refl _ _ | apply Chg.drew | apply Chg.drewN | refine Chg.alloc ?_ _)) G1.out))
    clear W0_74
    have M0_82 := Lib.hid (M0_75.out.up (Chg.trans (by repeat (first | exact Chg.refl _ _ | apply Chg.drew | apply Chg.drewN | refine Chg.alloc ?_ _)) G1.out))
    clear M0_75
    clear G1
    go_wp2
    have U_h83 := U_77
    clear U_77
    have X0_h83 := X0_78
    clear X0_78
    have q1_0_h83 := q1_0_79
    clear q1_0_79
    have q1_1_h83 := q1_1_80
    clear q1_1_80
    have W0_h83 := W0_81
    clear W0_81
    have M0_h83 := M0_82
    clear M0_82
    go_region_held3 (fun w' => w'.cell? ⟨w.heap.size, 0, none⟩ = some (.int .i64 a1f) ∧ w'.cell? ⟨w.heap.size, 1, none⟩ = some (.int .i64 a1t))
        (first | (exact ⟨q1_0_h83, q1_1_h83⟩) | (obtain ⟨p0, p1⟩ : (World.cell? _ _ = _ ∧ World.cell? _ _ = _) := (by assumption); exact ⟨Chg.cell g1 p0 id, Chg.cell g1 p1 id⟩))
        (first | (go_at_call 12; refine (toInts _ _ _ a0 (by unfold cntInts; omega) (X0_h83.out.up (by repeat (first | exact Chg.refl _ _ | apply Chg.drew | apply Chg.drewN | refine Chg.alloc ?_ _)))).mono ?_; rintro e w83 ⟨v83, rfl, k1, g1⟩; obtain ⟨A83, c83, rfl, hl83, hc83, -⟩ := k1.shape; have C_h83 := Lib.hid k1; have hz83_1 := g1.size; have U_h83 := Lib.hid (Chg.trans U_h83.out (Chg.trans (by repeat (first | exact Chg.refl _ _ | apply Chg.drew | apply Chg.drewN | refine Chg.alloc ?_ _)) g1)); have X0_h83 := Lib.hid (X0_h83.out.up (Chg.trans (by repeat (first | exact Chg.refl _ _ | apply Chg.drew | apply Chg.drewN | refine Chg.alloc ?_ _)) g1)); have q1_0_h83 := Chg.cell (Chg.trans (by repeat (first | exact Chg.refl _ _ | apply Chg.drew | apply Chg.drewN | refine Chg.alloc ?_ _)) g1) q1_0_h83 id; have q1_1_h83 := Chg.cell (Chg.trans (by repeat (first | exact Chg.refl _ _ | apply Chg.drew | apply Chg.drewN | refine Chg.alloc ?_ _)) g1) q1_1_h83 id; have W0_h83 := Lib.hid (W0_h83.out.up (Chg.trans (by repeat (first | exact Chg.refl _ _ | apply Chg.drew | apply Chg.drewN | refine Chg.alloc ?_ _)) g1)); have M0_h83 := Lib.hid (M0_h83.out.up (Chg.trans (by repeat (first | exact Chg.refl _ _ | apply Chg.drew | apply Chg.drewN | refine Chg.alloc ?_ _)) g1)); clear k1) | (go_at_call 13; refine (toMove_any _ a1f a1t).mono ?_; rintro e w83_2 ⟨rfl, g1⟩; have hz83_2 := g1.size; have U_h83 := Lib.hid (Chg.trans U_h83.out (Chg.trans (by repeat (first | exact Chg.refl _ _ | apply Chg.drew | apply Chg.drewN | refine Chg.alloc ?_ _)) g1)); have X0_h83 := Lib.hid (X0_h83.out.up (Chg.trans (by repeat (first | exact Chg.refl _ _ | apply Chg.drew | apply Chg.drewN | refine Chg.alloc ?_ _)) g1)); have q1_0_h83 := Chg.cell (Chg.trans (by repeat (first | exact Chg.refl _ _ | apply Chg.drew | apply Chg.drewN | refine Chg.alloc ?_ _)) g1) q1_0_h83 id; have q1_1_h83 := Chg.cell (Chg.trans (by repeat (first | exact Chg.refl _ _ | apply Chg.drew | apply Chg.drewN | refine Chg.alloc ?_ _)) g1) q1_1_h83 id; have W0_h83 := Lib.hid (W0_h83.out.up (Chg.trans (by repeat (first | exact Chg.refl _ _ | apply Chg.drew | apply Chg.drewN | refine Chg.alloc ?_ _)) g1)); have M0_h83 := Lib.hid (M0_h83.out.up (Chg.trans (by repeat (first | exact Chg.refl _ _ | apply Chg.drew | apply Chg.drewN | refine Chg.alloc ?_ _)) g1)); (try have C_h83 := Lib.hid (C_h83.out.up (Chg.trans (by repeat (first | exact Chg.refl _ _ | apply Chg.drew | apply Chg.drewN | refine Chg.alloc ?_ _)) g1)))) | (go_at_call 14; refine (ApplyMove_law _ _ _ a0 (C_h83.out.up (by repeat (first | exact Chg.refl _ _ | apply Chg.drew | apply Chg.drewN | refine Chg.alloc ?_ _))) a1f a1t).mono ?_; rintro e w83_3 ⟨v83_3, rfl, k1, g1⟩; obtain ⟨B83, d83, rfl, hm83, hd83, -⟩ := k1.shape; have hz83_3 := g1.size; have U_h83 := Lib.hid (Chg.trans U_h83.out (Chg.trans (by repeat (first | exact Chg.refl _ _ | apply Chg.drew | apply Chg.drewN | refine Chg.alloc ?_ _)) g1)); have X0_h83 := Lib.hid (X0_h83.out.up (Chg.trans (by repeat (first | exact Chg.refl _ _ | apply Chg.drew | apply Chg.drewN | refine Chg.alloc ?_ _)) g1)); have q1_0_h83 := Chg.cell (Chg.trans (by repeat (first | exact Chg.refl _ _ | apply Chg.drew | apply Chg.drewN | refine Chg.alloc ?_ _)) g1) q1_0_h83 id; have q1_1_h83 := Chg.cell (Chg.trans (by repeat (first | exact Chg.refl _ _ | apply Chg.drew | apply Chg.drewN | refine Chg.alloc ?_ _)) g1) q1_1_h83 id; have W0_h83 := Lib.hid (W0_h83.out.up (Chg.trans (by repeat (first | exact Chg.refl _ _ | apply Chg.drew | apply Chg.drewN | refine Chg.alloc ?_ _)) g1)); have M0_h83 := Lib.hid (M0_h83.out.up (Chg.trans (by repeat (first | exact Chg.refl _ _ | apply Chg.drew | apply Chg.drewN | refine Chg.alloc ?_ _)) g1)); have D_h83 := Lib.hid k1; clear k1))
    all_goals
      clear g1
      try clear C_h83
      have hzu83 := U_h83.out.size
      have hzv83 : w.heap.size < w83_3.heap.size := World.block_lt_of_cell? _ _ q1_0_h83
      go_wp2_with fail
      refine (eqInts _ _ _ _ _ (appOut a0 a1f a1t) (D_h83.out.up (by repeat (first | exact Chg.refl _ _ | apply Chg.drew | apply Chg.drewN | refine Chg.alloc ?_ _))) (W0_h83.out.up (by repeat (first | exact Chg.refl _ _ | apply Chg.drew | apply Chg.drewN | refine Chg.alloc ?_ _)))).mono ?_
      rintro e w84 ⟨rfl, g1⟩
      have G1 := Lib.hid g1
      obtain ⟨hy84, hz84⟩ := up_pre (show Up w83_3 _ from (by repeat (first | exact Chg.refl _ _ | apply Chg.drew | apply Chg.drewN | refine Chg.alloc ?_ _))) G1.out
      clear g1
      have U_85 := Lib.hid (Chg.trans U_h83.out (Chg.trans (by repeat (first | exact Chg.refl _ _ | apply Chg.drew | apply Chg.drewN | refine Chg.alloc ?_ _)) G1.out))
      clear U_h83
      have X0_86 := Lib.hid (X0_h83.out.up (Chg.trans (by repeat (first | exact Chg.refl _ _ | apply Chg.drew | apply Chg.drewN | refine Chg.alloc ?_ _)) G1.out))
      clear X0_h83
      have q1_0_87 := Chg.cell (Chg.trans (by repeat (first | exact Chg.refl _ _ | apply Chg.drew | apply Chg.drewN | refine Chg.alloc ?_ _)) G1.out) q1_0_h83 id
      clear q1_0_h83
      have q1_1_88 := Chg.cell (Chg.trans (by repeat (first | exact Chg.refl _ _ | apply Chg.drew | apply Chg.drewN | refine Chg.alloc ?_ _)) G1.out) q1_1_h83 id
      clear q1_1_h83
      have W0_89 := Lib.hid (W0_h83.out.up (Chg.trans (by repeat (first | exact Chg.refl _ _ | apply Chg.drew | apply Chg.drewN | refine Chg.alloc ?_ _)) G1.out))
      clear W0_h83
      have M0_90 := Lib.hid (M0_h83.out.up (Chg.trans (by repeat (first | exact Chg.refl _ _ | apply Chg.drew | apply Chg.drewN | refine Chg.alloc ?_ _)) G1.out))
      clear M0_h83
      have H0_91 := Lib.hid (D_h83.out.up (Chg.trans (by repeat (first | exact Chg.refl _ _ | apply Chg.drew | apply Chg.drewN | refine Chg.alloc ?_ _)) G1.out))
      clear D_h83
      clear G1
      go_wp2_with fail
      refine (heldInts _ _ _ (appOut a0 a1f a1t) (1) hr1_0 hr2_0 (M0_90.out.up (by repeat (first | exact Chg.refl _ _ | apply Chg.drew | apply Chg.drewN | refine Chg.alloc ?_ _)))).mono ?_
      rintro e w92 ⟨rfl, g1⟩
      have G1 := Lib.hid g1
      obtain ⟨hy92, hz92⟩ := up_pre (show Up w84 _ from (by repeat (first | exact Chg.refl _ _ | apply Chg.drew | apply Chg.drewN | refine Chg.alloc ?_ _))) G1.out
      clear g1
      have U_93 := Lib.hid (Chg.trans U_85.out (Chg.trans (by repeat (first | exact Chg.refl _ _ | apply Chg.drew | apply Chg.drewN | refine Chg.alloc ?_ _)) G1.out))
      clear U_85
      have X0_94 := Lib.hid (X0_86.out.up (Chg.trans (by repeat (first | exact Chg.refl _ _ | apply Chg.drew | apply Chg.drewN | refine Chg.alloc ?_ _)) G1.out))
      clear X0_86
      have q1_0_95 := Chg.cell (Chg.trans (by repeat (first | exact Chg.refl _ _ | apply Chg.drew | apply Chg.drewN | refine Chg.alloc ?_ _)) G1.out) q1_0_87 id
      clear q1_0_87
      have q1_1_96 := Chg.cell (Chg.trans (by repeat (first | exact Chg.refl _ _ | apply Chg.drew | apply Chg.drewN | refine Chg.alloc ?_ _)) G1.out) q1_1_88 id
      clear q1_1_88
      have W0_97 := Lib.hid (W0_89.out.up (Chg.trans (by repeat (first | exact Chg.refl _ _ | apply Chg.drew | apply Chg.drewN | refine Chg.alloc ?_ _)) G1.out))
      clear W0_89
      have M0_98 := Lib.hid (M0_90.out.up (Chg.trans (by repeat (first | exact Chg.refl _ _ | apply Chg.drew | apply Chg.drewN | refine Chg.alloc ?_ _)) G1.out))
      clear M0_90
      have H0_99 := Lib.hid (H0_91.out.up (Chg.trans (by repeat (first | exact Chg.refl _ _ | apply Chg.drew | apply Chg.drewN | refine Chg.alloc ?_ _)) G1.out))
      clear H0_91
      clear G1
      go_wp2
      go_ret
      exact ⟨rfl, Up.below (Chg.trans U_93.out (by repeat (first | exact Chg.refl _ _ | apply Chg.drew | apply Chg.drewN | refine Chg.alloc ?_ _)))⟩
set_option maxRecDepth 100000 in
theorem walk (w : World) (v0 : Value) (a0 : List Int) (ha0 : Ints w (fun b => b < w.heap.size) v0 a0) (a1f a1t : Int) (ia1f : I64 a1f) (ia1t : I64 a1t) :
    Calls Try.prog 3 #[v0, .agg #[.int .i64 a1f, .int .i64 a1t]] w fun e w' => e = .returned (.bool true) ∧ Below w.heap.size w w' := by
  by_cases hb0 : a0.length ≤ 1048576
  rotate_left
  · obtain ⟨A0, c0, rfl, -⟩ := ha0.shape
    go_enter Try.func3, Try.ntmps3
    go_wp2
    go_ret
    exact ⟨rfl, Up.below (by repeat (first | exact Chg.refl _ _ | apply Chg.drew | apply Chg.drewN | refine Chg.alloc ?_ _))⟩
  exact walk0 w v0 a0 ha0 a1f a1t ia1f ia1t hb0
end fnExactApplyMove
end Go.Proofs.Ytmimbnpcokfnlaa
