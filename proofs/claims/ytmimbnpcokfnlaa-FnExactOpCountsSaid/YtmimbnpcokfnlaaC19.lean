/- The program's OpCounts answers as the reference's, for every list of operations; what it is given stays as it was; its memory is its own. No condition. -/
import Derived.Test.YtmimbnpcokfnlaaCnt
import Derived.Test.YtmimbnpcokfnlaaCopy
import Derived.Test.YtmimbnpcokfnlaaRowLaw
import Derived.Test.YtmimbnpcokfnlaaOpen
namespace Go.Proofs.Ytmimbnpcokfnlaa
open Go.ChangeShapes Go.WideShapes Go.ChangeAt Go.RowKit
theorem countsOut_bd (xs : List OpM) : cntInts (countsOut xs) ≤ 9 := by
  unfold cntInts countsOut
  split
  · rw [countsM_length]; exact Nat.le_refl _
  · simp
namespace fnExactOpCounts
set_option linter.unusedVariables false in
set_option maxRecDepth 100000 in
set_option maxHeartbeats 8000000 in
theorem walk0 (w : World) (v0 : Value) (a0 : List OpM) (ha0 : Ops w (fun b => b < w.heap.size) v0 a0)  (hbt : (a0.length : Int) ≤ 1048576) :
    Calls Try.prog 4 #[v0] w fun e w' => e = .returned (.bool true) ∧ Below w.heap.size w w' := by
  have U0 := Lib.hid (Chg.refl Nowhere w)
  obtain ⟨A0, c0, rfl, hl0, hc0, -⟩ := ha0.shape
  have X0 := Lib.hid ha0
  clear ha0
  have hr0 : a0.length ≤ 1048576 := by omega
  go_enter Try.func4, Try.ntmps4
  have hd0 : decide ((1048576 : Int) - a0.length < 0) = false := decide_eq_false (by omega)
  go_wp2_with fail
  refine (szOps_ok _ _ _ a0 (1048576) (by omega) (by omega) (X0.out.up (by repeat (first | exact Chg.refl _ _ | apply Chg.drew | apply Chg.drewN | refine Chg.alloc ?_ _)))).mono ?_
  rintro e w' ⟨rfl, rfl⟩
  go_wp2_with fail
  refine (toOps _ _ _ a0 (by unfold cntOps; omega) (X0.out.up (by repeat (first | exact Chg.refl _ _ | apply Chg.drew | apply Chg.drewN | refine Chg.alloc ?_ _)))).mono ?_
  rintro e w1 ⟨v1, rfl, k1, g1⟩
  obtain ⟨A1, c1, rfl, hl1, hc1, -⟩ := k1.shape
  have K1 := Lib.hid k1
  clear k1
  have G1 := Lib.hid g1
  obtain ⟨hy1, hz1⟩ := up_pre (show Up w _ from (by repeat (first | exact Chg.refl _ _ | apply Chg.drew | apply Chg.drewN | refine Chg.alloc ?_ _))) G1.out
  clear g1
  have U_2 := Lib.hid (Chg.trans U0.out (Chg.trans (by repeat (first | exact Chg.refl _ _ | apply Chg.drew | apply Chg.drewN | refine Chg.alloc ?_ _)) G1.out))
  clear U0
  have X0_3 := Lib.hid (X0.out.up (Chg.trans (by repeat (first | exact Chg.refl _ _ | apply Chg.drew | apply Chg.drewN | refine Chg.alloc ?_ _)) G1.out))
  clear X0
  clear G1
  have B0_4 := Lib.hid (K1.out)
  clear K1
  go_wp2_with fail
  refine (sOpCounts_any _ _ _ a0 (B0_4.out.up (by repeat (first | exact Chg.refl _ _ | apply Chg.drew | apply Chg.drewN | refine Chg.alloc ?_ _))) (by omega)).mono ?_
  rintro e w5 ⟨v5, rfl, k1, g1⟩
  obtain ⟨A5, c5, rfl, hl5, hc5, -⟩ := k1.shape
  have K1 := Lib.hid k1
  clear k1
  have G1 := Lib.hid g1
  obtain ⟨hy5, hz5⟩ := up_pre (show Up w1 _ from (by repeat (first | exact Chg.refl _ _ | apply Chg.drew | apply Chg.drewN | refine Chg.alloc ?_ _))) G1.out
  clear g1
  have U_6 := Lib.hid (Chg.trans U_2.out (Chg.trans (by repeat (first | exact Chg.refl _ _ | apply Chg.drew | apply Chg.drewN | refine Chg.alloc ?_ _)) G1.out))
  clear U_2
  have X0_7 := Lib.hid (X0_3.out.up (Chg.trans (by repeat (first | exact Chg.refl _ _ | apply Chg.drew | apply Chg.drewN | refine Chg.alloc ?_ _)) G1.out))
  clear X0_3
  have B0_8 := Lib.hid (B0_4.out.up (Chg.trans (by repeat (first | exact Chg.refl _ _ | apply Chg.drew | apply Chg.drewN | refine Chg.alloc ?_ _)) G1.out))
  clear B0_4
  clear G1
  have W0_9 := Lib.hid (K1.out)
  clear K1
  clear B0_8
  go_wp2_with fail
  refine (toOps _ _ _ a0 (by unfold cntOps; omega) (X0_7.out.up (by repeat (first | exact Chg.refl _ _ | apply Chg.drew | apply Chg.drewN | refine Chg.alloc ?_ _)))).mono ?_
  rintro e w10 ⟨v10, rfl, k1, g1⟩
  obtain ⟨A10, c10, rfl, hl10, hc10, -⟩ := k1.shape
  have K1 := Lib.hid k1
  clear k1
  have G1 := Lib.hid g1
  obtain ⟨hy10, hz10⟩ := up_pre (show Up w5 _ from (by repeat (first | exact Chg.refl _ _ | apply Chg.drew | apply Chg.drewN | refine Chg.alloc ?_ _))) G1.out
  clear g1
  have U_11 := Lib.hid (Chg.trans U_6.out (Chg.trans (by repeat (first | exact Chg.refl _ _ | apply Chg.drew | apply Chg.drewN | refine Chg.alloc ?_ _)) G1.out))
  clear U_6
  have X0_12 := Lib.hid (X0_7.out.up (Chg.trans (by repeat (first | exact Chg.refl _ _ | apply Chg.drew | apply Chg.drewN | refine Chg.alloc ?_ _)) G1.out))
  clear X0_7
  have W0_13 := Lib.hid (W0_9.out.up (Chg.trans (by repeat (first | exact Chg.refl _ _ | apply Chg.drew | apply Chg.drewN | refine Chg.alloc ?_ _)) G1.out))
  clear W0_9
  clear G1
  have C0_14 := Lib.hid (K1.out)
  clear K1
  go_wp2_with fail
  refine (OpCounts_any _ _ _ a0 (C0_14.out.up (by repeat (first | exact Chg.refl _ _ | apply Chg.drew | apply Chg.drewN | refine Chg.alloc ?_ _))) (by omega)).mono ?_
  rintro e w15 ⟨v15, rfl, k1, g1⟩
  obtain ⟨A15, c15, rfl, hl15, hc15, -⟩ := k1.shape
  have K1 := Lib.hid k1
  clear k1
  have G1 := Lib.hid g1
  obtain ⟨hy15, hz15⟩ := up_pre (show Up w10 _ from (by repeat (first | exact Chg.refl _ _ | apply Chg.drew | apply Chg.drewN | refine Chg.alloc ?_ _))) G1.out
  clear g1
  have U_16 := Lib.hid (Chg.trans U_11.out (Chg.trans (by repeat (first | exact Chg.refl _ _ | apply Chg.drew | apply Chg.drewN | refine Chg.alloc ?_ _)) G1.out))
  clear U_11
  have X0_17 := Lib.hid (X0_12.out.up (Chg.trans (by repeat (first | exact Chg.refl _ _ | apply Chg.drew | apply Chg.drewN | refine Chg.alloc ?_ _)) G1.out))
  clear X0_12
  have W0_18 := Lib.hid (W0_13.out.up (Chg.trans (by repeat (first | exact Chg.refl _ _ | apply Chg.drew | apply Chg.drewN | refine Chg.alloc ?_ _)) G1.out))
  clear W0_13
  have C0_19 := Lib.hid (C0_14.out.up (Chg.trans (by repeat (first | exact Chg.refl _ _ | apply Chg.drew | apply Chg.drewN | refine Chg.alloc ?_ _)) G1.out))
  clear C0_14
  clear G1
  have R0_20 := Lib.hid (K1.out)
  clear K1
  go_wp2_with fail
  refine (eqInts _ _ _ _ _ (countsOut a0) (R0_20.out.up (by repeat (first | exact Chg.refl _ _ | apply Chg.drew | apply Chg.drewN | refine Chg.alloc ?_ _))) (W0_18.out.up (by repeat (first | exact Chg.refl _ _ | apply Chg.drew | apply Chg.drewN | refine Chg.alloc ?_ _)))).mono ?_
  rintro e w21 ⟨rfl, g1⟩
  have G1 := Lib.hid g1
  obtain ⟨hy21, hz21⟩ := up_pre (show Up w15 _ from (by repeat (first | exact Chg.refl _ _ | apply Chg.drew | apply Chg.drewN | refine Chg.alloc ?_ _))) G1.out
  clear g1
  have U_22 := Lib.hid (Chg.trans U_16.out (Chg.trans (by repeat (first | exact Chg.refl _ _ | apply Chg.drew | apply Chg.drewN | refine Chg.alloc ?_ _)) G1.out))
  clear U_16
  have X0_23 := Lib.hid (X0_17.out.up (Chg.trans (by repeat (first | exact Chg.refl _ _ | apply Chg.drew | apply Chg.drewN | refine Chg.alloc ?_ _)) G1.out))
  clear X0_17
  have W0_24 := Lib.hid (W0_18.out.up (Chg.trans (by repeat (first | exact Chg.refl _ _ | apply Chg.drew | apply Chg.drewN | refine Chg.alloc ?_ _)) G1.out))
  clear W0_18
  have C0_25 := Lib.hid (C0_19.out.up (Chg.trans (by repeat (first | exact Chg.refl _ _ | apply Chg.drew | apply Chg.drewN | refine Chg.alloc ?_ _)) G1.out))
  clear C0_19
  have R0_26 := Lib.hid (R0_20.out.up (Chg.trans (by repeat (first | exact Chg.refl _ _ | apply Chg.drew | apply Chg.drewN | refine Chg.alloc ?_ _)) G1.out))
  clear R0_20
  clear G1
  go_wp2_with fail
  refine (toOps _ _ _ a0 (by unfold cntOps; omega) (X0_23.out.up (by repeat (first | exact Chg.refl _ _ | apply Chg.drew | apply Chg.drewN | refine Chg.alloc ?_ _)))).mono ?_
  rintro e w27 ⟨v27, rfl, k1, g1⟩
  obtain ⟨A27, c27, rfl, hl27, hc27, -⟩ := k1.shape
  have K1 := Lib.hid k1
  clear k1
  have G1 := Lib.hid g1
  obtain ⟨hy27, hz27⟩ := up_pre (show Up w21 _ from (by repeat (first | exact Chg.refl _ _ | apply Chg.drew | apply Chg.drewN | refine Chg.alloc ?_ _))) G1.out
  clear g1
  have U_28 := Lib.hid (Chg.trans U_22.out (Chg.trans (by repeat (first | exact Chg.refl _ _ | apply Chg.drew | apply Chg.drewN | refine Chg.alloc ?_ _)) G1.out))
  clear U_22
  have X0_29 := Lib.hid (X0_23.out.up (Chg.trans (by repeat (first | exact Chg.refl _ _ | apply Chg.drew | apply Chg.drewN | refine Chg.alloc ?_ _)) G1.out))
  clear X0_23
  have W0_30 := Lib.hid (W0_24.out.up (Chg.trans (by repeat (first | exact Chg.refl _ _ | apply Chg.drew | apply Chg.drewN | refine Chg.alloc ?_ _)) G1.out))
  clear W0_24
  have C0_31 := Lib.hid (C0_25.out.up (Chg.trans (by repeat (first | exact Chg.refl _ _ | apply Chg.drew | apply Chg.drewN | refine Chg.alloc ?_ _)) G1.out))
  clear C0_25
  have R0_32 := Lib.hid (R0_26.out.up (Chg.trans (by repeat (first | exact Chg.refl _ _ | apply Chg.drew | apply Chg.drewN | refine Chg.alloc ?_ _)) G1.out))
  clear R0_26
  clear G1
  have D0_33 := Lib.hid (K1.out)
  clear K1
  go_wp2_with fail
  refine (eqOps _ _ _ _ _ a0 (C0_31.out.up (by repeat (first | exact Chg.refl _ _ | apply Chg.drew | apply Chg.drewN | refine Chg.alloc ?_ _))) (D0_33.out.up (by repeat (first | exact Chg.refl _ _ | apply Chg.drew | apply Chg.drewN | refine Chg.alloc ?_ _)))).mono ?_
  rintro e w34 ⟨rfl, g1⟩
  have G1 := Lib.hid g1
  obtain ⟨hy34, hz34⟩ := up_pre (show Up w27 _ from (by repeat (first | exact Chg.refl _ _ | apply Chg.drew | apply Chg.drewN | refine Chg.alloc ?_ _))) G1.out
  clear g1
  have U_35 := Lib.hid (Chg.trans U_28.out (Chg.trans (by repeat (first | exact Chg.refl _ _ | apply Chg.drew | apply Chg.drewN | refine Chg.alloc ?_ _)) G1.out))
  clear U_28
  have X0_36 := Lib.hid (X0_29.out.up (Chg.trans (by repeat (first | exact Chg.refl _ _ | apply Chg.drew | apply Chg.drewN | refine Chg.alloc ?_ _)) G1.out))
  clear X0_29
  have W0_37 := Lib.hid (W0_30.out.up (Chg.trans (by repeat (first | exact Chg.refl _ _ | apply Chg.drew | apply Chg.drewN | refine Chg.alloc ?_ _)) G1.out))
  clear W0_30
  have C0_38 := Lib.hid (C0_31.out.up (Chg.trans (by repeat (first | exact Chg.refl _ _ | apply Chg.drew | apply Chg.drewN | refine Chg.alloc ?_ _)) G1.out))
  clear C0_31
  have R0_39 := Lib.hid (R0_32.out.up (Chg.trans (by repeat (first | exact Chg.refl _ _ | apply Chg.drew | apply Chg.drewN | refine Chg.alloc ?_ _)) G1.out))
  clear R0_32
  have D0_40 := Lib.hid (D0_33.out.up (Chg.trans (by repeat (first | exact Chg.refl _ _ | apply Chg.drew | apply Chg.drewN | refine Chg.alloc ?_ _)) G1.out))
  clear D0_33
  clear G1
  clear D0_40
  have hp0 : (0 : Int) ≤ (1 : Int) := by omega
  have hr0' : cntOps a0 ≤ 8388608 := by unfold cntOps; omega
  have hq0 : (1 : Int) + cntOps a0 ≤ 4611686018427387904 := by omega
  go_wp2_with fail
  refine (markOps _ _ _ a0 ((1 : Int)) hp0 hq0 (C0_38.out.up (by repeat (first | exact Chg.refl _ _ | apply Chg.drew | apply Chg.drewN | refine Chg.alloc ?_ _)))).mono ?_
  rintro e w41 ⟨rfl, g1, -⟩
  have G1 := Lib.hid g1
  obtain ⟨hy41, hz41⟩ := up_pre (show Up w34 _ from (by repeat (first | exact Chg.refl _ _ | apply Chg.drew | apply Chg.drewN | refine Chg.alloc ?_ _))) G1.out
  clear g1
  clear C0_38
  have U_42 := Lib.hid (Chg.new (Chg.trans U_35.out (by repeat (first | exact Chg.refl _ _ | apply Chg.drew | apply Chg.drewN | refine Chg.alloc ?_ _))) G1.out (fun i hi h2 => by simp only [New] at h2; omega))
  clear U_35
  have X0_43 := Lib.hid ((X0_36.out.up (by repeat (first | exact Chg.refl _ _ | apply Chg.drew | apply Chg.drewN | refine Chg.alloc ?_ _))).keep G1.out (fun b hb h1 h2 => by simp only [New] at h1 h2; omega))
  clear X0_36
  have W0_44 := Lib.hid ((W0_37.out.up (by repeat (first | exact Chg.refl _ _ | apply Chg.drew | apply Chg.drewN | refine Chg.alloc ?_ _))).keep G1.out (fun b hb h1 h2 => by simp only [New] at h1 h2; omega))
  clear W0_37
  have R0_45 := Lib.hid ((R0_39.out.up (by repeat (first | exact Chg.refl _ _ | apply Chg.drew | apply Chg.drewN | refine Chg.alloc ?_ _))).keep G1.out (fun b hb h1 h2 => by simp only [New] at h1 h2; omega))
  clear R0_39
  clear G1
  have hneg : decide (((1 : Int) + cntOps a0 : Int) < 0) = false := decide_eq_false (by omega)
  go_wp2_with fail
  refine (eqInts _ _ _ _ _ (countsOut a0) (R0_45.out.up (by repeat (first | exact Chg.refl _ _ | apply Chg.drew | apply Chg.drewN | refine Chg.alloc ?_ _))) (W0_44.out.up (by repeat (first | exact Chg.refl _ _ | apply Chg.drew | apply Chg.drewN | refine Chg.alloc ?_ _)))).mono ?_
  rintro e w46 ⟨rfl, g1⟩
  have G1 := Lib.hid g1
  obtain ⟨hy46, hz46⟩ := up_pre (show Up w41 _ from (by repeat (first | exact Chg.refl _ _ | apply Chg.drew | apply Chg.drewN | refine Chg.alloc ?_ _))) G1.out
  clear g1
  have U_47 := Lib.hid (Chg.trans U_42.out (Chg.trans (by repeat (first | exact Chg.refl _ _ | apply Chg.drew | apply Chg.drewN | refine Chg.alloc ?_ _)) G1.out))
  clear U_42
  have X0_48 := Lib.hid (X0_43.out.up (Chg.trans (by repeat (first | exact Chg.refl _ _ | apply Chg.drew | apply Chg.drewN | refine Chg.alloc ?_ _)) G1.out))
  clear X0_43
  have W0_49 := Lib.hid (W0_44.out.up (Chg.trans (by repeat (first | exact Chg.refl _ _ | apply Chg.drew | apply Chg.drewN | refine Chg.alloc ?_ _)) G1.out))
  clear W0_44
  have R0_50 := Lib.hid (R0_45.out.up (Chg.trans (by repeat (first | exact Chg.refl _ _ | apply Chg.drew | apply Chg.drewN | refine Chg.alloc ?_ _)) G1.out))
  clear R0_45
  clear G1
  clear hneg
  have HR := Lib.hid (countsOut_bd a0)
  have hr1_0 : (0 : Int) ≤ 1 := by omega
  have hr2_0 : (1 : Int) + cntInts (countsOut a0) ≤ 4611686018427387904 := by have := HR.out; omega
  go_wp2_with fail
  refine (markInts _ _ _ (countsOut a0) (1) hr1_0 hr2_0 (R0_50.out.up (by repeat (first | exact Chg.refl _ _ | apply Chg.drew | apply Chg.drewN | refine Chg.alloc ?_ _)))).mono ?_
  rintro e w51 ⟨rfl, g1, k1⟩
  have G1 := Lib.hid g1
  obtain ⟨hy51, hz51⟩ := up_pre (show Up w46 _ from (by repeat (first | exact Chg.refl _ _ | apply Chg.drew | apply Chg.drewN | refine Chg.alloc ?_ _))) G1.out
  have K1 := Lib.hid k1
  clear g1 k1
  clear R0_50
  have U_52 := Lib.hid (Chg.new (Chg.trans U_47.out (by repeat (first | exact Chg.refl _ _ | apply Chg.drew | apply Chg.drewN | refine Chg.alloc ?_ _))) G1.out (fun i hi h2 => by simp only [New] at h2; omega))
  clear U_47
  have X0_53 := Lib.hid ((X0_48.out.up (by repeat (first | exact Chg.refl _ _ | apply Chg.drew | apply Chg.drewN | refine Chg.alloc ?_ _))).keep G1.out (fun b hb h1 h2 => by simp only [New] at h1 h2; omega))
  clear X0_48
  have W0_54 := Lib.hid ((W0_49.out.up (by repeat (first | exact Chg.refl _ _ | apply Chg.drew | apply Chg.drewN | refine Chg.alloc ?_ _))).keep G1.out (fun b hb h1 h2 => by simp only [New] at h1 h2; omega))
  clear W0_49
  clear G1
  have M0_55 := Lib.hid (K1.out)
  clear K1
  have hneg0 : decide ((1 : Int) + cntInts (countsOut a0) < 0) = false := decide_eq_false (by omega)
  go_wp2_with fail
  refine (heldInts _ _ _ (countsOut a0) (1) hr1_0 hr2_0 (M0_55.out.up (by repeat (first | exact Chg.refl _ _ | apply Chg.drew | apply Chg.drewN | refine Chg.alloc ?_ _)))).mono ?_
  rintro e w56 ⟨rfl, g1⟩
  have G1 := Lib.hid g1
  obtain ⟨hy56, hz56⟩ := up_pre (show Up w51 _ from (by repeat (first | exact Chg.refl _ _ | apply Chg.drew | apply Chg.drewN | refine Chg.alloc ?_ _))) G1.out
  clear g1
  have U_57 := Lib.hid (Chg.trans U_52.out (Chg.trans (by repeat (first | exact Chg.refl _ _ | apply Chg.drew | apply Chg.drewN | refine Chg.alloc ?_ _)) G1.out))
  clear U_52
  have X0_58 := Lib.hid (X0_53.out.up (Chg.trans (by repeat (first | exact Chg.refl _ _ | apply Chg.drew | apply Chg.drewN | refine Chg.alloc ?_ _)) G1.out))
  clear X0_53
  have W0_59 := Lib.hid (W0_54.out.up (Chg.trans (by repeat (first | exact Chg.refl _ _ | apply Chg.drew | apply Chg.drewN | refine Chg.alloc ?_ _)) G1.out))
  clear W0_54
  have M0_60 := Lib.hid (M0_55.out.up (Chg.trans (by repeat (first | exact Chg.refl _ _ | apply Chg.drew | apply Chg.drewN | refine Chg.alloc ?_ _)) G1.out))
  clear M0_55
  clear G1
  go_wp2_with fail
  refine (toOps _ _ _ a0 (by unfold cntOps; omega) (X0_58.out.up (by repeat (first | exact Chg.refl _ _ | apply Chg.drew | apply Chg.drewN | refine Chg.alloc ?_ _)))).mono ?_
  rintro e w61 ⟨v61, rfl, k1, g1⟩
  obtain ⟨A61, c61, rfl, hl61, hc61, -⟩ := k1.shape
  have K1 := Lib.hid k1
  clear k1
  have G1 := Lib.hid g1
  obtain ⟨hy61, hz61⟩ := up_pre (show Up w56 _ from (by repeat (first | exact Chg.refl _ _ | apply Chg.drew | apply Chg.drewN | refine Chg.alloc ?_ _))) G1.out
  clear g1
  have U_62 := Lib.hid (Chg.trans U_57.out (Chg.trans (by repeat (first | exact Chg.refl _ _ | apply Chg.drew | apply Chg.drewN | refine Chg.alloc ?_ _)) G1.out))
  clear U_57
  have X0_63 := Lib.hid (X0_58.out.up (Chg.trans (by repeat (first | exact Chg.refl _ _ | apply Chg.drew | apply Chg.drewN | refine Chg.alloc ?_ _)) G1.out))
  clear X0_58
  have W0_64 := Lib.hid (W0_59.out.up (Chg.trans (by repeat (first | exact Chg.refl _ _ | apply Chg.drew | apply Chg.drewN | refine Chg.alloc ?_ _)) G1.out))
  clear W0_59
  have M0_65 := Lib.hid (M0_60.out.up (Chg.trans (by repeat (first | exact Chg.refl _ _ | apply Chg.drew | apply Chg.drewN | refine Chg.alloc ?_ _)) G1.out))
  clear M0_60
  clear G1
  have E0_66 := Lib.hid (K1.out)
  clear K1
  go_wp2_with fail
  refine (OpCounts_any _ _ _ a0 (E0_66.out.up (by repeat (first | exact Chg.refl _ _ | apply Chg.drew | apply Chg.drewN | refine Chg.alloc ?_ _))) (by omega)).mono ?_
  rintro e w67 ⟨v67, rfl, k1, g1⟩
  obtain ⟨A67, c67, rfl, hl67, hc67, -⟩ := k1.shape
  have K1 := Lib.hid k1
  clear k1
  have G1 := Lib.hid g1
  obtain ⟨hy67, hz67⟩ := up_pre (show Up w61 _ from (by repeat (first | exact Chg.refl _ _ | apply Chg.drew | apply Chg.drewN | refine Chg.alloc ?_ _))) G1.out
  clear g1
  have U_68 := Lib.hid (Chg.trans U_62.out (Chg.trans (by repeat (first | exact Chg.refl _ _ | apply Chg.drew | apply Chg.drewN | refine Chg.alloc ?_ _)) G1.out))
  clear U_62
  have X0_69 := Lib.hid (X0_63.out.up (Chg.trans (by repeat (first | exact Chg.refl _ _ | apply Chg.drew | apply Chg.drewN | refine Chg.alloc ?_ _)) G1.out))
  clear X0_63
  have W0_70 := Lib.hid (W0_64.out.up (Chg.trans (by repeat (first | exact Chg.refl _ _ | apply Chg.drew | apply Chg.drewN | refine Chg.alloc ?_ _)) G1.out))
  clear W0_64
  have M0_71 := Lib.hid (M0_65.out.up (Chg.trans (by repeat (first | exact Chg.refl _ _ | apply Chg.drew | apply Chg.drewN | refine Chg.alloc ?_ _)) G1.out))
  clear M0_65
  have E0_72 := Lib.hid (E0_66.out.up (Chg.trans (by repeat (first | exact Chg.refl _ _ | apply Chg.drew | apply Chg.drewN | refine Chg.alloc ?_ _)) G1.out))
  clear E0_66
  clear G1
  have H0_73 := Lib.hid (K1.out)
  clear K1
  go_wp2_with fail
  refine (eqInts _ _ _ _ _ (countsOut a0) (H0_73.out.up (by repeat (first | exact Chg.refl _ _ | apply Chg.drew | apply Chg.drewN | refine Chg.alloc ?_ _))) (W0_70.out.up (by repeat (first | exact Chg.refl _ _ | apply Chg.drew | apply Chg.drewN | refine Chg.alloc ?_ _)))).mono ?_
  rintro e w74 ⟨rfl, g1⟩
  have G1 := Lib.hid g1
  obtain ⟨hy74, hz74⟩ := up_pre (show Up w67 _ from (by repeat (first | exact Chg.refl _ _ | apply Chg.drew | apply Chg.drewN | refine Chg.alloc ?_ _))) G1.out
  clear g1
  have U_75 := Lib.hid (Chg.trans U_68.out (Chg.trans (by repeat (first | exact Chg.refl _ _ | apply Chg.drew | apply Chg.drewN | refine Chg.alloc ?_ _)) G1.out))
  clear U_68
  have X0_76 := Lib.hid (X0_69.out.up (Chg.trans (by repeat (first | exact Chg.refl _ _ | apply Chg.drew | apply Chg.drewN | refine Chg.alloc ?_ _)) G1.out))
  clear X0_69
  have W0_77 := Lib.hid (W0_70.out.up (Chg.trans (by repeat (first | exact Chg.refl _ _ | apply Chg.drew | apply Chg.drewN | refine Chg.alloc ?_ _)) G1.out))
  clear W0_70
  have M0_78 := Lib.hid (M0_71.out.up (Chg.trans (by repeat (first | exact Chg.refl _ _ | apply Chg.drew | apply Chg.drewN | refine Chg.alloc ?_ _)) G1.out))
  clear M0_71
  have E0_79 := Lib.hid (E0_72.out.up (Chg.trans (by repeat (first | exact Chg.refl _ _ | apply Chg.drew | apply Chg.drewN | refine Chg.alloc ?_ _)) G1.out))
  clear E0_72
  have H0_80 := Lib.hid (H0_73.out.up (Chg.trans (by repeat (first | exact Chg.refl _ _ | apply Chg.drew | apply Chg.drewN | refine Chg.alloc ?_ _)) G1.out))
  clear H0_73
  clear G1
  go_wp2_with fail
  refine (heldInts _ _ _ (countsOut a0) (1) hr1_0 hr2_0 (M0_78.out.up (by repeat (first | exact Chg.refl _ _ | apply Chg.drew | apply Chg.drewN | refine Chg.alloc ?_ _)))).mono ?_
  rintro e w81 ⟨rfl, g1⟩
  have G1 := Lib.hid g1
  obtain ⟨hy81, hz81⟩ := up_pre (show Up w74 _ from (by repeat (first | exact Chg.refl _ _ | apply Chg.drew | apply Chg.drewN | refine Chg.alloc ?_ _))) G1.out
  clear g1
  have U_82 := Lib.hid (Chg.trans U_75.out (Chg.trans (by repeat (first | exact Chg.refl _ _ | apply Chg.drew | apply Chg.drewN | refine Chg.alloc ?_ _)) G1.out))
  clear U_75
  have X0_83 := Lib.hid (X0_76.out.up (Chg.trans (by repeat (first | exact Chg.refl _ _ | apply Chg.drew | apply Chg.drewN | refine Chg.alloc ?_ _)) G1.out))
  clear X0_76
  have W0_84 := Lib.hid (W0_77.out.up (Chg.trans (by repeat (first | exact Chg.refl _ _ | apply Chg.drew | apply Chg.drewN | refine Chg.alloc ?_ _)) G1.out))
  clear W0_77
  have M0_85 := Lib.hid (M0_78.out.up (Chg.trans (by repeat (first | exact Chg.refl _ _ | apply Chg.drew | apply Chg.drewN | refine Chg.alloc ?_ _)) G1.out))
  clear M0_78
  have E0_86 := Lib.hid (E0_79.out.up (Chg.trans (by repeat (first | exact Chg.refl _ _ | apply Chg.drew | apply Chg.drewN | refine Chg.alloc ?_ _)) G1.out))
  clear E0_79
  have H0_87 := Lib.hid (H0_80.out.up (Chg.trans (by repeat (first | exact Chg.refl _ _ | apply Chg.drew | apply Chg.drewN | refine Chg.alloc ?_ _)) G1.out))
  clear H0_80
  clear G1
  go_wp2
  go_ret
  exact ⟨rfl, Up.below (Chg.trans U_82.out (by repeat (first | exact Chg.refl _ _ | apply Chg.drew | apply Chg.drewN | refine Chg.alloc ?_ _)))⟩
set_option maxRecDepth 100000 in
theorem walk (w : World) (v0 : Value) (a0 : List OpM) (ha0 : Ops w (fun b => b < w.heap.size) v0 a0) :
    Calls Try.prog 4 #[v0] w fun e w' => e = .returned (.bool true) ∧ Below w.heap.size w w' := by
  by_cases hbt : (a0.length : Int) ≤ 1048576
  rotate_left
  · skip
    have X0 := Lib.hid ha0
    have hd : decide ((-1 : Int) < 0) = true := rfl
    obtain ⟨A0, c0, rfl, -⟩ := ha0.shape
    go_enter Try.func4, Try.ntmps4
    go_wp2_with fail
    refine (szOps_no _ _ _ a0 1048576 (by omega) (by omega) X0.out).mono ?_
    rintro e _ ⟨rfl, rfl⟩
    go_wp2
    go_ret
    exact ⟨rfl, Below.refl _ _⟩
  exact walk0 w v0 a0 ha0 hbt
end fnExactOpCounts
end Go.Proofs.Ytmimbnpcokfnlaa
