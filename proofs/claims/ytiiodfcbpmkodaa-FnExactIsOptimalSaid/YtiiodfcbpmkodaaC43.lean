/- The program's IsOptimal answers as the reference's, for every width and program; what it is given stays as it was. No condition. -/
import Derived.Test.YtiiodfcbpmkodaaMT2
import Derived.Test.YtiiodfcbpmkodaaCopy
namespace Go.Proofs.Ytiiodfcbpmkodaa
open Go.ChangeShapes Go.WideShapes Go.ChangeAt Go.RowKit
namespace fnExactIsOptimal
set_option linter.unusedVariables false in
set_option maxRecDepth 100000 in
set_option maxHeartbeats 8000000 in
theorem walk0 (w : World) (a0 : Int) (ia0 : I64 a0) (v1 : Value) (a1 : List OpM) (ha1 : Ops w (fun b => b < w.heap.size) v1 a1)  (hbt : (a1.length : Int) ≤ 1048576) :
    Calls Try.prog 4 #[.int .i64 a0, v1] w fun e w' => e = .returned (.bool true) ∧ Below w.heap.size w w' := by
  have U0 := Lib.hid (Chg.refl Nowhere w)
  obtain ⟨A1, c1, rfl, hl1, hc1, -⟩ := ha1.shape
  have X1 := Lib.hid ha1
  clear ha1
  have hr1 : a1.length ≤ 1048576 := by omega
  go_enter Try.func4, Try.ntmps4
  have hd1 : decide ((1048576 : Int) - a1.length < 0) = false := decide_eq_false (by omega)
  go_wp2_with fail
  refine (szOps_ok _ _ _ a1 (1048576) (by omega) (by omega) (X1.out.up (by repeat (first | exact Chg.refl _ _ | apply Chg.drew | apply Chg.drewN | refine Chg.alloc ?_ _)))).mono ?_
  rintro e w' ⟨rfl, rfl⟩
  go_wp2_with fail
  refine (toOps _ _ _ a1 (by unfold cntOps; omega) (X1.out.up (by repeat (first | exact Chg.refl _ _ | apply Chg.drew | apply Chg.drewN | refine Chg.alloc ?_ _)))).mono ?_
  rintro e w1 ⟨v1, rfl, k1, g1⟩
  obtain ⟨A1, c1, rfl, hl1, hc1, -⟩ := k1.shape
  have K1 := Lib.hid k1
  clear k1
  have G1 := Lib.hid g1
  obtain ⟨hy1, hz1⟩ := up_prem (show Up w _ from (by repeat (first | exact Chg.refl _ _ | apply Chg.drew | apply Chg.drewN | refine Chg.alloc ?_ _))) G1.out
  clear g1
  have U_2 := Lib.hid (Chg.trans U0.out (Chg.trans (by repeat (first | exact Chg.refl _ _ | apply Chg.drew | apply Chg.drewN | refine Chg.alloc ?_ _)) G1.out))
  clear U0
  have X1_3 := Lib.hid (X1.out.up (Chg.trans (by repeat (first | exact Chg.refl _ _ | apply Chg.drew | apply Chg.drewN | refine Chg.alloc ?_ _)) G1.out))
  clear X1
  clear G1
  have B1_4 := Lib.hid (K1.out)
  clear K1
  go_wp2_with fail
  refine (sIsOptimalT _ a0 _ _ a1 (B1_4.out.up (by repeat (first | exact Chg.refl _ _ | apply Chg.drew | apply Chg.drewN | refine Chg.alloc ?_ _)))).mono ?_
  rintro e w5 ⟨rfl, g1⟩
  have G1 := Lib.hid g1
  obtain ⟨hy5, hz5⟩ := up_prem (show Up w1 _ from (by repeat (first | exact Chg.refl _ _ | apply Chg.drew | apply Chg.drewN | refine Chg.alloc ?_ _))) G1.out
  clear g1
  have U_6 := Lib.hid (Chg.trans U_2.out (Chg.trans (by repeat (first | exact Chg.refl _ _ | apply Chg.drew | apply Chg.drewN | refine Chg.alloc ?_ _)) G1.out))
  clear U_2
  have X1_7 := Lib.hid (X1_3.out.up (Chg.trans (by repeat (first | exact Chg.refl _ _ | apply Chg.drew | apply Chg.drewN | refine Chg.alloc ?_ _)) G1.out))
  clear X1_3
  have B1_8 := Lib.hid (B1_4.out.up (Chg.trans (by repeat (first | exact Chg.refl _ _ | apply Chg.drew | apply Chg.drewN | refine Chg.alloc ?_ _)) G1.out))
  clear B1_4
  clear G1
  clear B1_8
  go_wp2_with fail
  refine (toOps _ _ _ a1 (by unfold cntOps; omega) (X1_7.out.up (by repeat (first | exact Chg.refl _ _ | apply Chg.drew | apply Chg.drewN | refine Chg.alloc ?_ _)))).mono ?_
  rintro e w9 ⟨v9, rfl, k1, g1⟩
  obtain ⟨A9, c9, rfl, hl9, hc9, -⟩ := k1.shape
  have K1 := Lib.hid k1
  clear k1
  have G1 := Lib.hid g1
  obtain ⟨hy9, hz9⟩ := up_prem (show Up w5 _ from (by repeat (first | exact Chg.refl _ _ | apply Chg.drew | apply Chg.drewN | refine Chg.alloc ?_ _))) G1.out
  clear g1
  have U_10 := Lib.hid (Chg.trans U_6.out (Chg.trans (by repeat (first | exact Chg.refl _ _ | apply Chg.drew | apply Chg.drewN | refine Chg.alloc ?_ _)) G1.out))
  clear U_6
  have X1_11 := Lib.hid (X1_7.out.up (Chg.trans (by repeat (first | exact Chg.refl _ _ | apply Chg.drew | apply Chg.drewN | refine Chg.alloc ?_ _)) G1.out))
  clear X1_7
  clear G1
  have C1_12 := Lib.hid (K1.out)
  clear K1
  go_wp2_with fail
  refine (IsOptimalT _ a0 _ _ a1 (C1_12.out.up (by repeat (first | exact Chg.refl _ _ | apply Chg.drew | apply Chg.drewN | refine Chg.alloc ?_ _)))).mono ?_
  rintro e w13 ⟨rfl, g1⟩
  have G1 := Lib.hid g1
  obtain ⟨hy13, hz13⟩ := up_prem (show Up w9 _ from (by repeat (first | exact Chg.refl _ _ | apply Chg.drew | apply Chg.drewN | refine Chg.alloc ?_ _))) G1.out
  clear g1
  have U_14 := Lib.hid (Chg.trans U_10.out (Chg.trans (by repeat (first | exact Chg.refl _ _ | apply Chg.drew | apply Chg.drewN | refine Chg.alloc ?_ _)) G1.out))
  clear U_10
  have X1_15 := Lib.hid (X1_11.out.up (Chg.trans (by repeat (first | exact Chg.refl _ _ | apply Chg.drew | apply Chg.drewN | refine Chg.alloc ?_ _)) G1.out))
  clear X1_11
  have C1_16 := Lib.hid (C1_12.out.up (Chg.trans (by repeat (first | exact Chg.refl _ _ | apply Chg.drew | apply Chg.drewN | refine Chg.alloc ?_ _)) G1.out))
  clear C1_12
  clear G1
  go_wp2_with fail
  refine (toOps _ _ _ a1 (by unfold cntOps; omega) (X1_15.out.up (by repeat (first | exact Chg.refl _ _ | apply Chg.drew | apply Chg.drewN | refine Chg.alloc ?_ _)))).mono ?_
  rintro e w17 ⟨v17, rfl, k1, g1⟩
  obtain ⟨A17, c17, rfl, hl17, hc17, -⟩ := k1.shape
  have K1 := Lib.hid k1
  clear k1
  have G1 := Lib.hid g1
  obtain ⟨hy17, hz17⟩ := up_prem (show Up w13 _ from (by repeat (first | exact Chg.refl _ _ | apply Chg.drew | apply Chg.drewN | refine Chg.alloc ?_ _))) G1.out
  clear g1
  have U_18 := Lib.hid (Chg.trans U_14.out (Chg.trans (by repeat (first | exact Chg.refl _ _ | apply Chg.drew | apply Chg.drewN | refine Chg.alloc ?_ _)) G1.out))
  clear U_14
  have X1_19 := Lib.hid (X1_15.out.up (Chg.trans (by repeat (first | exact Chg.refl _ _ | apply Chg.drew | apply Chg.drewN | refine Chg.alloc ?_ _)) G1.out))
  clear X1_15
  have C1_20 := Lib.hid (C1_16.out.up (Chg.trans (by repeat (first | exact Chg.refl _ _ | apply Chg.drew | apply Chg.drewN | refine Chg.alloc ?_ _)) G1.out))
  clear C1_16
  clear G1
  have D1_21 := Lib.hid (K1.out)
  clear K1
  go_wp2_with fail
  refine (eqOps _ _ _ _ _ a1 (C1_20.out.up (by repeat (first | exact Chg.refl _ _ | apply Chg.drew | apply Chg.drewN | refine Chg.alloc ?_ _))) (D1_21.out.up (by repeat (first | exact Chg.refl _ _ | apply Chg.drew | apply Chg.drewN | refine Chg.alloc ?_ _)))).mono ?_
  rintro e w22 ⟨rfl, g1⟩
  have G1 := Lib.hid g1
  obtain ⟨hy22, hz22⟩ := up_prem (show Up w17 _ from (by repeat (first | exact Chg.refl _ _ | apply Chg.drew | apply Chg.drewN | refine Chg.alloc ?_ _))) G1.out
  clear g1
  have U_23 := Lib.hid (Chg.trans U_18.out (Chg.trans (by repeat (first | exact Chg.refl _ _ | apply Chg.drew | apply Chg.drewN | refine Chg.alloc ?_ _)) G1.out))
  clear U_18
  have X1_24 := Lib.hid (X1_19.out.up (Chg.trans (by repeat (first | exact Chg.refl _ _ | apply Chg.drew | apply Chg.drewN | refine Chg.alloc ?_ _)) G1.out))
  clear X1_19
  have C1_25 := Lib.hid (C1_20.out.up (Chg.trans (by repeat (first | exact Chg.refl _ _ | apply Chg.drew | apply Chg.drewN | refine Chg.alloc ?_ _)) G1.out))
  clear C1_20
  have D1_26 := Lib.hid (D1_21.out.up (Chg.trans (by repeat (first | exact Chg.refl _ _ | apply Chg.drew | apply Chg.drewN | refine Chg.alloc ?_ _)) G1.out))
  clear D1_21
  clear G1
  clear D1_26
  go_wp2
  go_ret
  exact ⟨rfl, Up.below (Chg.trans U_23.out (by repeat (first | exact Chg.refl _ _ | apply Chg.drew | apply Chg.drewN | refine Chg.alloc ?_ _)))⟩
set_option maxRecDepth 100000 in
theorem walk (w : World) (a0 : Int) (ia0 : I64 a0) (v1 : Value) (a1 : List OpM) (ha1 : Ops w (fun b => b < w.heap.size) v1 a1) :
    Calls Try.prog 4 #[.int .i64 a0, v1] w fun e w' => e = .returned (.bool true) ∧ Below w.heap.size w w' := by
  by_cases hbt : (a1.length : Int) ≤ 1048576
  rotate_left
  · skip
    have X1 := Lib.hid ha1
    have hd : decide ((-1 : Int) < 0) = true := rfl
    obtain ⟨A1, c1, rfl, -⟩ := ha1.shape
    go_enter Try.func4, Try.ntmps4
    go_wp2_with fail
    refine (szOps_no _ _ _ a1 1048576 (by omega) (by omega) X1.out).mono ?_
    rintro e _ ⟨rfl, rfl⟩
    go_wp2
    go_ret
    exact ⟨rfl, Below.refl _ _⟩
  exact walk0 w a0 ia0 v1 a1 ha1 hbt
end fnExactIsOptimal
end Go.Proofs.Ytiiodfcbpmkodaa
