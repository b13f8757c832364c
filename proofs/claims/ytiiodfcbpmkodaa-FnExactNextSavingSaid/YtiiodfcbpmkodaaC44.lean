/- The program's NextSaving answers as the reference's, for every width and program; what it is given stays as it was. No condition. -/
import Derived.Test.YtiiodfcbpmkodaaMT4
import Derived.Test.YtiiodfcbpmkodaaCopy
namespace Go.Proofs.Ytiiodfcbpmkodaa
open Go.ChangeShapes Go.WideShapes Go.ChangeAt Go.RowKit
def CellF (w : World) (p : Addr) (u : Value) : Prop := w.cell? p = some u ∧ w.frozen? p = false
theorem CellF.up {w w' : World} {p : Addr} {u : Value} (g : Up w w') (h : CellF w p u) : CellF w' p u := ⟨g.cell h.1 id, (g.frozen h.1 id).trans h.2⟩
theorem CellF.keep {S : Nat → Prop} {w w' : World} {p : Addr} {u : Value} (g : Chg S w w') (h : CellF w p u) (hn : ¬ S p.block) : CellF w' p u := ⟨g.cell h.1 hn, (g.frozen h.1 hn).trans h.2⟩
theorem cellF_at {w : World} {cs : Array Value} {e : TypeId} {g t : Nat} {u : Value} (h : g = w.heap.size) (hu : cs[t]? = some u) : CellF (w.alloc (.cells cs e)) ⟨g, t, none⟩ u := by
  subst h
  exact ⟨by rw [cell_new]; exact hu, frozen_new _ _ _ _⟩
namespace fnExactNextSaving
set_option linter.unusedVariables false in
set_option maxRecDepth 100000 in
set_option maxHeartbeats 8000000 in
theorem walk0 (w : World) (a0 : Int) (ia0 : I64 a0) (v1 : Value) (a1 : List OpM) (ha1 : Ops w (fun b => b < w.heap.size) v1 a1)  (hbt : (a1.length : Int) ≤ 1048576) :
    Calls Try.prog 5 #[.int .i64 a0, v1] w fun e w' => e = .returned (.bool true) ∧ Below w.heap.size w w' := by
  have U0 := Lib.hid (Chg.refl Nowhere w)
  obtain ⟨A1, c1, rfl, hl1, hc1, -⟩ := ha1.shape
  have X1 := Lib.hid ha1
  clear ha1
  have hr1 : a1.length ≤ 1048576 := by omega
  go_enter Try.func5, Try.ntmps5
  have hd1 : decide ((1048576 : Int) - a1.length < 0) = false := decide_eq_false (by omega)
  go_wp2_with fail
  refine (szOps_ok _ _ _ a1 (1048576) (by omega) (by omega) (X1.out.up (by repeat (first | exact Chg.refl _ _ | apply Chg.drew | apply Chg.drewN | refine Chg.alloc ?_ _)))).mono ?_
  rintro e w' ⟨rfl, rfl⟩
  go_wp2_with fail
  refine (toOps _ _ _ a1 (by unfold cntOps; omega) (X1.out.up (by repeat (first | exact Chg.refl _ _ | apply Chg.drew | apply Chg.drewN | refine Chg.alloc ?_ _)))).mono ?_
  rintro e w1 ⟨v1, rfl, k1, g1⟩
  obtain ⟨A1, c1, rfl, hl1, hc1, -⟩ := k1.shape
  have K1 := Lib.hid k1
  clear k1
  have G1 := Lib.hid g1
  obtain ⟨hy1, hz1⟩ := up_prem (show Up w _ from (by repeat (first | exact Chg.refl _ _ | apply Chg.drew | apply Chg.drewN | refine Chg.alloc ?_ _))) G1.out
  clear g1
  have U_2 := Lib.hid (Chg.trans U0.out (Chg.trans (by repeat (first | exact Chg.refl _ _ | apply Chg.drew | apply Chg.drewN | refine Chg.alloc ?_ _)) G1.out))
  clear U0
  have X1_3 := Lib.hid (X1.out.up (Chg.trans (by repeat (first | exact Chg.refl _ _ | apply Chg.drew | apply Chg.drewN | refine Chg.alloc ?_ _)) G1.out))
  clear X1
  clear G1
  have B1_4 := Lib.hid (K1.out)
  clear K1
  go_wp2_with fail
  refine (sNextSavingT _ a0 _ _ a1 (B1_4.out.up (by repeat (first | exact Chg.refl _ _ | apply Chg.drew | apply Chg.drewN | refine Chg.alloc ?_ _)))).mono ?_
  rintro e w5 ⟨rfl, g1⟩
  have G1 := Lib.hid g1
  obtain ⟨hy5, hz5⟩ := up_prem (show Up w1 _ from (by repeat (first | exact Chg.refl _ _ | apply Chg.drew | apply Chg.drewN | refine Chg.alloc ?_ _))) G1.out
  clear g1
  have U_6 := Lib.hid (Chg.trans U_2.out (Chg.trans (by repeat (first | exact Chg.refl _ _ | apply Chg.drew | apply Chg.drewN | refine Chg.alloc ?_ _)) G1.out))
  clear U_2
  have X1_7 := Lib.hid (X1_3.out.up (Chg.trans (by repeat (first | exact Chg.refl _ _ | apply Chg.drew | apply Chg.drewN | refine Chg.alloc ?_ _)) G1.out))
  clear X1_3
  have B1_8 := Lib.hid (B1_4.out.up (Chg.trans (by repeat (first | exact Chg.refl _ _ | apply Chg.drew | apply Chg.drewN | refine Chg.alloc ?_ _)) G1.out))
  clear B1_4
  clear G1
  clear B1_8
  go_wp2_with fail
  refine (toOps _ _ _ a1 (by unfold cntOps; omega) (X1_7.out.up (by repeat (first | exact Chg.refl _ _ | apply Chg.drew | apply Chg.drewN | refine Chg.alloc ?_ _)))).mono ?_
  rintro e w9 ⟨v9, rfl, k1, g1⟩
  obtain ⟨A9, c9, rfl, hl9, hc9, -⟩ := k1.shape
  have K1 := Lib.hid k1
  clear k1
  have G1 := Lib.hid g1
  obtain ⟨hy9, hz9⟩ := up_prem (show Up w5 _ from (by repeat (first | exact Chg.refl _ _ | apply Chg.drew | apply Chg.drewN | refine Chg.alloc ?_ _))) G1.out
  clear g1
  have U_10 := Lib.hid (Chg.trans U_6.out (Chg.trans (by repeat (first | exact Chg.refl _ _ | apply Chg.drew | apply Chg.drewN | refine Chg.alloc ?_ _)) G1.out))
  clear U_6
  have X1_11 := Lib.hid (X1_7.out.up (Chg.trans (by repeat (first | exact Chg.refl _ _ | apply Chg.drew | apply Chg.drewN | refine Chg.alloc ?_ _)) G1.out))
  clear X1_7
  obtain ⟨W0_0_12c, W0_0_12f⟩ := (show CellF w9 ⟨w5.heap.size, 0, none⟩ (.int .i64 (nsR a0 a1)) from CellF.up G1.out (by repeat (first | ((refine cellF_at ?_ rfl); (simp; done)) | refine CellF.up ((Chg.refl _ _).alloc _) ?_)))
  obtain ⟨W0_1_13c, W0_1_13f⟩ := (show CellF w9 ⟨w5.heap.size, 1, none⟩ (.int .i64 (nsK a0 a1)) from CellF.up G1.out (by repeat (first | ((refine cellF_at ?_ rfl); (simp; done)) | refine CellF.up ((Chg.refl _ _).alloc _) ?_)))
  clear G1
  have C1_14 := Lib.hid (K1.out)
  clear K1
  have hbz15 : w5.heap.size < w9.heap.size := World.block_lt_of_cell? _ _ W0_0_12c
  go_wp2_with fail
  refine (NextSavingT _ a0 _ _ a1 (C1_14.out.up (by repeat (first | exact Chg.refl _ _ | apply Chg.drew | apply Chg.drewN | refine Chg.alloc ?_ _)))).mono ?_
  rintro e w16 ⟨rfl, g1⟩
  have G1 := Lib.hid g1
  obtain ⟨hy16, hz16⟩ := up_prem (show Up w9 _ from (by repeat (first | exact Chg.refl _ _ | apply Chg.drew | apply Chg.drewN | refine Chg.alloc ?_ _))) G1.out
  clear g1
  have U_17 := Lib.hid (Chg.trans U_10.out (Chg.trans (by repeat (first | exact Chg.refl _ _ | apply Chg.drew | apply Chg.drewN | refine Chg.alloc ?_ _)) G1.out))
  clear U_10
  have X1_18 := Lib.hid (X1_11.out.up (Chg.trans (by repeat (first | exact Chg.refl _ _ | apply Chg.drew | apply Chg.drewN | refine Chg.alloc ?_ _)) G1.out))
  clear X1_11
  obtain ⟨W0_0_19c, W0_0_19f⟩ := CellF.up (Chg.trans (by repeat (first | exact Chg.refl _ _ | apply Chg.drew | apply Chg.drewN | refine Chg.alloc ?_ _)) G1.out) ⟨W0_0_12c, W0_0_12f⟩
  clear W0_0_12c W0_0_12f
  obtain ⟨W0_1_20c, W0_1_20f⟩ := CellF.up (Chg.trans (by repeat (first | exact Chg.refl _ _ | apply Chg.drew | apply Chg.drewN | refine Chg.alloc ?_ _)) G1.out) ⟨W0_1_13c, W0_1_13f⟩
  clear W0_1_13c W0_1_13f
  have C1_21 := Lib.hid (C1_14.out.up (Chg.trans (by repeat (first | exact Chg.refl _ _ | apply Chg.drew | apply Chg.drewN | refine Chg.alloc ?_ _)) G1.out))
  clear C1_14
  clear G1
  have hbr16_0 : w5.heap.size < w16.heap.size := by omega
  go_wp2_with fail
  refine (eqSaving_same _ ⟨nsR a0 a1, nsK a0 a1⟩).mono ?_
  rintro e w22 ⟨rfl, g1⟩
  have G1 := Lib.hid g1
  obtain ⟨hy22, hz22⟩ := up_prem (show Up w16 _ from (by repeat (first | exact Chg.refl _ _ | apply Chg.drew | apply Chg.drewN | refine Chg.alloc ?_ _))) G1.out
  clear g1
  have U_23 := Lib.hid (Chg.trans U_17.out (Chg.trans (by repeat (first | exact Chg.refl _ _ | apply Chg.drew | apply Chg.drewN | refine Chg.alloc ?_ _)) G1.out))
  clear U_17
  have X1_24 := Lib.hid (X1_18.out.up (Chg.trans (by repeat (first | exact Chg.refl _ _ | apply Chg.drew | apply Chg.drewN | refine Chg.alloc ?_ _)) G1.out))
  clear X1_18
  obtain ⟨W0_0_25c, W0_0_25f⟩ := CellF.up (Chg.trans (by repeat (first | exact Chg.refl _ _ | apply Chg.drew | apply Chg.drewN | refine Chg.alloc ?_ _)) G1.out) ⟨W0_0_19c, W0_0_19f⟩
  clear W0_0_19c W0_0_19f
  obtain ⟨W0_1_26c, W0_1_26f⟩ := CellF.up (Chg.trans (by repeat (first | exact Chg.refl _ _ | apply Chg.drew | apply Chg.drewN | refine Chg.alloc ?_ _)) G1.out) ⟨W0_1_20c, W0_1_20f⟩
  clear W0_1_20c W0_1_20f
  have C1_27 := Lib.hid (C1_21.out.up (Chg.trans (by repeat (first | exact Chg.refl _ _ | apply Chg.drew | apply Chg.drewN | refine Chg.alloc ?_ _)) G1.out))
  clear C1_21
  obtain ⟨R0_0_28c, R0_0_28f⟩ := (show CellF w22 ⟨w16.heap.size, 0, none⟩ (.int .i64 (nsR a0 a1)) from CellF.up G1.out (by repeat (first | ((refine cellF_at ?_ rfl); (simp; done)) | refine CellF.up ((Chg.refl _ _).alloc _) ?_)))
  obtain ⟨R0_1_29c, R0_1_29f⟩ := (show CellF w22 ⟨w16.heap.size, 1, none⟩ (.int .i64 (nsK a0 a1)) from CellF.up G1.out (by repeat (first | ((refine cellF_at ?_ rfl); (simp; done)) | refine CellF.up ((Chg.refl _ _).alloc _) ?_)))
  clear G1
  have hbz30 : w16.heap.size < w22.heap.size := World.block_lt_of_cell? _ _ R0_0_28c
  go_wp2_with fail
  refine (toOps _ _ _ a1 (by unfold cntOps; omega) (X1_24.out.up (by repeat (first | exact Chg.refl _ _ | apply Chg.drew | apply Chg.drewN | refine Chg.alloc ?_ _)))).mono ?_
  rintro e w31 ⟨v31, rfl, k1, g1⟩
  obtain ⟨A31, c31, rfl, hl31, hc31, -⟩ := k1.shape
  have K1 := Lib.hid k1
  clear k1
  have G1 := Lib.hid g1
  obtain ⟨hy31, hz31⟩ := up_prem (show Up w22 _ from (by repeat (first | exact Chg.refl _ _ | apply Chg.drew | apply Chg.drewN | refine Chg.alloc ?_ _))) G1.out
  clear g1
  have U_32 := Lib.hid (Chg.trans U_23.out (Chg.trans (by repeat (first | exact Chg.refl _ _ | apply Chg.drew | apply Chg.drewN | refine Chg.alloc ?_ _)) G1.out))
  clear U_23
  have X1_33 := Lib.hid (X1_24.out.up (Chg.trans (by repeat (first | exact Chg.refl _ _ | apply Chg.drew | apply Chg.drewN | refine Chg.alloc ?_ _)) G1.out))
  clear X1_24
  obtain ⟨W0_0_34c, W0_0_34f⟩ := CellF.up (Chg.trans (by repeat (first | exact Chg.refl _ _ | apply Chg.drew | apply Chg.drewN | refine Chg.alloc ?_ _)) G1.out) ⟨W0_0_25c, W0_0_25f⟩
  clear W0_0_25c W0_0_25f
  obtain ⟨W0_1_35c, W0_1_35f⟩ := CellF.up (Chg.trans (by repeat (first | exact Chg.refl _ _ | apply Chg.drew | apply Chg.drewN | refine Chg.alloc ?_ _)) G1.out) ⟨W0_1_26c, W0_1_26f⟩
  clear W0_1_26c W0_1_26f
  have C1_36 := Lib.hid (C1_27.out.up (Chg.trans (by repeat (first | exact Chg.refl _ _ | apply Chg.drew | apply Chg.drewN | refine Chg.alloc ?_ _)) G1.out))
  clear C1_27
  obtain ⟨R0_0_37c, R0_0_37f⟩ := CellF.up (Chg.trans (by repeat (first | exact Chg.refl _ _ | apply Chg.drew | apply Chg.drewN | refine Chg.alloc ?_ _)) G1.out) ⟨R0_0_28c, R0_0_28f⟩
  clear R0_0_28c R0_0_28f
  obtain ⟨R0_1_38c, R0_1_38f⟩ := CellF.up (Chg.trans (by repeat (first | exact Chg.refl _ _ | apply Chg.drew | apply Chg.drewN | refine Chg.alloc ?_ _)) G1.out) ⟨R0_1_29c, R0_1_29f⟩
  clear R0_1_29c R0_1_29f
  clear G1
  have D1_39 := Lib.hid (K1.out)
  clear K1
  go_wp2_with fail
  refine (eqOps _ _ _ _ _ a1 (C1_36.out.up (by repeat (first | exact Chg.refl _ _ | apply Chg.drew | apply Chg.drewN | refine Chg.alloc ?_ _))) (D1_39.out.up (by repeat (first | exact Chg.refl _ _ | apply Chg.drew | apply Chg.drewN | refine Chg.alloc ?_ _)))).mono ?_
  rintro e w40 ⟨rfl, g1⟩
  have G1 := Lib.hid g1
  obtain ⟨hy40, hz40⟩ := up_prem (show Up w31 _ from (by repeat (first | exact Chg.refl _ _ | apply Chg.drew | apply Chg.drewN | refine Chg.alloc ?_ _))) G1.out
  clear g1
  have U_41 := Lib.hid (Chg.trans U_32.out (Chg.trans (by repeat (first | exact Chg.refl _ _ | apply Chg.drew | apply Chg.drewN | refine Chg.alloc ?_ _)) G1.out))
  clear U_32
  have X1_42 := Lib.hid (X1_33.out.up (Chg.trans (by repeat (first | exact Chg.refl _ _ | apply Chg.drew | apply Chg.drewN | refine Chg.alloc ?_ _)) G1.out))
  clear X1_33
  obtain ⟨W0_0_43c, W0_0_43f⟩ := CellF.up (Chg.trans (by repeat (first | exact Chg.refl _ _ | apply Chg.drew | apply Chg.drewN | refine Chg.alloc ?_ _)) G1.out) ⟨W0_0_34c, W0_0_34f⟩
  clear W0_0_34c W0_0_34f
  obtain ⟨W0_1_44c, W0_1_44f⟩ := CellF.up (Chg.trans (by repeat (first | exact Chg.refl _ _ | apply Chg.drew | apply Chg.drewN | refine Chg.alloc ?_ _)) G1.out) ⟨W0_1_35c, W0_1_35f⟩
  clear W0_1_35c W0_1_35f
  have C1_45 := Lib.hid (C1_36.out.up (Chg.trans (by repeat (first | exact Chg.refl _ _ | apply Chg.drew | apply Chg.drewN | refine Chg.alloc ?_ _)) G1.out))
  clear C1_36
  obtain ⟨R0_0_46c, R0_0_46f⟩ := CellF.up (Chg.trans (by repeat (first | exact Chg.refl _ _ | apply Chg.drew | apply Chg.drewN | refine Chg.alloc ?_ _)) G1.out) ⟨R0_0_37c, R0_0_37f⟩
  clear R0_0_37c R0_0_37f
  obtain ⟨R0_1_47c, R0_1_47f⟩ := CellF.up (Chg.trans (by repeat (first | exact Chg.refl _ _ | apply Chg.drew | apply Chg.drewN | refine Chg.alloc ?_ _)) G1.out) ⟨R0_1_38c, R0_1_38f⟩
  clear R0_1_38c R0_1_38f
  have D1_48 := Lib.hid (D1_39.out.up (Chg.trans (by repeat (first | exact Chg.refl _ _ | apply Chg.drew | apply Chg.drewN | refine Chg.alloc ?_ _)) G1.out))
  clear D1_39
  clear G1
  clear D1_48
  go_wp2
  go_ret
  exact ⟨rfl, Up.below (Chg.trans U_41.out (by repeat (first | exact Chg.refl _ _ | apply Chg.drew | apply Chg.drewN | refine Chg.alloc ?_ _)))⟩
set_option maxRecDepth 100000 in
theorem walk (w : World) (a0 : Int) (ia0 : I64 a0) (v1 : Value) (a1 : List OpM) (ha1 : Ops w (fun b => b < w.heap.size) v1 a1) :
    Calls Try.prog 5 #[.int .i64 a0, v1] w fun e w' => e = .returned (.bool true) ∧ Below w.heap.size w w' := by
  by_cases hbt : (a1.length : Int) ≤ 1048576
  rotate_left
  · skip
    have X1 := Lib.hid ha1
    have hd : decide ((-1 : Int) < 0) = true := rfl
    obtain ⟨A1, c1, rfl, -⟩ := ha1.shape
    go_enter Try.func5, Try.ntmps5
    go_wp2_with fail
    refine (szOps_no _ _ _ a1 1048576 (by omega) (by omega) X1.out).mono ?_
    rintro e _ ⟨rfl, rfl⟩
    go_wp2
    go_ret
    exact ⟨rfl, Below.refl _ _⟩
  exact walk0 w a0 ia0 v1 a1 ha1 hbt
end fnExactNextSaving
end Go.Proofs.Ytiiodfcbpmkodaa
