/- The program's SameProof answers as the reference's, for all proofs; what it is given stays as it was. No condition. -/
import Derived.Test.YtjgdcjhmfbefdaaPrfL
namespace Go.Proofs.Ytjgdcjhmfbefdaa
open Go.ChangeShapes Go.WideShapes Go.ChangeAt Go.RowKit
namespace fnExactSameProof
set_option linter.unusedVariables false in
set_option maxRecDepth 100000 in
set_option maxHeartbeats 8000000 in
theorem walk0 (w : World) (v0 : Value) (a0 : ProofM) (ha0 : ProofA w (fun b => b < w.heap.size) v0 a0) (v1 : Value) (a1 : ProofM) (ha1 : ProofA w (fun b => b < w.heap.size) v1 a1)  (hbt : (szP a0 : Int) + (szP a1 : Int) ≤ 1048576) :
    Calls Try.prog 3 #[v0, v1] w fun e w' => e = .returned (.bool true) ∧ Below w.heap.size w w' := by
  have U0 := Lib.hid (Chg.refl Nowhere w)
  obtain ⟨A0, c0, Z0, z0, rfl, y0⟩ := openProof ha0
  have X0 := Lib.hid ha0
  clear ha0 y0
  obtain ⟨A1, c1, Z1, z1, rfl, y1⟩ := openProof ha1
  have X1 := Lib.hid ha1
  clear ha1 y1
  have U_1 := Lib.hid (Chg.trans U0.out ((Chg.refl Nowhere w).alloc (.cells #[.slice A0 a0.forms.length c0, .slice Z0 a0.sts.length z0] 25)))
  clear U0
  have X0_2 := Lib.hid (X0.out.up ((Chg.refl Nowhere w).alloc (.cells #[.slice A0 a0.forms.length c0, .slice Z0 a0.sts.length z0] 25)))
  clear X0
  have X1_3 := Lib.hid (X1.out.up ((Chg.refl Nowhere w).alloc (.cells #[.slice A0 a0.forms.length c0, .slice Z0 a0.sts.length z0] 25)))
  clear X1
  have q0_0_4 := (show (w.alloc (.cells #[.slice A0 a0.forms.length c0, .slice Z0 a0.sts.length z0] 25)).cell? ⟨w.heap.size, 0, none⟩ = some (.slice A0 a0.forms.length c0) from cell_new _ _ _ _)
  have q0_1_5 := (show (w.alloc (.cells #[.slice A0 a0.forms.length c0, .slice Z0 a0.sts.length z0] 25)).cell? ⟨w.heap.size, 1, none⟩ = some (.slice Z0 a0.sts.length z0) from cell_new _ _ _ _)
  have hbx6 : w.heap.size < (w.alloc (.cells #[.slice A0 a0.forms.length c0, .slice Z0 a0.sts.length z0] 25)).heap.size := by simp
  have U_7 := Lib.hid (Chg.trans U_1.out ((Chg.refl Nowhere (w.alloc (.cells #[.slice A0 a0.forms.length c0, .slice Z0 a0.sts.length z0] 25))).alloc (.cells #[.slice A1 a1.forms.length c1, .slice Z1 a1.sts.length z1] 25)))
  clear U_1
  have X0_8 := Lib.hid (X0_2.out.up ((Chg.refl Nowhere (w.alloc (.cells #[.slice A0 a0.forms.length c0, .slice Z0 a0.sts.length z0] 25))).alloc (.cells #[.slice A1 a1.forms.length c1, .slice Z1 a1.sts.length z1] 25)))
  clear X0_2
  have X1_9 := Lib.hid (X1_3.out.up ((Chg.refl Nowhere (w.alloc (.cells #[.slice A0 a0.forms.length c0, .slice Z0 a0.sts.length z0] 25))).alloc (.cells #[.slice A1 a1.forms.length c1, .slice Z1 a1.sts.length z1] 25)))
  clear X1_3
  have q0_0_10 := Chg.cell ((Chg.refl Nowhere (w.alloc (.cells #[.slice A0 a0.forms.length c0, .slice Z0 a0.sts.length z0] 25))).alloc (.cells #[.slice A1 a1.forms.length c1, .slice Z1 a1.sts.length z1] 25)) q0_0_4 id
  clear q0_0_4
  have q0_1_11 := Chg.cell ((Chg.refl Nowhere (w.alloc (.cells #[.slice A0 a0.forms.length c0, .slice Z0 a0.sts.length z0] 25))).alloc (.cells #[.slice A1 a1.forms.length c1, .slice Z1 a1.sts.length z1] 25)) q0_1_5 id
  clear q0_1_5
  have q1_0_12 := (show ((w.alloc (.cells #[.slice A0 a0.forms.length c0, .slice Z0 a0.sts.length z0] 25)).alloc (.cells #[.slice A1 a1.forms.length c1, .slice Z1 a1.sts.length z1] 25)).cell? ⟨w.heap.size + 1, 0, none⟩ = some (.slice A1 a1.forms.length c1) from (cellF_at (by simp) rfl).1)
  have q1_1_13 := (show ((w.alloc (.cells #[.slice A0 a0.forms.length c0, .slice Z0 a0.sts.length z0] 25)).alloc (.cells #[.slice A1 a1.forms.length c1, .slice Z1 a1.sts.length z1] 25)).cell? ⟨w.heap.size + 1, 1, none⟩ = some (.slice Z1 a1.sts.length z1) from (cellF_at (by simp) rfl).1)
  have hbx14 : (w.alloc (.cells #[.slice A0 a0.forms.length c0, .slice Z0 a0.sts.length z0] 25)).heap.size < ((w.alloc (.cells #[.slice A0 a0.forms.length c0, .slice Z0 a0.sts.length z0] 25)).alloc (.cells #[.slice A1 a1.forms.length c1, .slice Z1 a1.sts.length z1] 25)).heap.size := by simp
  have hr0 : szP a0 ≤ 1048576 := by omega
  have hr1 : szP a1 ≤ 1048576 := by omega
  go_enter Try.func3, Try.ntmps3
  have hd0 : decide ((1048576 : Int) - szP a0 < 0) = false := decide_eq_false (by omega)
  go_wp2_with fail
  refine (szProofA_ok _ _ _ a0 (1048576) (by omega) (by omega) (X0_8.out.up (by repeat (first | exact Chg.refl _ _ | apply Chg.drew | apply Chg.drewN | refine Chg.alloc ?_ _)))).mono ?_
  rintro e w15 ⟨rfl, g1⟩
  have G1 := Lib.hid g1
  obtain ⟨hy15, hz15⟩ := up_pre (show Up ((w.alloc (.cells #[.slice A0 a0.forms.length c0, .slice Z0 a0.sts.length z0] 25)).alloc (.cells #[.slice A1 a1.forms.length c1, .slice Z1 a1.sts.length z1] 25)) _ from (by repeat (first | exact Chg.refl _ _ | apply Chg.drew | apply Chg.drewN | refine Chg.alloc ?_ _))) G1.out
  clear g1
  have U_16 := Lib.hid (Chg.trans U_7.out (Chg.trans (by repeat (first | exact Chg.refl _ _ | apply Chg.drew | apply Chg.drewN | refine Chg.alloc ?_ _)) G1.out))
  clear U_7
  have X0_17 := Lib.hid (X0_8.out.up (Chg.trans (by repeat (first | exact Chg.refl _ _ | apply Chg.drew | apply Chg.drewN | refine Chg.alloc ?_ _)) G1.out))
  clear X0_8
  have X1_18 := Lib.hid (X1_9.out.up (Chg.trans (by repeat (first | exact Chg.refl _ _ | apply Chg.drew | apply Chg.drewN | refine Chg.alloc ?_ _)) G1.out))
  clear X1_9
  have q0_0_19 := Chg.cell (Chg.trans (by repeat (first | exact Chg.refl _ _ | apply Chg.drew | apply Chg.drewN | refine Chg.alloc ?_ _)) G1.out) q0_0_10 id
  clear q0_0_10
  have q0_1_20 := Chg.cell (Chg.trans (by repeat (first | exact Chg.refl _ _ | apply Chg.drew | apply Chg.drewN | refine Chg.alloc ?_ _)) G1.out) q0_1_11 id
  clear q0_1_11
  have q1_0_21 := Chg.cell (Chg.trans (by repeat (first | exact Chg.refl _ _ | apply Chg.drew | apply Chg.drewN | refine Chg.alloc ?_ _)) G1.out) q1_0_12 id
  clear q1_0_12
  have q1_1_22 := Chg.cell (Chg.trans (by repeat (first | exact Chg.refl _ _ | apply Chg.drew | apply Chg.drewN | refine Chg.alloc ?_ _)) G1.out) q1_1_13 id
  clear q1_1_13
  clear G1
  have hd1 : decide ((1048576 : Int) - szP a0 - szP a1 < 0) = false := decide_eq_false (by omega)
  go_wp2_with fail
  refine (szProofA_ok _ _ _ a1 ((1048576 : Int) - szP a0) (by omega) (by omega) (X1_18.out.up (by repeat (first | exact Chg.refl _ _ | apply Chg.drew | apply Chg.drewN | refine Chg.alloc ?_ _)))).mono ?_
  rintro e w23 ⟨rfl, g1⟩
  have G1 := Lib.hid g1
  obtain ⟨hy23, hz23⟩ := up_pre (show Up w15 _ from (by repeat (first | exact Chg.refl _ _ | apply Chg.drew | apply Chg.drewN | refine Chg.alloc ?_ _))) G1.out
  clear g1
  have U_24 := Lib.hid (Chg.trans U_16.out (Chg.trans (by repeat (first | exact Chg.refl _ _ | apply Chg.drew | apply Chg.drewN | refine Chg.alloc ?_ _)) G1.out))
  clear U_16
  have X0_25 := Lib.hid (X0_17.out.up (Chg.trans (by repeat (first | exact Chg.refl _ _ | apply Chg.drew | apply Chg.drewN | refine Chg.alloc ?_ _)) G1.out))
  clear X0_17
  have X1_26 := Lib.hid (X1_18.out.up (Chg.trans (by repeat (first | exact Chg.refl _ _ | apply Chg.drew | apply Chg.drewN | refine Chg.alloc ?_ _)) G1.out))
  clear X1_18
  have q0_0_27 := Chg.cell (Chg.trans (by repeat (first | exact Chg.refl _ _ | apply Chg.drew | apply Chg.drewN | refine Chg.alloc ?_ _)) G1.out) q0_0_19 id
  clear q0_0_19
  have q0_1_28 := Chg.cell (Chg.trans (by repeat (first | exact Chg.refl _ _ | apply Chg.drew | apply Chg.drewN | refine Chg.alloc ?_ _)) G1.out) q0_1_20 id
  clear q0_1_20
  have q1_0_29 := Chg.cell (Chg.trans (by repeat (first | exact Chg.refl _ _ | apply Chg.drew | apply Chg.drewN | refine Chg.alloc ?_ _)) G1.out) q1_0_21 id
  clear q1_0_21
  have q1_1_30 := Chg.cell (Chg.trans (by repeat (first | exact Chg.refl _ _ | apply Chg.drew | apply Chg.drewN | refine Chg.alloc ?_ _)) G1.out) q1_1_22 id
  clear q1_1_22
  clear G1
  go_wp2
  have U_h31 := U_24
  clear U_24
  have X0_h31 := X0_25
  clear X0_25
  have X1_h31 := X1_26
  clear X1_26
  have q0_0_h31 := q0_0_27
  clear q0_0_27
  have q0_1_h31 := q0_1_28
  clear q0_1_28
  have q1_0_h31 := q1_0_29
  clear q1_0_29
  have q1_1_h31 := q1_1_30
  clear q1_1_30
  go_region_held3 (fun w' => w'.cell? ⟨w.heap.size, 0, none⟩ = some (.slice A0 a0.forms.length c0) ∧ w'.cell? ⟨w.heap.size, 1, none⟩ = some (.slice Z0 a0.sts.length z0) ∧ w'.cell? ⟨w.heap.size + 1, 0, none⟩ = some (.slice A1 a1.forms.length c1) ∧ w'.cell? ⟨w.heap.size + 1, 1, none⟩ = some (.slice Z1 a1.sts.length z1))
      (first | (exact ⟨q0_0_h31, q0_1_h31, q1_0_h31, q1_1_h31⟩) | (obtain ⟨p0, p1, p2, p3⟩ : (World.cell? _ _ = _ ∧ World.cell? _ _ = _ ∧ World.cell? _ _ = _ ∧ World.cell? _ _ = _) := (by assumption); exact ⟨Chg.cell g1 p0 id, Chg.cell g1 p1 id, Chg.cell g1 p2 id, Chg.cell g1 p3 id⟩))
      (first | (go_at_call 12; (with_reducible refine (toProofA_any _ _ _ a0 (by omega) (X0_h31.out.up (by repeat (first | exact Chg.refl _ _ | apply Chg.drew | apply Chg.drewN | refine Chg.alloc ?_ _)))).mono ?_); rintro e w31_0 ⟨v31_0, rfl, k1, g1⟩; obtain ⟨As31_0, cs31_0, Zs31_0, zs31_0, rfl, ys31_0⟩ := openProof k1; clear ys31_0; have C0_h31 := Lib.hid k1; have hz31_0 := g1.size; have U_h31 := Lib.hid (Chg.trans U_h31.out (Chg.trans (by repeat (first | exact Chg.refl _ _ | apply Chg.drew | apply Chg.drewN | refine Chg.alloc ?_ _)) g1)); have X0_h31 := Lib.hid (X0_h31.out.up (Chg.trans (by repeat (first | exact Chg.refl _ _ | apply Chg.drew | apply Chg.drewN | refine Chg.alloc ?_ _)) g1)); have X1_h31 := Lib.hid (X1_h31.out.up (Chg.trans (by repeat (first | exact Chg.refl _ _ | apply Chg.drew | apply Chg.drewN | refine Chg.alloc ?_ _)) g1)); have q0_0_h31 := Chg.cell (Chg.trans (by repeat (first | exact Chg.refl _ _ | apply Chg.drew | apply Chg.drewN | refine Chg.alloc ?_ _)) g1) q0_0_h31 id; have q0_1_h31 := Chg.cell (Chg.trans (by repeat (first | exact Chg.refl _ _ | apply Chg.drew | apply Chg.drewN | refine Chg.alloc ?_ _)) g1) q0_1_h31 id; have q1_0_h31 := Chg.cell (Chg.trans (by repeat (first | exact Chg.refl _ _ | apply Chg.drew | apply Chg.drewN | refine Chg.alloc ?_ _)) g1) q1_0_h31 id; have q1_1_h31 := Chg.cell (Chg.trans (by repeat (first | exact Chg.refl _ _ | apply Chg.drew | apply Chg.drewN | refine Chg.alloc ?_ _)) g1) q1_1_h31 id; clear k1) | (go_at_call 12; (with_reducible refine (toProofA_any _ _ _ a1 (by omega) (X1_h31.out.up (by repeat (first | exact Chg.refl _ _ | apply Chg.drew | apply Chg.drewN | refine Chg.alloc ?_ _)))).mono ?_); rintro e w31_1 ⟨v31_1, rfl, k1, g1⟩; obtain ⟨As31_1, cs31_1, Zs31_1, zs31_1, rfl, ys31_1⟩ := openProof k1; clear ys31_1; have C1_h31 := Lib.hid k1; have hz31_1 := g1.size; have U_h31 := Lib.hid (Chg.trans U_h31.out (Chg.trans (by repeat (first | exact Chg.refl _ _ | apply Chg.drew | apply Chg.drewN | refine Chg.alloc ?_ _)) g1)); have X0_h31 := Lib.hid (X0_h31.out.up (Chg.trans (by repeat (first | exact Chg.refl _ _ | apply Chg.drew | apply Chg.drewN | refine Chg.alloc ?_ _)) g1)); have X1_h31 := Lib.hid (X1_h31.out.up (Chg.trans (by repeat (first | exact Chg.refl _ _ | apply Chg.drew | apply Chg.drewN | refine Chg.alloc ?_ _)) g1)); have q0_0_h31 := Chg.cell (Chg.trans (by repeat (first | exact Chg.refl _ _ | apply Chg.drew | apply Chg.drewN | refine Chg.alloc ?_ _)) g1) q0_0_h31 id; have q0_1_h31 := Chg.cell (Chg.trans (by repeat (first | exact Chg.refl _ _ | apply Chg.drew | apply Chg.drewN | refine Chg.alloc ?_ _)) g1) q0_1_h31 id; have q1_0_h31 := Chg.cell (Chg.trans (by repeat (first | exact Chg.refl _ _ | apply Chg.drew | apply Chg.drewN | refine Chg.alloc ?_ _)) g1) q1_0_h31 id; have q1_1_h31 := Chg.cell (Chg.trans (by repeat (first | exact Chg.refl _ _ | apply Chg.drew | apply Chg.drewN | refine Chg.alloc ?_ _)) g1) q1_1_h31 id; have C0_h31 := Lib.hid (C0_h31.out.up (Chg.trans (by repeat (first | exact Chg.refl _ _ | apply Chg.drew | apply Chg.drewN | refine Chg.alloc ?_ _)) g1)); clear k1) | (go_at_call 11; refine (sSameProof_A _ _ _ a0 (C0_h31.out.up (by repeat (first | exact Chg.refl _ _ | apply Chg.drew | apply Chg.drewN | refine Chg.alloc ?_ _))) _ _ a1 (C1_h31.out.up (by repeat (first | exact Chg.refl _ _ | apply Chg.drew | apply Chg.drewN | refine Chg.alloc ?_ _)))).mono ?_; rintro e w31_f ⟨rfl, g1⟩; have hz31_f := g1.size; have U_h31 := Lib.hid (Chg.trans U_h31.out (Chg.trans (by repeat (first | exact Chg.refl _ _ | apply Chg.drew | apply Chg.drewN | refine Chg.alloc ?_ _)) g1)); have X0_h31 := Lib.hid (X0_h31.out.up (Chg.trans (by repeat (first | exact Chg.refl _ _ | apply Chg.drew | apply Chg.drewN | refine Chg.alloc ?_ _)) g1)); have X1_h31 := Lib.hid (X1_h31.out.up (Chg.trans (by repeat (first | exact Chg.refl _ _ | apply Chg.drew | apply Chg.drewN | refine Chg.alloc ?_ _)) g1)); have q0_0_h31 := Chg.cell (Chg.trans (by repeat (first | exact Chg.refl _ _ | apply Chg.drew | apply Chg.drewN | refine Chg.alloc ?_ _)) g1) q0_0_h31 id; have q0_1_h31 := Chg.cell (Chg.trans (by repeat (first | exact Chg.refl _ _ | apply Chg.drew | apply Chg.drewN | refine Chg.alloc ?_ _)) g1) q0_1_h31 id; have q1_0_h31 := Chg.cell (Chg.trans (by repeat (first | exact Chg.refl _ _ | apply Chg.drew | apply Chg.drewN | refine Chg.alloc ?_ _)) g1) q1_0_h31 id; have q1_1_h31 := Chg.cell (Chg.trans (by repeat (first | exact Chg.refl _ _ | apply Chg.drew | apply Chg.drewN | refine Chg.alloc ?_ _)) g1) q1_1_h31 id))
  all_goals
    clear g1
    clear C0_h31
    clear C1_h31
    have hzu31 := U_h31.out.size
    have hzv31_0 : w.heap.size < w31_f.heap.size := World.block_lt_of_cell? _ _ q0_0_h31
    have hzv31_1 : w.heap.size + 1 < w31_f.heap.size := World.block_lt_of_cell? _ _ q1_0_h31
    go_wp2_with fail
    refine (toProofA_any _ _ _ a0 (by omega) (X0_h31.out.up (by repeat (first | exact Chg.refl _ _ | apply Chg.drew | apply Chg.drewN | refine Chg.alloc ?_ _)))).mono ?_
    rintro e w32 ⟨v32, rfl, k1, g1⟩
    have K1 := Lib.hid k1
    clear k1
    have G1 := Lib.hid g1
    obtain ⟨hy32, hz32⟩ := up_pre (show Up w31_f _ from (by repeat (first | exact Chg.refl _ _ | apply Chg.drew | apply Chg.drewN | refine Chg.alloc ?_ _))) G1.out
    clear g1
    have U_33 := Lib.hid (Chg.trans U_h31.out (Chg.trans (by repeat (first | exact Chg.refl _ _ | apply Chg.drew | apply Chg.drewN | refine Chg.alloc ?_ _)) G1.out))
    clear U_h31
    have X0_34 := Lib.hid (X0_h31.out.up (Chg.trans (by repeat (first | exact Chg.refl _ _ | apply Chg.drew | apply Chg.drewN | refine Chg.alloc ?_ _)) G1.out))
    clear X0_h31
    have X1_35 := Lib.hid (X1_h31.out.up (Chg.trans (by repeat (first | exact Chg.refl _ _ | apply Chg.drew | apply Chg.drewN | refine Chg.alloc ?_ _)) G1.out))
    clear X1_h31
    have q0_0_36 := Chg.cell (Chg.trans (by repeat (first | exact Chg.refl _ _ | apply Chg.drew | apply Chg.drewN | refine Chg.alloc ?_ _)) G1.out) q0_0_h31 id
    clear q0_0_h31
    have q0_1_37 := Chg.cell (Chg.trans (by repeat (first | exact Chg.refl _ _ | apply Chg.drew | apply Chg.drewN | refine Chg.alloc ?_ _)) G1.out) q0_1_h31 id
    clear q0_1_h31
    have q1_0_38 := Chg.cell (Chg.trans (by repeat (first | exact Chg.refl _ _ | apply Chg.drew | apply Chg.drewN | refine Chg.alloc ?_ _)) G1.out) q1_0_h31 id
    clear q1_0_h31
    have q1_1_39 := Chg.cell (Chg.trans (by repeat (first | exact Chg.refl _ _ | apply Chg.drew | apply Chg.drewN | refine Chg.alloc ?_ _)) G1.out) q1_1_h31 id
    clear q1_1_h31
    clear G1
    have C0_40 := Lib.hid (K1.out)
    clear K1
    obtain ⟨As32, cs32, Zs32, zs32, rfl, ys32⟩ := openProof C0_40.out
    clear ys32
    have U_41 := Lib.hid (Chg.trans U_33.out ((Chg.refl Nowhere w32).alloc (.cells #[.slice As32 a0.forms.length cs32, .slice Zs32 a0.sts.length zs32] 31)))
    clear U_33
    have X0_42 := Lib.hid (X0_34.out.up ((Chg.refl Nowhere w32).alloc (.cells #[.slice As32 a0.forms.length cs32, .slice Zs32 a0.sts.length zs32] 31)))
    clear X0_34
    have X1_43 := Lib.hid (X1_35.out.up ((Chg.refl Nowhere w32).alloc (.cells #[.slice As32 a0.forms.length cs32, .slice Zs32 a0.sts.length zs32] 31)))
    clear X1_35
    have q0_0_44 := Chg.cell ((Chg.refl Nowhere w32).alloc (.cells #[.slice As32 a0.forms.length cs32, .slice Zs32 a0.sts.length zs32] 31)) q0_0_36 id
    clear q0_0_36
    have q0_1_45 := Chg.cell ((Chg.refl Nowhere w32).alloc (.cells #[.slice As32 a0.forms.length cs32, .slice Zs32 a0.sts.length zs32] 31)) q0_1_37 id
    clear q0_1_37
    have q1_0_46 := Chg.cell ((Chg.refl Nowhere w32).alloc (.cells #[.slice As32 a0.forms.length cs32, .slice Zs32 a0.sts.length zs32] 31)) q1_0_38 id
    clear q1_0_38
    have q1_1_47 := Chg.cell ((Chg.refl Nowhere w32).alloc (.cells #[.slice As32 a0.forms.length cs32, .slice Zs32 a0.sts.length zs32] 31)) q1_1_39 id
    clear q1_1_39
    have C0_48 := Lib.hid (C0_40.out.up ((Chg.refl Nowhere w32).alloc (.cells #[.slice As32 a0.forms.length cs32, .slice Zs32 a0.sts.length zs32] 31)))
    clear C0_40
    obtain ⟨x0_0_49c, x0_0_49f⟩ := (show CellF (w32.alloc (.cells #[.slice As32 a0.forms.length cs32, .slice Zs32 a0.sts.length zs32] 31)) ⟨w32.heap.size, 0, none⟩ (.slice As32 a0.forms.length cs32) from cellF_at rfl rfl)
    obtain ⟨x0_1_50c, x0_1_50f⟩ := (show CellF (w32.alloc (.cells #[.slice As32 a0.forms.length cs32, .slice Zs32 a0.sts.length zs32] 31)) ⟨w32.heap.size, 1, none⟩ (.slice Zs32 a0.sts.length zs32) from cellF_at rfl rfl)
    go_wp2_with fail
    refine (toProofA_any _ _ _ a1 (by omega) (X1_43.out.up (by repeat (first | exact Chg.refl _ _ | apply Chg.drew | apply Chg.drewN | refine Chg.alloc ?_ _)))).mono ?_
    rintro e w51 ⟨v51, rfl, k1, g1⟩
    have K1 := Lib.hid k1
    clear k1
    have G1 := Lib.hid g1
    obtain ⟨hy51, hz51⟩ := up_pre (show Up (w32.alloc (.cells #[.slice As32 a0.forms.length cs32, .slice Zs32 a0.sts.length zs32] 31)) _ from (by repeat (first | exact Chg.refl _ _ | apply Chg.drew | apply Chg.drewN | refine Chg.alloc ?_ _))) G1.out
    clear g1
    have U_52 := Lib.hid (Chg.trans U_41.out (Chg.trans (by repeat (first | exact Chg.refl _ _ | apply Chg.drew | apply Chg.drewN | refine Chg.alloc ?_ _)) G1.out))
    clear U_41
    have X0_53 := Lib.hid (X0_42.out.up (Chg.trans (by repeat (first | exact Chg.refl _ _ | apply Chg.drew | apply Chg.drewN | refine Chg.alloc ?_ _)) G1.out))
    clear X0_42
    have X1_54 := Lib.hid (X1_43.out.up (Chg.trans (by repeat (first | exact Chg.refl _ _ | apply Chg.drew | apply Chg.drewN | refine Chg.alloc ?_ _)) G1.out))
    clear X1_43
    have q0_0_55 := Chg.cell (Chg.trans (by repeat (first | exact Chg.refl _ _ | apply Chg.drew | apply Chg.drewN | refine Chg.alloc ?_ _)) G1.out) q0_0_44 id
    clear q0_0_44
    have q0_1_56 := Chg.cell (Chg.trans (by repeat (first | exact Chg.refl _ _ | apply Chg.drew | apply Chg.drewN | refine Chg.alloc ?_ _)) G1.out) q0_1_45 id
    clear q0_1_45
    have q1_0_57 := Chg.cell (Chg.trans (by repeat (first | exact Chg.refl _ _ | apply Chg.drew | apply Chg.drewN | refine Chg.alloc ?_ _)) G1.out) q1_0_46 id
    clear q1_0_46
    have q1_1_58 := Chg.cell (Chg.trans (by repeat (first | exact Chg.refl _ _ | apply Chg.drew | apply Chg.drewN | refine Chg.alloc ?_ _)) G1.out) q1_1_47 id
    clear q1_1_47
    have C0_59 := Lib.hid (C0_48.out.up (Chg.trans (by repeat (first | exact Chg.refl _ _ | apply Chg.drew | apply Chg.drewN | refine Chg.alloc ?_ _)) G1.out))
    clear C0_48
    obtain ⟨x0_0_60c, x0_0_60f⟩ := CellF.up (Chg.trans (by repeat (first | exact Chg.refl _ _ | apply Chg.drew | apply Chg.drewN | refine Chg.alloc ?_ _)) G1.out) ⟨x0_0_49c, x0_0_49f⟩
    clear x0_0_49c x0_0_49f
    obtain ⟨x0_1_61c, x0_1_61f⟩ := CellF.up (Chg.trans (by repeat (first | exact Chg.refl _ _ | apply Chg.drew | apply Chg.drewN | refine Chg.alloc ?_ _)) G1.out) ⟨x0_1_50c, x0_1_50f⟩
    clear x0_1_50c x0_1_50f
    clear G1
    have C1_62 := Lib.hid (K1.out)
    clear K1
    obtain ⟨As51, cs51, Zs51, zs51, rfl, ys51⟩ := openProof C1_62.out
    clear ys51
    have U_63 := Lib.hid (Chg.trans U_52.out ((Chg.refl Nowhere w51).alloc (.cells #[.slice As51 a1.forms.length cs51, .slice Zs51 a1.sts.length zs51] 31)))
    clear U_52
    have X0_64 := Lib.hid (X0_53.out.up ((Chg.refl Nowhere w51).alloc (.cells #[.slice As51 a1.forms.length cs51, .slice Zs51 a1.sts.length zs51] 31)))
    clear X0_53
    have X1_65 := Lib.hid (X1_54.out.up ((Chg.refl Nowhere w51).alloc (.cells #[.slice As51 a1.forms.length cs51, .slice Zs51 a1.sts.length zs51] 31)))
    clear X1_54
    have q0_0_66 := Chg.cell ((Chg.refl Nowhere w51).alloc (.cells #[.slice As51 a1.forms.length cs51, .slice Zs51 a1.sts.length zs51] 31)) q0_0_55 id
    clear q0_0_55
    have q0_1_67 := Chg.cell ((Chg.refl Nowhere w51).alloc (.cells #[.slice As51 a1.forms.length cs51, .slice Zs51 a1.sts.length zs51] 31)) q0_1_56 id
    clear q0_1_56
    have q1_0_68 := Chg.cell ((Chg.refl Nowhere w51).alloc (.cells #[.slice As51 a1.forms.length cs51, .slice Zs51 a1.sts.length zs51] 31)) q1_0_57 id
    clear q1_0_57
    have q1_1_69 := Chg.cell ((Chg.refl Nowhere w51).alloc (.cells #[.slice As51 a1.forms.length cs51, .slice Zs51 a1.sts.length zs51] 31)) q1_1_58 id
    clear q1_1_58
    have C0_70 := Lib.hid (C0_59.out.up ((Chg.refl Nowhere w51).alloc (.cells #[.slice As51 a1.forms.length cs51, .slice Zs51 a1.sts.length zs51] 31)))
    clear C0_59
    obtain ⟨x0_0_71c, x0_0_71f⟩ := CellF.up ((Chg.refl Nowhere w51).alloc (.cells #[.slice As51 a1.forms.length cs51, .slice Zs51 a1.sts.length zs51] 31)) ⟨x0_0_60c, x0_0_60f⟩
    clear x0_0_60c x0_0_60f
    obtain ⟨x0_1_72c, x0_1_72f⟩ := CellF.up ((Chg.refl Nowhere w51).alloc (.cells #[.slice As51 a1.forms.length cs51, .slice Zs51 a1.sts.length zs51] 31)) ⟨x0_1_61c, x0_1_61f⟩
    clear x0_1_61c x0_1_61f
    have C1_73 := Lib.hid (C1_62.out.up ((Chg.refl Nowhere w51).alloc (.cells #[.slice As51 a1.forms.length cs51, .slice Zs51 a1.sts.length zs51] 31)))
    clear C1_62
    obtain ⟨x1_0_74c, x1_0_74f⟩ := (show CellF (w51.alloc (.cells #[.slice As51 a1.forms.length cs51, .slice Zs51 a1.sts.length zs51] 31)) ⟨w51.heap.size, 0, none⟩ (.slice As51 a1.forms.length cs51) from cellF_at rfl rfl)
    obtain ⟨x1_1_75c, x1_1_75f⟩ := (show CellF (w51.alloc (.cells #[.slice As51 a1.forms.length cs51, .slice Zs51 a1.sts.length zs51] 31)) ⟨w51.heap.size, 1, none⟩ (.slice Zs51 a1.sts.length zs51) from cellF_at rfl rfl)
    go_wp2_with fail
    refine (pSameProof_A _ _ _ a0 (C0_70.out.up (by repeat (first | exact Chg.refl _ _ | apply Chg.drew | apply Chg.drewN | refine Chg.alloc ?_ _))) _ _ a1 (C1_73.out.up (by repeat (first | exact Chg.refl _ _ | apply Chg.drew | apply Chg.drewN | refine Chg.alloc ?_ _)))).mono ?_
    rintro e w76 ⟨rfl, g1⟩
    have G1 := Lib.hid g1
    obtain ⟨hy76, hz76⟩ := up_pre (show Up (w51.alloc (.cells #[.slice As51 a1.forms.length cs51, .slice Zs51 a1.sts.length zs51] 31)) _ from (by repeat (first | exact Chg.refl _ _ | apply Chg.drew | apply Chg.drewN | refine Chg.alloc ?_ _))) G1.out
    clear g1
    have U_77 := Lib.hid (Chg.trans U_63.out (Chg.trans (by repeat (first | exact Chg.refl _ _ | apply Chg.drew | apply Chg.drewN | refine Chg.alloc ?_ _)) G1.out))
    clear U_63
    have X0_78 := Lib.hid (X0_64.out.up (Chg.trans (by repeat (first | exact Chg.refl _ _ | apply Chg.drew | apply Chg.drewN | refine Chg.alloc ?_ _)) G1.out))
    clear X0_64
    have X1_79 := Lib.hid (X1_65.out.up (Chg.trans (by repeat (first | exact Chg.refl _ _ | apply Chg.drew | apply Chg.drewN | refine Chg.alloc ?_ _)) G1.out))
    clear X1_65
    have q0_0_80 := Chg.cell (Chg.trans (by repeat (first | exact Chg.refl _ _ | apply Chg.drew | apply Chg.drewN | refine Chg.alloc ?_ _)) G1.out) q0_0_66 id
    clear q0_0_66
    have q0_1_81 := Chg.cell (Chg.trans (by repeat (first | exact Chg.refl _ _ | apply Chg.drew | apply Chg.drewN | refine Chg.alloc ?_ _)) G1.out) q0_1_67 id
    clear q0_1_67
    have q1_0_82 := Chg.cell (Chg.trans (by repeat (first | exact Chg.refl _ _ | apply Chg.drew | apply Chg.drewN | refine Chg.alloc ?_ _)) G1.out) q1_0_68 id
    clear q1_0_68
    have q1_1_83 := Chg.cell (Chg.trans (by repeat (first | exact Chg.refl _ _ | apply Chg.drew | apply Chg.drewN | refine Chg.alloc ?_ _)) G1.out) q1_1_69 id
    clear q1_1_69
    have C0_84 := Lib.hid (C0_70.out.up (Chg.trans (by repeat (first | exact Chg.refl _ _ | apply Chg.drew | apply Chg.drewN | refine Chg.alloc ?_ _)) G1.out))
    clear C0_70
    obtain ⟨x0_0_85c, x0_0_85f⟩ := CellF.up (Chg.trans (by repeat (first | exact Chg.refl _ _ | apply Chg.drew | apply Chg.drewN | refine Chg.alloc ?_ _)) G1.out) ⟨x0_0_71c, x0_0_71f⟩
    clear x0_0_71c x0_0_71f
    obtain ⟨x0_1_86c, x0_1_86f⟩ := CellF.up (Chg.trans (by repeat (first | exact Chg.refl _ _ | apply Chg.drew | apply Chg.drewN | refine Chg.alloc ?_ _)) G1.out) ⟨x0_1_72c, x0_1_72f⟩
    clear x0_1_72c x0_1_72f
    have C1_87 := Lib.hid (C1_73.out.up (Chg.trans (by repeat (first | exact Chg.refl _ _ | apply Chg.drew | apply Chg.drewN | refine Chg.alloc ?_ _)) G1.out))
    clear C1_73
    obtain ⟨x1_0_88c, x1_0_88f⟩ := CellF.up (Chg.trans (by repeat (first | exact Chg.refl _ _ | apply Chg.drew | apply Chg.drewN | refine Chg.alloc ?_ _)) G1.out) ⟨x1_0_74c, x1_0_74f⟩
    clear x1_0_74c x1_0_74f
    obtain ⟨x1_1_89c, x1_1_89f⟩ := CellF.up (Chg.trans (by repeat (first | exact Chg.refl _ _ | apply Chg.drew | apply Chg.drewN | refine Chg.alloc ?_ _)) G1.out) ⟨x1_1_75c, x1_1_75f⟩
    clear x1_1_75c x1_1_75f
    clear G1
    go_wp2
    go_region_held3 (fun w' => w'.cell? ⟨w.heap.size, 0, none⟩ = some (.slice A0 a0.forms.length c0) ∧ w'.cell? ⟨w.heap.size, 1, none⟩ = some (.slice Z0 a0.sts.length z0) ∧ w'.cell? ⟨w32.heap.size, 0, none⟩ = some (.slice As32 a0.forms.length cs32) ∧ w'.cell? ⟨w32.heap.size, 1, none⟩ = some (.slice Zs32 a0.sts.length zs32))
        (first | (exact ⟨q0_0_80, q0_1_81, x0_0_85c, x0_1_86c⟩) | (obtain ⟨p0, p1, p2, p3⟩ : (World.cell? _ _ = _ ∧ World.cell? _ _ = _ ∧ World.cell? _ _ = _ ∧ World.cell? _ _ = _) := (by assumption); exact ⟨Chg.cell g1 p0 id, Chg.cell g1 p1 id, Chg.cell g1 p2 id, Chg.cell g1 p3 id⟩))
        (first | (go_at_call 12; refine (toProofA_any _ _ _ a0 (by omega) (X0_78.out.up (by repeat (first | exact Chg.refl _ _ | apply Chg.drew | apply Chg.drewN | refine Chg.alloc ?_ _)))).mono ?_; rintro e w90 ⟨v90, rfl, k1, g1⟩; obtain ⟨As90, cs90, Zs90, zs90, rfl, ys90⟩ := openProof k1; have K1 := Lib.hid k1; clear k1 ys90; have G1 := Lib.hid g1; obtain ⟨hy90, hz90⟩ := up_pre (show Up w76 _ from (by repeat (first | exact Chg.refl _ _ | apply Chg.drew | apply Chg.drewN | refine Chg.alloc ?_ _))) G1.out; have U_92 := Lib.hid (Chg.trans U_77.out (Chg.trans (by repeat (first | exact Chg.refl _ _ | apply Chg.drew | apply Chg.drewN | refine Chg.alloc ?_ _)) G1.out)); have X0_93 := Lib.hid (X0_78.out.up (Chg.trans (by repeat (first | exact Chg.refl _ _ | apply Chg.drew | apply Chg.drewN | refine Chg.alloc ?_ _)) G1.out)); have X1_94 := Lib.hid (X1_79.out.up (Chg.trans (by repeat (first | exact Chg.refl _ _ | apply Chg.drew | apply Chg.drewN | refine Chg.alloc ?_ _)) G1.out)); have q1_0_95 := Chg.cell (Chg.trans (by repeat (first | exact Chg.refl _ _ | apply Chg.drew | apply Chg.drewN | refine Chg.alloc ?_ _)) G1.out) q1_0_82 id; have q1_1_96 := Chg.cell (Chg.trans (by repeat (first | exact Chg.refl _ _ | apply Chg.drew | apply Chg.drewN | refine Chg.alloc ?_ _)) G1.out) q1_1_83 id; have C0_97 := Lib.hid (C0_84.out.up (Chg.trans (by repeat (first | exact Chg.refl _ _ | apply Chg.drew | apply Chg.drewN | refine Chg.alloc ?_ _)) G1.out)); have C1_98 := Lib.hid (C1_87.out.up (Chg.trans (by repeat (first | exact Chg.refl _ _ | apply Chg.drew | apply Chg.drewN | refine Chg.alloc ?_ _)) G1.out)); obtain ⟨x1_0_99c, x1_0_99f⟩ := CellF.up (Chg.trans (by repeat (first | exact Chg.refl _ _ | apply Chg.drew | apply Chg.drewN | refine Chg.alloc ?_ _)) G1.out) ⟨x1_0_88c, x1_0_88f⟩; obtain ⟨x1_1_100c, x1_1_100f⟩ := CellF.up (Chg.trans (by repeat (first | exact Chg.refl _ _ | apply Chg.drew | apply Chg.drewN | refine Chg.alloc ?_ _)) G1.out) ⟨x1_1_89c, x1_1_89f⟩) | (go_at_call 14; refine (eqProofA_same _ _ _ _ _ a0 (C0_97.out.up (by repeat (first | exact Chg.refl _ _ | apply Chg.drew | apply Chg.drewN | refine Chg.alloc ?_ _))) (K1.out.up (by repeat (first | exact Chg.refl _ _ | apply Chg.drew | apply Chg.drewN | refine Chg.alloc ?_ _)))).mono ?_; rintro e w91 ⟨rfl, g1⟩; have G2 := Lib.hid g1; obtain ⟨hy91, hz91⟩ := up_pre (show Up w90 _ from (by repeat (first | exact Chg.refl _ _ | apply Chg.drew | apply Chg.drewN | refine Chg.alloc ?_ _))) G2.out; have U_101 := Lib.hid (Chg.trans U_92.out (Chg.trans (by repeat (first | exact Chg.refl _ _ | apply Chg.drew | apply Chg.drewN | refine Chg.alloc ?_ _)) G2.out)); have X0_102 := Lib.hid (X0_93.out.up (Chg.trans (by repeat (first | exact Chg.refl _ _ | apply Chg.drew | apply Chg.drewN | refine Chg.alloc ?_ _)) G2.out)); have X1_103 := Lib.hid (X1_94.out.up (Chg.trans (by repeat (first | exact Chg.refl _ _ | apply Chg.drew | apply Chg.drewN | refine Chg.alloc ?_ _)) G2.out)); have q1_0_104 := Chg.cell (Chg.trans (by repeat (first | exact Chg.refl _ _ | apply Chg.drew | apply Chg.drewN | refine Chg.alloc ?_ _)) G2.out) q1_0_95 id; have q1_1_105 := Chg.cell (Chg.trans (by repeat (first | exact Chg.refl _ _ | apply Chg.drew | apply Chg.drewN | refine Chg.alloc ?_ _)) G2.out) q1_1_96 id; have C0_106 := Lib.hid (C0_97.out.up (Chg.trans (by repeat (first | exact Chg.refl _ _ | apply Chg.drew | apply Chg.drewN | refine Chg.alloc ?_ _)) G2.out)); have C1_107 := Lib.hid (C1_98.out.up (Chg.trans (by repeat (first | exact Chg.refl _ _ | apply Chg.drew | apply Chg.drewN | refine Chg.alloc ?_ _)) G2.out)); obtain ⟨x1_0_108c, x1_0_108f⟩ := CellF.up (Chg.trans (by repeat (first | exact Chg.refl _ _ | apply Chg.drew | apply Chg.drewN | refine Chg.alloc ?_ _)) G2.out) ⟨x1_0_99c, x1_0_99f⟩; obtain ⟨x1_1_109c, x1_1_109f⟩ := CellF.up (Chg.trans (by repeat (first | exact Chg.refl _ _ | apply Chg.drew | apply Chg.drewN | refine Chg.alloc ?_ _)) G2.out) ⟨x1_1_100c, x1_1_100f⟩))
    have q0_0_110 := Chg.cell (Chg.trans (Chg.trans (by repeat (first | exact Chg.refl _ _ | apply Chg.drew | apply Chg.drewN | refine Chg.alloc ?_ _)) G1.out) (Chg.trans (by repeat (first | exact Chg.refl _ _ | apply Chg.drew | apply Chg.drewN | refine Chg.alloc ?_ _)) G2.out)) q0_0_80 id
    have q0_1_111 := Chg.cell (Chg.trans (Chg.trans (by repeat (first | exact Chg.refl _ _ | apply Chg.drew | apply Chg.drewN | refine Chg.alloc ?_ _)) G1.out) (Chg.trans (by repeat (first | exact Chg.refl _ _ | apply Chg.drew | apply Chg.drewN | refine Chg.alloc ?_ _)) G2.out)) q0_1_81 id
    obtain ⟨x0_0_112c, x0_0_112f⟩ := CellF.up (Chg.trans (Chg.trans (by repeat (first | exact Chg.refl _ _ | apply Chg.drew | apply Chg.drewN | refine Chg.alloc ?_ _)) G1.out) (Chg.trans (by repeat (first | exact Chg.refl _ _ | apply Chg.drew | apply Chg.drewN | refine Chg.alloc ?_ _)) G2.out)) ⟨x0_0_85c, x0_0_85f⟩
    obtain ⟨x0_1_113c, x0_1_113f⟩ := CellF.up (Chg.trans (Chg.trans (by repeat (first | exact Chg.refl _ _ | apply Chg.drew | apply Chg.drewN | refine Chg.alloc ?_ _)) G1.out) (Chg.trans (by repeat (first | exact Chg.refl _ _ | apply Chg.drew | apply Chg.drewN | refine Chg.alloc ?_ _)) G2.out)) ⟨x0_1_86c, x0_1_86f⟩
    clear g1 G1 G2 K1
    clear U_77
    clear X0_78
    clear X1_79
    clear q0_0_80
    clear q0_1_81
    clear q1_0_82
    clear q1_1_83
    clear C0_84
    clear x0_0_85c x0_0_85f
    clear x0_1_86c x0_1_86f
    clear C1_87
    clear x1_0_88c x1_0_88f
    clear x1_1_89c x1_1_89f
    clear U_92
    clear X0_93
    clear X1_94
    clear q1_0_95
    clear q1_1_96
    clear C0_97
    clear C1_98
    clear x1_0_99c x1_0_99f
    clear x1_1_100c x1_1_100f
    go_wp2
    go_region_held3 (fun w' => w'.cell? ⟨w.heap.size + 1, 0, none⟩ = some (.slice A1 a1.forms.length c1) ∧ w'.cell? ⟨w.heap.size + 1, 1, none⟩ = some (.slice Z1 a1.sts.length z1) ∧ w'.cell? ⟨w51.heap.size, 0, none⟩ = some (.slice As51 a1.forms.length cs51) ∧ w'.cell? ⟨w51.heap.size, 1, none⟩ = some (.slice Zs51 a1.sts.length zs51))
        (first | (exact ⟨q1_0_104, q1_1_105, x1_0_108c, x1_1_109c⟩) | (obtain ⟨p0, p1, p2, p3⟩ : (World.cell? _ _ = _ ∧ World.cell? _ _ = _ ∧ World.cell? _ _ = _ ∧ World.cell? _ _ = _) := (by assumption); exact ⟨Chg.cell g1 p0 id, Chg.cell g1 p1 id, Chg.cell g1 p2 id, Chg.cell g1 p3 id⟩))
        (first | (go_at_call 12; refine (toProofA_any _ _ _ a1 (by omega) (X1_103.out.up (by repeat (first | exact Chg.refl _ _ | apply Chg.drew | apply Chg.drewN | refine Chg.alloc ?_ _)))).mono ?_; rintro e w114 ⟨v114, rfl, k1, g1⟩; obtain ⟨As114, cs114, Zs114, zs114, rfl, ys114⟩ := openProof k1; have K1 := Lib.hid k1; clear k1 ys114; have G1 := Lib.hid g1; obtain ⟨hy114, hz114⟩ := up_pre (show Up w91 _ from (by repeat (first | exact Chg.refl _ _ | apply Chg.drew | apply Chg.drewN | refine Chg.alloc ?_ _))) G1.out; have U_116 := Lib.hid (Chg.trans U_101.out (Chg.trans (by repeat (first | exact Chg.refl _ _ | apply Chg.drew | apply Chg.drewN | refine Chg.alloc ?_ _)) G1.out)); have X0_117 := Lib.hid (X0_102.out.up (Chg.trans (by repeat (first | exact Chg.refl _ _ | apply Chg.drew | apply Chg.drewN | refine Chg.alloc ?_ _)) G1.out)); have X1_118 := Lib.hid (X1_103.out.up (Chg.trans (by repeat (first | exact Chg.refl _ _ | apply Chg.drew | apply Chg.drewN | refine Chg.alloc ?_ _)) G1.out)); have C0_119 := Lib.hid (C0_106.out.up (Chg.trans (by repeat (first | exact Chg.refl _ _ | apply Chg.drew | apply Chg.drewN | refine Chg.alloc ?_ _)) G1.out)); have C1_120 := Lib.hid (C1_107.out.up (Chg.trans (by repeat (first | exact Chg.refl _ _ | apply Chg.drew | apply Chg.drewN | refine Chg.alloc ?_ _)) G1.out)); have q0_0_121 := Chg.cell (Chg.trans (by repeat (first | exact Chg.refl _ _ | apply Chg.drew | apply Chg.drewN | refine Chg.alloc ?_ _)) G1.out) q0_0_110 id; have q0_1_122 := Chg.cell (Chg.trans (by repeat (first | exact Chg.refl _ _ | apply Chg.drew | apply Chg.drewN | refine Chg.alloc ?_ _)) G1.out) q0_1_111 id; obtain ⟨x0_0_123c, x0_0_123f⟩ := CellF.up (Chg.trans (by repeat (first | exact Chg.refl _ _ | apply Chg.drew | apply Chg.drewN | refine Chg.alloc ?_ _)) G1.out) ⟨x0_0_112c, x0_0_112f⟩; obtain ⟨x0_1_124c, x0_1_124f⟩ := CellF.up (Chg.trans (by repeat (first | exact Chg.refl _ _ | apply Chg.drew | apply Chg.drewN | refine Chg.alloc ?_ _)) G1.out) ⟨x0_1_113c, x0_1_113f⟩) | (go_at_call 14; refine (eqProofA_same _ _ _ _ _ a1 (C1_120.out.up (by repeat (first | exact Chg.refl _ _ | apply Chg.drew | apply Chg.drewN | refine Chg.alloc ?_ _))) (K1.out.up (by repeat (first | exact Chg.refl _ _ | apply Chg.drew | apply Chg.drewN | refine Chg.alloc ?_ _)))).mono ?_; rintro e w115 ⟨rfl, g1⟩; have G2 := Lib.hid g1; obtain ⟨hy115, hz115⟩ := up_pre (show Up w114 _ from (by repeat (first | exact Chg.refl _ _ | apply Chg.drew | apply Chg.drewN | refine Chg.alloc ?_ _))) G2.out; have U_125 := Lib.hid (Chg.trans U_116.out (Chg.trans (by repeat (first | exact Chg.refl _ _ | apply Chg.drew | apply Chg.drewN | refine Chg.alloc ?_ _)) G2.out)); have X0_126 := Lib.hid (X0_117.out.up (Chg.trans (by repeat (first | exact Chg.refl _ _ | apply Chg.drew | apply Chg.drewN | refine Chg.alloc ?_ _)) G2.out)); have X1_127 := Lib.hid (X1_118.out.up (Chg.trans (by repeat (first | exact Chg.refl _ _ | apply Chg.drew | apply Chg.drewN | refine Chg.alloc ?_ _)) G2.out)); have C0_128 := Lib.hid (C0_119.out.up (Chg.trans (by repeat (first | exact Chg.refl _ _ | apply Chg.drew | apply Chg.drewN | refine Chg.alloc ?_ _)) G2.out)); have C1_129 := Lib.hid (C1_120.out.up (Chg.trans (by repeat (first | exact Chg.refl _ _ | apply Chg.drew | apply Chg.drewN | refine Chg.alloc ?_ _)) G2.out)); have q0_0_130 := Chg.cell (Chg.trans (by repeat (first | exact Chg.refl _ _ | apply Chg.drew | apply Chg.drewN | refine Chg.alloc ?_ _)) G2.out) q0_0_121 id; have q0_1_131 := Chg.cell (Chg.trans (by repeat (first | exact Chg.refl _ _ | apply Chg.drew | apply Chg.drewN | refine Chg.alloc ?_ _)) G2.out) q0_1_122 id; obtain ⟨x0_0_132c, x0_0_132f⟩ := CellF.up (Chg.trans (by repeat (first | exact Chg.refl _ _ | apply Chg.drew | apply Chg.drewN | refine Chg.alloc ?_ _)) G2.out) ⟨x0_0_123c, x0_0_123f⟩; obtain ⟨x0_1_133c, x0_1_133f⟩ := CellF.up (Chg.trans (by repeat (first | exact Chg.refl _ _ | apply Chg.drew | apply Chg.drewN | refine Chg.alloc ?_ _)) G2.out) ⟨x0_1_124c, x0_1_124f⟩))
    have q1_0_134 := Chg.cell (Chg.trans (Chg.trans (by repeat (first | exact Chg.refl _ _ | apply Chg.drew | apply Chg.drewN | refine Chg.alloc ?_ _)) G1.out) (Chg.trans (by repeat (first | exact Chg.refl _ _ | apply Chg.drew | apply Chg.drewN | refine Chg.alloc ?_ _)) G2.out)) q1_0_104 id
    have q1_1_135 := Chg.cell (Chg.trans (Chg.trans (by repeat (first | exact Chg.refl _ _ | apply Chg.drew | apply Chg.drewN | refine Chg.alloc ?_ _)) G1.out) (Chg.trans (by repeat (first | exact Chg.refl _ _ | apply Chg.drew | apply Chg.drewN | refine Chg.alloc ?_ _)) G2.out)) q1_1_105 id
    obtain ⟨x1_0_136c, x1_0_136f⟩ := CellF.up (Chg.trans (Chg.trans (by repeat (first | exact Chg.refl _ _ | apply Chg.drew | apply Chg.drewN | refine Chg.alloc ?_ _)) G1.out) (Chg.trans (by repeat (first | exact Chg.refl _ _ | apply Chg.drew | apply Chg.drewN | refine Chg.alloc ?_ _)) G2.out)) ⟨x1_0_108c, x1_0_108f⟩
    obtain ⟨x1_1_137c, x1_1_137f⟩ := CellF.up (Chg.trans (Chg.trans (by repeat (first | exact Chg.refl _ _ | apply Chg.drew | apply Chg.drewN | refine Chg.alloc ?_ _)) G1.out) (Chg.trans (by repeat (first | exact Chg.refl _ _ | apply Chg.drew | apply Chg.drewN | refine Chg.alloc ?_ _)) G2.out)) ⟨x1_1_109c, x1_1_109f⟩
    clear g1 G1 G2 K1
    clear U_101
    clear X0_102
    clear X1_103
    clear q1_0_104
    clear q1_1_105
    clear C0_106
    clear C1_107
    clear x1_0_108c x1_0_108f
    clear x1_1_109c x1_1_109f
    clear q0_0_110
    clear q0_1_111
    clear x0_0_112c x0_0_112f
    clear x0_1_113c x0_1_113f
    clear U_116
    clear X0_117
    clear X1_118
    clear C0_119
    clear C1_120
    clear q0_0_121
    clear q0_1_122
    clear x0_0_123c x0_0_123f
    clear x0_1_124c x0_1_124f
    go_wp2
    go_ret
    exact ⟨rfl, Up.below (Chg.trans U_125.out (by repeat (first | exact Chg.refl _ _ | apply Chg.drew | apply Chg.drewN | refine Chg.alloc ?_ _)))⟩
set_option maxRecDepth 100000 in
theorem walk (w : World) (v0 : Value) (a0 : ProofM) (ha0 : ProofA w (fun b => b < w.heap.size) v0 a0) (v1 : Value) (a1 : ProofM) (ha1 : ProofA w (fun b => b < w.heap.size) v1 a1) :
    Calls Try.prog 3 #[v0, v1] w fun e w' => e = .returned (.bool true) ∧ Below w.heap.size w w' := by
  by_cases hbt : (szP a0 : Int) + (szP a1 : Int) ≤ 1048576
  rotate_left
  · skip
    obtain ⟨A0, c0, Z0, z0, rfl, y0⟩ := openProof ha0
    have X0 := Lib.hid ha0
    clear ha0 y0
    obtain ⟨A1, c1, Z1, z1, rfl, y1⟩ := openProof ha1
    have X1 := Lib.hid ha1
    clear ha1 y1
    have U0 := Lib.hid (Chg.refl Nowhere w)
    have U_1 := Lib.hid (Chg.trans U0.out ((Chg.refl Nowhere w).alloc (.cells #[.slice A0 a0.forms.length c0, .slice Z0 a0.sts.length z0] 25)))
    clear U0
    have X0_2 := Lib.hid (X0.out.up ((Chg.refl Nowhere w).alloc (.cells #[.slice A0 a0.forms.length c0, .slice Z0 a0.sts.length z0] 25)))
    clear X0
    have X1_3 := Lib.hid (X1.out.up ((Chg.refl Nowhere w).alloc (.cells #[.slice A0 a0.forms.length c0, .slice Z0 a0.sts.length z0] 25)))
    clear X1
    have q0_0_4 := (show (w.alloc (.cells #[.slice A0 a0.forms.length c0, .slice Z0 a0.sts.length z0] 25)).cell? ⟨w.heap.size, 0, none⟩ = some (.slice A0 a0.forms.length c0) from cell_new _ _ _ _)
    have q0_1_5 := (show (w.alloc (.cells #[.slice A0 a0.forms.length c0, .slice Z0 a0.sts.length z0] 25)).cell? ⟨w.heap.size, 1, none⟩ = some (.slice Z0 a0.sts.length z0) from cell_new _ _ _ _)
    have hbx6 : w.heap.size < (w.alloc (.cells #[.slice A0 a0.forms.length c0, .slice Z0 a0.sts.length z0] 25)).heap.size := by simp
    have U_7 := Lib.hid (Chg.trans U_1.out ((Chg.refl Nowhere (w.alloc (.cells #[.slice A0 a0.forms.length c0, .slice Z0 a0.sts.length z0] 25))).alloc (.cells #[.slice A1 a1.forms.length c1, .slice Z1 a1.sts.length z1] 25)))
    clear U_1
    have X0_8 := Lib.hid (X0_2.out.up ((Chg.refl Nowhere (w.alloc (.cells #[.slice A0 a0.forms.length c0, .slice Z0 a0.sts.length z0] 25))).alloc (.cells #[.slice A1 a1.forms.length c1, .slice Z1 a1.sts.length z1] 25)))
    clear X0_2
    have X1_9 := Lib.hid (X1_3.out.up ((Chg.refl Nowhere (w.alloc (.cells #[.slice A0 a0.forms.length c0, .slice Z0 a0.sts.length z0] 25))).alloc (.cells #[.slice A1 a1.forms.length c1, .slice Z1 a1.sts.length z1] 25)))
    clear X1_3
    have q0_0_10 := Chg.cell ((Chg.refl Nowhere (w.alloc (.cells #[.slice A0 a0.forms.length c0, .slice Z0 a0.sts.length z0] 25))).alloc (.cells #[.slice A1 a1.forms.length c1, .slice Z1 a1.sts.length z1] 25)) q0_0_4 id
    clear q0_0_4
    have q0_1_11 := Chg.cell ((Chg.refl Nowhere (w.alloc (.cells #[.slice A0 a0.forms.length c0, .slice Z0 a0.sts.length z0] 25))).alloc (.cells #[.slice A1 a1.forms.length c1, .slice Z1 a1.sts.length z1] 25)) q0_1_5 id
    clear q0_1_5
    have q1_0_12 := (show ((w.alloc (.cells #[.slice A0 a0.forms.length c0, .slice Z0 a0.sts.length z0] 25)).alloc (.cells #[.slice A1 a1.forms.length c1, .slice Z1 a1.sts.length z1] 25)).cell? ⟨w.heap.size + 1, 0, none⟩ = some (.slice A1 a1.forms.length c1) from (cellF_at (by simp) rfl).1)
    have q1_1_13 := (show ((w.alloc (.cells #[.slice A0 a0.forms.length c0, .slice Z0 a0.sts.length z0] 25)).alloc (.cells #[.slice A1 a1.forms.length c1, .slice Z1 a1.sts.length z1] 25)).cell? ⟨w.heap.size + 1, 1, none⟩ = some (.slice Z1 a1.sts.length z1) from (cellF_at (by simp) rfl).1)
    have hbx14 : (w.alloc (.cells #[.slice A0 a0.forms.length c0, .slice Z0 a0.sts.length z0] 25)).heap.size < ((w.alloc (.cells #[.slice A0 a0.forms.length c0, .slice Z0 a0.sts.length z0] 25)).alloc (.cells #[.slice A1 a1.forms.length c1, .slice Z1 a1.sts.length z1] 25)).heap.size := by simp
    by_cases hb1 : (szP a0 : Int) ≤ 1048576
    rotate_left
    · have hd : decide ((-1 : Int) < 0) = true := rfl
      go_enter Try.func3, Try.ntmps3
      go_wp2_with fail
      refine (szProofA_no _ _ _ a0 1048576 (by omega) (by omega) (X0_8.out.up (by repeat (first | exact Chg.refl _ _ | apply Chg.drew | apply Chg.drewN | refine Chg.alloc ?_ _)))).mono ?_
      rintro e w15 ⟨rfl, g1⟩
      have G1 := Lib.hid g1
      have hz15 := G1.out.size
      clear g1
      have U_16 := Lib.hid (Chg.trans U_7.out (Chg.trans (by repeat (first | exact Chg.refl _ _ | apply Chg.drew | apply Chg.drewN | refine Chg.alloc ?_ _)) G1.out))
      clear U_7
      have X0_17 := Lib.hid (X0_8.out.up (Chg.trans (by repeat (first | exact Chg.refl _ _ | apply Chg.drew | apply Chg.drewN | refine Chg.alloc ?_ _)) G1.out))
      clear X0_8
      have X1_18 := Lib.hid (X1_9.out.up (Chg.trans (by repeat (first | exact Chg.refl _ _ | apply Chg.drew | apply Chg.drewN | refine Chg.alloc ?_ _)) G1.out))
      clear X1_9
      have q0_0_19 := Chg.cell (Chg.trans (by repeat (first | exact Chg.refl _ _ | apply Chg.drew | apply Chg.drewN | refine Chg.alloc ?_ _)) G1.out) q0_0_10 id
      clear q0_0_10
      have q0_1_20 := Chg.cell (Chg.trans (by repeat (first | exact Chg.refl _ _ | apply Chg.drew | apply Chg.drewN | refine Chg.alloc ?_ _)) G1.out) q0_1_11 id
      clear q0_1_11
      have q1_0_21 := Chg.cell (Chg.trans (by repeat (first | exact Chg.refl _ _ | apply Chg.drew | apply Chg.drewN | refine Chg.alloc ?_ _)) G1.out) q1_0_12 id
      clear q1_0_12
      have q1_1_22 := Chg.cell (Chg.trans (by repeat (first | exact Chg.refl _ _ | apply Chg.drew | apply Chg.drewN | refine Chg.alloc ?_ _)) G1.out) q1_1_13 id
      clear q1_1_13
      clear G1
      go_wp2
      go_ret
      exact ⟨rfl, Up.below (Chg.trans U_16.out (by repeat (first | exact Chg.refl _ _ | apply Chg.drew | apply Chg.drewN | refine Chg.alloc ?_ _)))⟩
    have hd1 : decide ((1048576 : Int) - szP a0 < 0) = false := decide_eq_false (by omega)
    have hd : decide ((-1 : Int) < 0) = true := rfl
    go_enter Try.func3, Try.ntmps3
    go_wp2_with fail
    refine (szProofA_ok _ _ _ a0 1048576 (by omega) (by omega) (X0_8.out.up (by repeat (first | exact Chg.refl _ _ | apply Chg.drew | apply Chg.drewN | refine Chg.alloc ?_ _)))).mono ?_
    rintro e w23 ⟨rfl, g1⟩
    have G1 := Lib.hid g1
    have hz23 := G1.out.size
    clear g1
    have U_24 := Lib.hid (Chg.trans U_7.out (Chg.trans (by repeat (first | exact Chg.refl _ _ | apply Chg.drew | apply Chg.drewN | refine Chg.alloc ?_ _)) G1.out))
    clear U_7
    have X0_25 := Lib.hid (X0_8.out.up (Chg.trans (by repeat (first | exact Chg.refl _ _ | apply Chg.drew | apply Chg.drewN | refine Chg.alloc ?_ _)) G1.out))
    clear X0_8
    have X1_26 := Lib.hid (X1_9.out.up (Chg.trans (by repeat (first | exact Chg.refl _ _ | apply Chg.drew | apply Chg.drewN | refine Chg.alloc ?_ _)) G1.out))
    clear X1_9
    have q0_0_27 := Chg.cell (Chg.trans (by repeat (first | exact Chg.refl _ _ | apply Chg.drew | apply Chg.drewN | refine Chg.alloc ?_ _)) G1.out) q0_0_10 id
    clear q0_0_10
    have q0_1_28 := Chg.cell (Chg.trans (by repeat (first | exact Chg.refl _ _ | apply Chg.drew | apply Chg.drewN | refine Chg.alloc ?_ _)) G1.out) q0_1_11 id
    clear q0_1_11
    have q1_0_29 := Chg.cell (Chg.trans (by repeat (first | exact Chg.refl _ _ | apply Chg.drew | apply Chg.drewN | refine Chg.alloc ?_ _)) G1.out) q1_0_12 id
    clear q1_0_12
    have q1_1_30 := Chg.cell (Chg.trans (by repeat (first | exact Chg.refl _ _ | apply Chg.drew | apply Chg.drewN | refine Chg.alloc ?_ _)) G1.out) q1_1_13 id
    clear q1_1_13
    clear G1
    go_wp2_with fail
    refine (szProofA_no _ _ _ a1 ((1048576 : Int) - szP a0) (by omega) (by omega) (X1_26.out.up (by repeat (first | exact Chg.refl _ _ | apply Chg.drew | apply Chg.drewN | refine Chg.alloc ?_ _)))).mono ?_
    rintro e w31 ⟨rfl, g1⟩
    have G1 := Lib.hid g1
    have hz31 := G1.out.size
    clear g1
    have U_32 := Lib.hid (Chg.trans U_24.out (Chg.trans (by repeat (first | exact Chg.refl _ _ | apply Chg.drew | apply Chg.drewN | refine Chg.alloc ?_ _)) G1.out))
    clear U_24
    have X0_33 := Lib.hid (X0_25.out.up (Chg.trans (by repeat (first | exact Chg.refl _ _ | apply Chg.drew | apply Chg.drewN | refine Chg.alloc ?_ _)) G1.out))
    clear X0_25
    have X1_34 := Lib.hid (X1_26.out.up (Chg.trans (by repeat (first | exact Chg.refl _ _ | apply Chg.drew | apply Chg.drewN | refine Chg.alloc ?_ _)) G1.out))
    clear X1_26
    have q0_0_35 := Chg.cell (Chg.trans (by repeat (first | exact Chg.refl _ _ | apply Chg.drew | apply Chg.drewN | refine Chg.alloc ?_ _)) G1.out) q0_0_27 id
    clear q0_0_27
    have q0_1_36 := Chg.cell (Chg.trans (by repeat (first | exact Chg.refl _ _ | apply Chg.drew | apply Chg.drewN | refine Chg.alloc ?_ _)) G1.out) q0_1_28 id
    clear q0_1_28
    have q1_0_37 := Chg.cell (Chg.trans (by repeat (first | exact Chg.refl _ _ | apply Chg.drew | apply Chg.drewN | refine Chg.alloc ?_ _)) G1.out) q1_0_29 id
    clear q1_0_29
    have q1_1_38 := Chg.cell (Chg.trans (by repeat (first | exact Chg.refl _ _ | apply Chg.drew | apply Chg.drewN | refine Chg.alloc ?_ _)) G1.out) q1_1_30 id
    clear q1_1_30
    clear G1
    go_wp2
    go_ret
    exact ⟨rfl, Up.below (Chg.trans U_32.out (by repeat (first | exact Chg.refl _ _ | apply Chg.drew | apply Chg.drewN | refine Chg.alloc ?_ _)))⟩
  exact walk0 w v0 a0 ha0 v1 a1 ha1 hbt
end fnExactSameProof
end Go.Proofs.Ytjgdcjhmfbefdaa
