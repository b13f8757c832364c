/- CrossOps on both sides. No condition but room. -/
import Derived.Test.YtfaloanahffdmaaBrd
namespace Go.Proofs.Ytfaloanahffdmaa
open Go.ChangeShapes Go.WideShapes Go.ChangeAt Go.RowKit
def crossCode (first : Int) (b : BraidM) : Int := if braidB b.n b.ws = false ∨ 8 < b.n then 1 else if (first < 1 ∨ 23 < first) ∨ 23 < first + 2 * (b.n - 1) + 1 then 2 else 0
def crossOut (first : Int) (b : BraidM) : List OpM := if crossCode first b = 0 then crossL first b.ws else []
theorem crossCode_1 {first : Int} {b : BraidM} (h : braidB b.n b.ws = false ∨ 8 < b.n) : crossCode first b = 1 := if_pos h
theorem crossCode_2 {first : Int} {b : BraidM} (h : braidB b.n b.ws = true) (hn : b.n ≤ 8) (h2 : (first < 1 ∨ 23 < first) ∨ 23 < first + 2 * (b.n - 1) + 1) : crossCode first b = 2 := by
  unfold crossCode
  rw [if_neg (by rintro (hh | hh); (rw [h] at hh; cases hh); omega), if_pos h2]
theorem crossCode_0 {first : Int} {b : BraidM} (h : braidB b.n b.ws = true) (hn : b.n ≤ 8) (h1 : 1 ≤ first ∧ first ≤ 23) (h2 : first + 2 * (b.n - 1) + 1 ≤ 23) : crossCode first b = 0 := by
  unfold crossCode
  rw [if_neg (by rintro (hh | hh); (rw [h] at hh; cases hh); omega), if_neg (by omega)]
theorem crossOut_no {first c : Int} {b : BraidM} (h : crossCode first b = c) (hc : c ≠ 0) : crossOut first b = [] := if_neg (by rw [h]; exact hc)
theorem crossOut_ok {first : Int} {b : BraidM} (h : crossCode first b = 0) : crossOut first b = crossL first b.ws := if_pos h
theorem crossOut_bd (first : Int) (b : BraidM) : cntOps (crossOut first b) ≤ 1000000 := by
  unfold crossOut cntOps
  split
  · rename_i h
    have hb : braidB b.n b.ws = true := by
      cases hh : braidB b.n b.ws with
      | true => rfl
      | false => rw [crossCode_1 (.inl hh)] at h; omega
    have := (braidB_iff.1 hb).len
    rw [crossL_len]
    omega
  · simp
theorem braid_let {b : BraidM} (h : braidB b.n b.ws = true) {hi : Int} (hn : b.n ≤ hi + 1) : letOk hi b.ws := fun k hk => by
  have := (braidB_iff.1 h).let_ k hk
  unfold absI
  split <;> omega
set_option maxRecDepth 100000 in
set_option maxHeartbeats 8000000 in
theorem CrossOps_any (w : World) (S : Nat → Prop) (first : Int) (v : Value) (b : BraidM) (h : BraidV w S v b) :
    Calls Try.prog 59 #[.int .i64 first, v] w fun e w' => ∃ v', e = .returned (.tuple #[v', .int .i64 (crossCode first b)]) ∧ Ops w' (New w.heap.size w'.heap.size) v' (crossOut first b) ∧ Up w w' := by
  have hbi : I64 b.n := by obtain ⟨_, _, _, h1⟩ := h; exact h1
  have HBI := Lib.hid hbi
  obtain ⟨A, c, rfl, h4, h5, h6⟩ := openBraid h
  have HI := Lib.hid h
  have HI4 := Lib.hid h4
  have U0 := Lib.hid (Chg.refl Nowhere w)
  obtain ⟨hi0, hi1⟩ := hbi
  clear h h4
  cases hv : braidB b.n b.ws with
  | false =>
    have hc := crossCode_1 (first := first) (.inl hv : braidB b.n b.ws = false ∨ 8 < b.n)
    have HO := Lib.hid (crossOut_no hc (by omega))
    have HC := Lib.hid hc
    have HV := Lib.hid hv
    clear hv hc
    have U_1 := Lib.hid (Chg.trans U0.out ((Chg.refl Nowhere w).alloc (.cells #[.int .i64 b.n, .slice A b.ws.length c] 44)))
    clear U0
    have I_2 := Lib.hid (HI.out.up ((Chg.refl Nowhere w).alloc (.cells #[.int .i64 b.n, .slice A b.ws.length c] 44)))
    clear HI
    have q0_3 := (show (w.alloc (.cells #[.int .i64 b.n, .slice A b.ws.length c] 44)).cell? ⟨w.heap.size, 0, none⟩ = some (.int .i64 b.n) from cell_new _ _ _ _)
    have q1_4 := (show (w.alloc (.cells #[.int .i64 b.n, .slice A b.ws.length c] 44)).cell? ⟨w.heap.size, 1, none⟩ = some (.slice A b.ws.length c) from cell_new _ _ _ _)
    have hbx5 : w.heap.size < (w.alloc (.cells #[.int .i64 b.n, .slice A b.ws.length c] 44)).heap.size := by simp
    go_enter Try.func59, Try.ntmps59
    go_wp2_with fail
    refine (ValidBraid_any _ S _ b (I_2.out.up (by repeat (first | exact Chg.refl _ _ | apply Chg.drew | apply Chg.drewN | refine Chg.alloc ?_ _)))).mono ?_
    rintro e w6 ⟨rfl, g1⟩
    have G1 := Lib.hid g1
    have hz6 := G1.out.size
    clear g1
    have U_7 := Lib.hid (Chg.trans U_1.out (Chg.trans (by repeat (first | exact Chg.refl _ _ | apply Chg.drew | apply Chg.drewN | refine Chg.alloc ?_ _)) G1.out))
    clear U_1
    have I_8 := Lib.hid (I_2.out.up (Chg.trans (by repeat (first | exact Chg.refl _ _ | apply Chg.drew | apply Chg.drewN | refine Chg.alloc ?_ _)) G1.out))
    clear I_2
    have q0_9 := Chg.cell (Chg.trans (by repeat (first | exact Chg.refl _ _ | apply Chg.drew | apply Chg.drewN | refine Chg.alloc ?_ _)) G1.out) q0_3 id
    clear q0_3
    have q1_10 := Chg.cell (Chg.trans (by repeat (first | exact Chg.refl _ _ | apply Chg.drew | apply Chg.drewN | refine Chg.alloc ?_ _)) G1.out) q1_4 id
    clear q1_4
    clear G1
    rw [HV.out]
    go_wp2
    go_ret2
    exact ⟨_, ret_mi HC.out.symm, by rw [HO.out]; exact Ops.nil _ _ _ _ (by omega), (Chg.trans U_7.out (by repeat (first | exact Chg.refl _ _ | apply Chg.drew | apply Chg.drewN | refine Chg.alloc ?_ _)))⟩
  | true =>
    have hbr := braidB_iff.1 hv
    have hn0 := hbr.n0
    have hn1 := hbr.n1
    have hlen := hbr.len
    have HV := Lib.hid hv
    clear hbr
    by_cases hn8 : 8 < b.n
    · have hc := crossCode_1 (first := first) (.inr hn8 : braidB b.n b.ws = false ∨ 8 < b.n)
      have HO := Lib.hid (crossOut_no hc (by omega))
      have HC := Lib.hid hc
      clear hv hc
      have U_11 := Lib.hid (Chg.trans U0.out ((Chg.refl Nowhere w).alloc (.cells #[.int .i64 b.n, .slice A b.ws.length c] 44)))
      clear U0
      have I_12 := Lib.hid (HI.out.up ((Chg.refl Nowhere w).alloc (.cells #[.int .i64 b.n, .slice A b.ws.length c] 44)))
      clear HI
      have q0_13 := (show (w.alloc (.cells #[.int .i64 b.n, .slice A b.ws.length c] 44)).cell? ⟨w.heap.size, 0, none⟩ = some (.int .i64 b.n) from cell_new _ _ _ _)
      have q1_14 := (show (w.alloc (.cells #[.int .i64 b.n, .slice A b.ws.length c] 44)).cell? ⟨w.heap.size, 1, none⟩ = some (.slice A b.ws.length c) from cell_new _ _ _ _)
      have hbx15 : w.heap.size < (w.alloc (.cells #[.int .i64 b.n, .slice A b.ws.length c] 44)).heap.size := by simp
      go_enter Try.func59, Try.ntmps59
      go_wp2_with fail
      refine (ValidBraid_any _ S _ b (I_12.out.up (by repeat (first | exact Chg.refl _ _ | apply Chg.drew | apply Chg.drewN | refine Chg.alloc ?_ _)))).mono ?_
      rintro e w16 ⟨rfl, g1⟩
      have G1 := Lib.hid g1
      have hz16 := G1.out.size
      clear g1
      have U_17 := Lib.hid (Chg.trans U_11.out (Chg.trans (by repeat (first | exact Chg.refl _ _ | apply Chg.drew | apply Chg.drewN | refine Chg.alloc ?_ _)) G1.out))
      clear U_11
      have I_18 := Lib.hid (I_12.out.up (Chg.trans (by repeat (first | exact Chg.refl _ _ | apply Chg.drew | apply Chg.drewN | refine Chg.alloc ?_ _)) G1.out))
      clear I_12
      have q0_19 := Chg.cell (Chg.trans (by repeat (first | exact Chg.refl _ _ | apply Chg.drew | apply Chg.drewN | refine Chg.alloc ?_ _)) G1.out) q0_13 id
      clear q0_13
      have q1_20 := Chg.cell (Chg.trans (by repeat (first | exact Chg.refl _ _ | apply Chg.drew | apply Chg.drewN | refine Chg.alloc ?_ _)) G1.out) q1_14 id
      clear q1_14
      clear G1
      rw [HV.out]
      go_wp2
      go_ret2
      exact ⟨_, ret_mi HC.out.symm, by rw [HO.out]; exact Ops.nil _ _ _ _ (by omega), (Chg.trans U_17.out (by repeat (first | exact Chg.refl _ _ | apply Chg.drew | apply Chg.drewN | refine Chg.alloc ?_ _)))⟩
    have hd8 : ¬ (b.n > 8) := by omega
    by_cases hf : 1 ≤ first ∧ first ≤ 23
    rotate_left
    · have hc := crossCode_2 hv (by omega) (.inl (by omega) : (first < 1 ∨ 23 < first) ∨ 23 < first + 2 * (b.n - 1) + 1)
      have HO := Lib.hid (crossOut_no hc (by omega))
      have HC := Lib.hid hc
      have HF := Lib.hid (show first < 1 ∨ 23 < first by omega)
      clear hv hc hf
      have U_21 := Lib.hid (Chg.trans U0.out ((Chg.refl Nowhere w).alloc (.cells #[.int .i64 b.n, .slice A b.ws.length c] 44)))
      clear U0
      have I_22 := Lib.hid (HI.out.up ((Chg.refl Nowhere w).alloc (.cells #[.int .i64 b.n, .slice A b.ws.length c] 44)))
      clear HI
      have q0_23 := (show (w.alloc (.cells #[.int .i64 b.n, .slice A b.ws.length c] 44)).cell? ⟨w.heap.size, 0, none⟩ = some (.int .i64 b.n) from cell_new _ _ _ _)
      have q1_24 := (show (w.alloc (.cells #[.int .i64 b.n, .slice A b.ws.length c] 44)).cell? ⟨w.heap.size, 1, none⟩ = some (.slice A b.ws.length c) from cell_new _ _ _ _)
      have hbx25 : w.heap.size < (w.alloc (.cells #[.int .i64 b.n, .slice A b.ws.length c] 44)).heap.size := by simp
      go_enter Try.func59, Try.ntmps59
      go_wp2_with fail
      refine (ValidBraid_any _ S _ b (I_22.out.up (by repeat (first | exact Chg.refl _ _ | apply Chg.drew | apply Chg.drewN | refine Chg.alloc ?_ _)))).mono ?_
      rintro e w26 ⟨rfl, g1⟩
      have G1 := Lib.hid g1
      have hz26 := G1.out.size
      clear g1
      have U_27 := Lib.hid (Chg.trans U_21.out (Chg.trans (by repeat (first | exact Chg.refl _ _ | apply Chg.drew | apply Chg.drewN | refine Chg.alloc ?_ _)) G1.out))
      clear U_21
      have I_28 := Lib.hid (I_22.out.up (Chg.trans (by repeat (first | exact Chg.refl _ _ | apply Chg.drew | apply Chg.drewN | refine Chg.alloc ?_ _)) G1.out))
      clear I_22
      have q0_29 := Chg.cell (Chg.trans (by repeat (first | exact Chg.refl _ _ | apply Chg.drew | apply Chg.drewN | refine Chg.alloc ?_ _)) G1.out) q0_23 id
      clear q0_23
      have q1_30 := Chg.cell (Chg.trans (by repeat (first | exact Chg.refl _ _ | apply Chg.drew | apply Chg.drewN | refine Chg.alloc ?_ _)) G1.out) q1_24 id
      clear q1_24
      clear G1
      rw [HV.out]
      go_wp2_with fail
      refine (within_no _ _ _ _ HF.out).mono ?_
      rintro e w' ⟨rfl, rfl⟩
      go_wp2
      go_ret2
      exact ⟨_, ret_mi HC.out.symm, by rw [HO.out]; exact Ops.nil _ _ _ _ (by omega), (Chg.trans U_27.out (by repeat (first | exact Chg.refl _ _ | apply Chg.drew | apply Chg.drewN | refine Chg.alloc ?_ _)))⟩
    have HF := Lib.hid hf
    obtain ⟨hf0, hf1⟩ := hf
    by_cases hr : 23 < first + 2 * (b.n - 1) + 1
    · have hc := crossCode_2 hv (by omega) (.inr hr : (first < 1 ∨ 23 < first) ∨ 23 < first + 2 * (b.n - 1) + 1)
      have HO := Lib.hid (crossOut_no hc (by omega))
      have HC := Lib.hid hc
      clear hv hc
      have U_31 := Lib.hid (Chg.trans U0.out ((Chg.refl Nowhere w).alloc (.cells #[.int .i64 b.n, .slice A b.ws.length c] 44)))
      clear U0
      have I_32 := Lib.hid (HI.out.up ((Chg.refl Nowhere w).alloc (.cells #[.int .i64 b.n, .slice A b.ws.length c] 44)))
      clear HI
      have q0_33 := (show (w.alloc (.cells #[.int .i64 b.n, .slice A b.ws.length c] 44)).cell? ⟨w.heap.size, 0, none⟩ = some (.int .i64 b.n) from cell_new _ _ _ _)
      have q1_34 := (show (w.alloc (.cells #[.int .i64 b.n, .slice A b.ws.length c] 44)).cell? ⟨w.heap.size, 1, none⟩ = some (.slice A b.ws.length c) from cell_new _ _ _ _)
      have hbx35 : w.heap.size < (w.alloc (.cells #[.int .i64 b.n, .slice A b.ws.length c] 44)).heap.size := by simp
      go_enter Try.func59, Try.ntmps59
      go_wp2_with fail
      refine (ValidBraid_any _ S _ b (I_32.out.up (by repeat (first | exact Chg.refl _ _ | apply Chg.drew | apply Chg.drewN | refine Chg.alloc ?_ _)))).mono ?_
      rintro e w36 ⟨rfl, g1⟩
      have G1 := Lib.hid g1
      have hz36 := G1.out.size
      clear g1
      have U_37 := Lib.hid (Chg.trans U_31.out (Chg.trans (by repeat (first | exact Chg.refl _ _ | apply Chg.drew | apply Chg.drewN | refine Chg.alloc ?_ _)) G1.out))
      clear U_31
      have I_38 := Lib.hid (I_32.out.up (Chg.trans (by repeat (first | exact Chg.refl _ _ | apply Chg.drew | apply Chg.drewN | refine Chg.alloc ?_ _)) G1.out))
      clear I_32
      have q0_39 := Chg.cell (Chg.trans (by repeat (first | exact Chg.refl _ _ | apply Chg.drew | apply Chg.drewN | refine Chg.alloc ?_ _)) G1.out) q0_33 id
      clear q0_33
      have q1_40 := Chg.cell (Chg.trans (by repeat (first | exact Chg.refl _ _ | apply Chg.drew | apply Chg.drewN | refine Chg.alloc ?_ _)) G1.out) q1_34 id
      clear q1_34
      clear G1
      rw [HV.out]
      go_wp2_with fail
      refine (within_yes _ _ _ _ HF.out).mono ?_
      rintro e w' ⟨rfl, rfl⟩
      go_wp2
      go_ret2
      exact ⟨_, ret_mi HC.out.symm, by rw [HO.out]; exact Ops.nil _ _ _ _ (by omega), (Chg.trans U_37.out (by repeat (first | exact Chg.refl _ _ | apply Chg.drew | apply Chg.drewN | refine Chg.alloc ?_ _)))⟩
    have hc := crossCode_0 hv (by omega) HF.out (by omega)
    have HO := Lib.hid (crossOut_ok hc)
    have HC := Lib.hid hc
    have HW := Lib.hid (braid_let hv (hi := 7) (by omega))
    have hr2 : ¬ (first + 2 * (b.n - 1) + 1 > 23) := by omega
    clear hv hc hr
    have U_41 := Lib.hid (Chg.trans U0.out ((Chg.refl Nowhere w).alloc (.cells #[.int .i64 b.n, .slice A b.ws.length c] 44)))
    clear U0
    have I_42 := Lib.hid (HI.out.up ((Chg.refl Nowhere w).alloc (.cells #[.int .i64 b.n, .slice A b.ws.length c] 44)))
    clear HI
    have q0_43 := (show (w.alloc (.cells #[.int .i64 b.n, .slice A b.ws.length c] 44)).cell? ⟨w.heap.size, 0, none⟩ = some (.int .i64 b.n) from cell_new _ _ _ _)
    have q1_44 := (show (w.alloc (.cells #[.int .i64 b.n, .slice A b.ws.length c] 44)).cell? ⟨w.heap.size, 1, none⟩ = some (.slice A b.ws.length c) from cell_new _ _ _ _)
    have hbx45 : w.heap.size < (w.alloc (.cells #[.int .i64 b.n, .slice A b.ws.length c] 44)).heap.size := by simp
    go_enter Try.func59, Try.ntmps59
    go_wp2_with fail
    refine (ValidBraid_any _ S _ b (I_42.out.up (by repeat (first | exact Chg.refl _ _ | apply Chg.drew | apply Chg.drewN | refine Chg.alloc ?_ _)))).mono ?_
    rintro e w46 ⟨rfl, g1⟩
    have G1 := Lib.hid g1
    have hz46 := G1.out.size
    clear g1
    have U_47 := Lib.hid (Chg.trans U_41.out (Chg.trans (by repeat (first | exact Chg.refl _ _ | apply Chg.drew | apply Chg.drewN | refine Chg.alloc ?_ _)) G1.out))
    clear U_41
    have I_48 := Lib.hid (I_42.out.up (Chg.trans (by repeat (first | exact Chg.refl _ _ | apply Chg.drew | apply Chg.drewN | refine Chg.alloc ?_ _)) G1.out))
    clear I_42
    have q0_49 := Chg.cell (Chg.trans (by repeat (first | exact Chg.refl _ _ | apply Chg.drew | apply Chg.drewN | refine Chg.alloc ?_ _)) G1.out) q0_43 id
    clear q0_43
    have q1_50 := Chg.cell (Chg.trans (by repeat (first | exact Chg.refl _ _ | apply Chg.drew | apply Chg.drewN | refine Chg.alloc ?_ _)) G1.out) q1_44 id
    clear q1_44
    clear G1
    rw [HV.out]
    go_wp2_with fail
    refine (within_yes _ _ _ _ HF.out).mono ?_
    rintro e w' ⟨rfl, rfl⟩
    have HW2 := Lib.hid (show letOk 100 b.ws from fun k hk => by have := HW.out k hk; omega)
    have HI5 := Lib.hid (HI4.out.up U_47.out)
    go_wp2_with fail
    refine (crossOps_any _ S _ first b.ws (HI5.out.up (by repeat (first | exact Chg.refl _ _ | apply Chg.drew | apply Chg.drewN | refine Chg.alloc ?_ _))) ⟨by omega, by omega⟩ HW2.out (by omega)).mono ?_
    rintro e w51 ⟨v51, rfl, k1, g1⟩
    obtain ⟨A51, c51, rfl, hl51, hc51, -⟩ := k1.shape
    have K1 := Lib.hid k1
    clear k1
    have G1 := Lib.hid g1
    have hz51 := G1.out.size
    clear g1
    have U_52 := Lib.hid (Chg.trans U_47.out (Chg.trans (by repeat (first | exact Chg.refl _ _ | apply Chg.drew | apply Chg.drewN | refine Chg.alloc ?_ _)) G1.out))
    clear U_47
    have I_53 := Lib.hid (I_48.out.up (Chg.trans (by repeat (first | exact Chg.refl _ _ | apply Chg.drew | apply Chg.drewN | refine Chg.alloc ?_ _)) G1.out))
    clear I_48
    have q0_54 := Chg.cell (Chg.trans (by repeat (first | exact Chg.refl _ _ | apply Chg.drew | apply Chg.drewN | refine Chg.alloc ?_ _)) G1.out) q0_49 id
    clear q0_49
    have q1_55 := Chg.cell (Chg.trans (by repeat (first | exact Chg.refl _ _ | apply Chg.drew | apply Chg.drewN | refine Chg.alloc ?_ _)) G1.out) q1_50 id
    clear q1_50
    clear G1
    have K_56 := Lib.hid (K1.out)
    clear K1
    go_wp2
    go_ret2
    exact ⟨_, ret_mi HC.out.symm, by rw [HO.out]; exact K_56.out.mono (fun b _ hb => ⟨by have := hb.1; simp at *; omega, hb.2⟩), (Chg.trans U_52.out (by repeat (first | exact Chg.refl _ _ | apply Chg.drew | apply Chg.drewN | refine Chg.alloc ?_ _)))⟩
set_option maxRecDepth 100000 in
set_option maxHeartbeats 8000000 in
theorem sCrossOps_any (w : World) (S : Nat → Prop) (first : Int) (v : Value) (b : BraidM) (h : BraidV w S v b) :
    Calls Try.prog 58 #[.int .i64 first, v] w fun e w' => ∃ v', e = .returned (.tuple #[v', .int .i64 (crossCode first b)]) ∧ Ops w' (New w.heap.size w'.heap.size) v' (crossOut first b) ∧ Up w w' := by
  have hbi : I64 b.n := by obtain ⟨_, _, _, h1⟩ := h; exact h1
  have HBI := Lib.hid hbi
  obtain ⟨A, c, rfl, h4, h5, h6⟩ := openBraid h
  have HI := Lib.hid h
  have HI4 := Lib.hid h4
  have U0 := Lib.hid (Chg.refl Nowhere w)
  obtain ⟨hi0, hi1⟩ := hbi
  clear h h4
  cases hv : braidB b.n b.ws with
  | false =>
    have hc := crossCode_1 (first := first) (.inl hv : braidB b.n b.ws = false ∨ 8 < b.n)
    have HO := Lib.hid (crossOut_no hc (by omega))
    have HC := Lib.hid hc
    have HV := Lib.hid hv
    clear hv hc
    have HJ4 := Lib.hid HI4.out
    have U_1 := Lib.hid (Chg.trans U0.out ((Chg.refl Nowhere w).alloc (.cells #[.int .i64 b.n, .slice A b.ws.length c] 44)))
    clear U0
    have I_2 := Lib.hid (HI.out.up ((Chg.refl Nowhere w).alloc (.cells #[.int .i64 b.n, .slice A b.ws.length c] 44)))
    clear HI
    have J_3 := Lib.hid (HJ4.out.up ((Chg.refl Nowhere w).alloc (.cells #[.int .i64 b.n, .slice A b.ws.length c] 44)))
    clear HJ4
    have q0_4 := (show (w.alloc (.cells #[.int .i64 b.n, .slice A b.ws.length c] 44)).cell? ⟨w.heap.size, 0, none⟩ = some (.int .i64 b.n) from cell_new _ _ _ _)
    have q1_5 := (show (w.alloc (.cells #[.int .i64 b.n, .slice A b.ws.length c] 44)).cell? ⟨w.heap.size, 1, none⟩ = some (.slice A b.ws.length c) from cell_new _ _ _ _)
    have hbx6 : w.heap.size < (w.alloc (.cells #[.int .i64 b.n, .slice A b.ws.length c] 44)).heap.size := by simp
    have HA := Lib.hid (show BraidAt (w.alloc (.cells #[.int .i64 b.n, .slice A b.ws.length c] 44)) S w.heap.size 0 b from ⟨A, c, cell_new _ _ _ _, cell_new _ _ _ _, HI4.out.up ((Chg.refl Nowhere _).alloc _), h5, h6, HBI.out, by simp⟩)
    go_enter Try.func58, Try.ntmps58
    go_wp2_with fail
    refine (l03Ok_any _ S _ _ b (HA.out.up (by repeat (first | exact Chg.refl _ _ | apply Chg.drew | apply Chg.drewN | refine Chg.alloc ?_ _)))).mono ?_
    rintro e w7 ⟨rfl, g1⟩
    have G1 := Lib.hid g1
    have hz7 := G1.out.size
    clear g1
    have U_8 := Lib.hid (Chg.trans U_1.out (Chg.trans (by repeat (first | exact Chg.refl _ _ | apply Chg.drew | apply Chg.drewN | refine Chg.alloc ?_ _)) G1.out))
    clear U_1
    have I_9 := Lib.hid (I_2.out.up (Chg.trans (by repeat (first | exact Chg.refl _ _ | apply Chg.drew | apply Chg.drewN | refine Chg.alloc ?_ _)) G1.out))
    clear I_2
    have J_10 := Lib.hid (J_3.out.up (Chg.trans (by repeat (first | exact Chg.refl _ _ | apply Chg.drew | apply Chg.drewN | refine Chg.alloc ?_ _)) G1.out))
    clear J_3
    have q0_11 := Chg.cell (Chg.trans (by repeat (first | exact Chg.refl _ _ | apply Chg.drew | apply Chg.drewN | refine Chg.alloc ?_ _)) G1.out) q0_4 id
    clear q0_4
    have q1_12 := Chg.cell (Chg.trans (by repeat (first | exact Chg.refl _ _ | apply Chg.drew | apply Chg.drewN | refine Chg.alloc ?_ _)) G1.out) q1_5 id
    clear q1_5
    have A_13 := Lib.hid (HA.out.up (Chg.trans (by repeat (first | exact Chg.refl _ _ | apply Chg.drew | apply Chg.drewN | refine Chg.alloc ?_ _)) G1.out))
    clear HA
    clear G1
    rw [HV.out]
    go_wp2
    go_ret2
    exact ⟨_, ret_mi HC.out.symm, by rw [HO.out]; exact Ops.nil _ _ _ _ (by omega), (Chg.trans U_8.out (by repeat (first | exact Chg.refl _ _ | apply Chg.drew | apply Chg.drewN | refine Chg.alloc ?_ _)))⟩
  | true =>
    have hbr := braidB_iff.1 hv
    have hn0 := hbr.n0
    have hn1 := hbr.n1
    have hlen := hbr.len
    have HV := Lib.hid hv
    clear hbr
    by_cases hn8 : 8 < b.n
    · have hc := crossCode_1 (first := first) (.inr hn8 : braidB b.n b.ws = false ∨ 8 < b.n)
      have HO := Lib.hid (crossOut_no hc (by omega))
      have HC := Lib.hid hc
      clear hv hc
      have HJ4 := Lib.hid HI4.out
      have U_14 := Lib.hid (Chg.trans U0.out ((Chg.refl Nowhere w).alloc (.cells #[.int .i64 b.n, .slice A b.ws.length c] 44)))
      clear U0
      have I_15 := Lib.hid (HI.out.up ((Chg.refl Nowhere w).alloc (.cells #[.int .i64 b.n, .slice A b.ws.length c] 44)))
      clear HI
      have J_16 := Lib.hid (HJ4.out.up ((Chg.refl Nowhere w).alloc (.cells #[.int .i64 b.n, .slice A b.ws.length c] 44)))
      clear HJ4
      have q0_17 := (show (w.alloc (.cells #[.int .i64 b.n, .slice A b.ws.length c] 44)).cell? ⟨w.heap.size, 0, none⟩ = some (.int .i64 b.n) from cell_new _ _ _ _)
      have q1_18 := (show (w.alloc (.cells #[.int .i64 b.n, .slice A b.ws.length c] 44)).cell? ⟨w.heap.size, 1, none⟩ = some (.slice A b.ws.length c) from cell_new _ _ _ _)
      have hbx19 : w.heap.size < (w.alloc (.cells #[.int .i64 b.n, .slice A b.ws.length c] 44)).heap.size := by simp
      have HA := Lib.hid (show BraidAt (w.alloc (.cells #[.int .i64 b.n, .slice A b.ws.length c] 44)) S w.heap.size 0 b from ⟨A, c, cell_new _ _ _ _, cell_new _ _ _ _, HI4.out.up ((Chg.refl Nowhere _).alloc _), h5, h6, HBI.out, by simp⟩)
      go_enter Try.func58, Try.ntmps58
      go_wp2_with fail
      refine (l03Ok_any _ S _ _ b (HA.out.up (by repeat (first | exact Chg.refl _ _ | apply Chg.drew | apply Chg.drewN | refine Chg.alloc ?_ _)))).mono ?_
      rintro e w20 ⟨rfl, g1⟩
      have G1 := Lib.hid g1
      have hz20 := G1.out.size
      clear g1
      have U_21 := Lib.hid (Chg.trans U_14.out (Chg.trans (by repeat (first | exact Chg.refl _ _ | apply Chg.drew | apply Chg.drewN | refine Chg.alloc ?_ _)) G1.out))
      clear U_14
      have I_22 := Lib.hid (I_15.out.up (Chg.trans (by repeat (first | exact Chg.refl _ _ | apply Chg.drew | apply Chg.drewN | refine Chg.alloc ?_ _)) G1.out))
      clear I_15
      have J_23 := Lib.hid (J_16.out.up (Chg.trans (by repeat (first | exact Chg.refl _ _ | apply Chg.drew | apply Chg.drewN | refine Chg.alloc ?_ _)) G1.out))
      clear J_16
      have q0_24 := Chg.cell (Chg.trans (by repeat (first | exact Chg.refl _ _ | apply Chg.drew | apply Chg.drewN | refine Chg.alloc ?_ _)) G1.out) q0_17 id
      clear q0_17
      have q1_25 := Chg.cell (Chg.trans (by repeat (first | exact Chg.refl _ _ | apply Chg.drew | apply Chg.drewN | refine Chg.alloc ?_ _)) G1.out) q1_18 id
      clear q1_18
      have A_26 := Lib.hid (HA.out.up (Chg.trans (by repeat (first | exact Chg.refl _ _ | apply Chg.drew | apply Chg.drewN | refine Chg.alloc ?_ _)) G1.out))
      clear HA
      clear G1
      rw [HV.out]
      go_wp2
      go_ret2
      exact ⟨_, ret_mi HC.out.symm, by rw [HO.out]; exact Ops.nil _ _ _ _ (by omega), (Chg.trans U_21.out (by repeat (first | exact Chg.refl _ _ | apply Chg.drew | apply Chg.drewN | refine Chg.alloc ?_ _)))⟩
    have hd8 : ¬ (b.n > 8) := by omega
    by_cases hf : 1 ≤ first ∧ first ≤ 23
    rotate_left
    · have hc := crossCode_2 hv (by omega) (.inl (by omega) : (first < 1 ∨ 23 < first) ∨ 23 < first + 2 * (b.n - 1) + 1)
      have HO := Lib.hid (crossOut_no hc (by omega))
      have HC := Lib.hid hc
      have HF := Lib.hid (show first < 1 ∨ 23 < first by omega)
      clear hv hc hf
      have HJ4 := Lib.hid HI4.out
      have U_27 := Lib.hid (Chg.trans U0.out ((Chg.refl Nowhere w).alloc (.cells #[.int .i64 b.n, .slice A b.ws.length c] 44)))
      clear U0
      have I_28 := Lib.hid (HI.out.up ((Chg.refl Nowhere w).alloc (.cells #[.int .i64 b.n, .slice A b.ws.length c] 44)))
      clear HI
      have J_29 := Lib.hid (HJ4.out.up ((Chg.refl Nowhere w).alloc (.cells #[.int .i64 b.n, .slice A b.ws.length c] 44)))
      clear HJ4
      have q0_30 := (show (w.alloc (.cells #[.int .i64 b.n, .slice A b.ws.length c] 44)).cell? ⟨w.heap.size, 0, none⟩ = some (.int .i64 b.n) from cell_new _ _ _ _)
      have q1_31 := (show (w.alloc (.cells #[.int .i64 b.n, .slice A b.ws.length c] 44)).cell? ⟨w.heap.size, 1, none⟩ = some (.slice A b.ws.length c) from cell_new _ _ _ _)
      have hbx32 : w.heap.size < (w.alloc (.cells #[.int .i64 b.n, .slice A b.ws.length c] 44)).heap.size := by simp
      have HA := Lib.hid (show BraidAt (w.alloc (.cells #[.int .i64 b.n, .slice A b.ws.length c] 44)) S w.heap.size 0 b from ⟨A, c, cell_new _ _ _ _, cell_new _ _ _ _, HI4.out.up ((Chg.refl Nowhere _).alloc _), h5, h6, HBI.out, by simp⟩)
      go_enter Try.func58, Try.ntmps58
      go_wp2_with fail
      refine (l03Ok_any _ S _ _ b (HA.out.up (by repeat (first | exact Chg.refl _ _ | apply Chg.drew | apply Chg.drewN | refine Chg.alloc ?_ _)))).mono ?_
      rintro e w33 ⟨rfl, g1⟩
      have G1 := Lib.hid g1
      have hz33 := G1.out.size
      clear g1
      have U_34 := Lib.hid (Chg.trans U_27.out (Chg.trans (by repeat (first | exact Chg.refl _ _ | apply Chg.drew | apply Chg.drewN | refine Chg.alloc ?_ _)) G1.out))
      clear U_27
      have I_35 := Lib.hid (I_28.out.up (Chg.trans (by repeat (first | exact Chg.refl _ _ | apply Chg.drew | apply Chg.drewN | refine Chg.alloc ?_ _)) G1.out))
      clear I_28
      have J_36 := Lib.hid (J_29.out.up (Chg.trans (by repeat (first | exact Chg.refl _ _ | apply Chg.drew | apply Chg.drewN | refine Chg.alloc ?_ _)) G1.out))
      clear J_29
      have q0_37 := Chg.cell (Chg.trans (by repeat (first | exact Chg.refl _ _ | apply Chg.drew | apply Chg.drewN | refine Chg.alloc ?_ _)) G1.out) q0_30 id
      clear q0_30
      have q1_38 := Chg.cell (Chg.trans (by repeat (first | exact Chg.refl _ _ | apply Chg.drew | apply Chg.drewN | refine Chg.alloc ?_ _)) G1.out) q1_31 id
      clear q1_31
      have A_39 := Lib.hid (HA.out.up (Chg.trans (by repeat (first | exact Chg.refl _ _ | apply Chg.drew | apply Chg.drewN | refine Chg.alloc ?_ _)) G1.out))
      clear HA
      clear G1
      rw [HV.out]
      go_wp2_with fail
      refine (l00In_no _ _ _ _ HF.out).mono ?_
      rintro e w' ⟨rfl, rfl⟩
      go_wp2
      go_ret2
      exact ⟨_, ret_mi HC.out.symm, by rw [HO.out]; exact Ops.nil _ _ _ _ (by omega), (Chg.trans U_34.out (by repeat (first | exact Chg.refl _ _ | apply Chg.drew | apply Chg.drewN | refine Chg.alloc ?_ _)))⟩
    have HF := Lib.hid hf
    obtain ⟨hf0, hf1⟩ := hf
    by_cases hr : 23 < first + 2 * (b.n - 1) + 1
    · have hc := crossCode_2 hv (by omega) (.inr hr : (first < 1 ∨ 23 < first) ∨ 23 < first + 2 * (b.n - 1) + 1)
      have HO := Lib.hid (crossOut_no hc (by omega))
      have HC := Lib.hid hc
      clear hv hc
      have HJ4 := Lib.hid HI4.out
      have U_40 := Lib.hid (Chg.trans U0.out ((Chg.refl Nowhere w).alloc (.cells #[.int .i64 b.n, .slice A b.ws.length c] 44)))
      clear U0
      have I_41 := Lib.hid (HI.out.up ((Chg.refl Nowhere w).alloc (.cells #[.int .i64 b.n, .slice A b.ws.length c] 44)))
      clear HI
      have J_42 := Lib.hid (HJ4.out.up ((Chg.refl Nowhere w).alloc (.cells #[.int .i64 b.n, .slice A b.ws.length c] 44)))
      clear HJ4
      have q0_43 := (show (w.alloc (.cells #[.int .i64 b.n, .slice A b.ws.length c] 44)).cell? ⟨w.heap.size, 0, none⟩ = some (.int .i64 b.n) from cell_new _ _ _ _)
      have q1_44 := (show (w.alloc (.cells #[.int .i64 b.n, .slice A b.ws.length c] 44)).cell? ⟨w.heap.size, 1, none⟩ = some (.slice A b.ws.length c) from cell_new _ _ _ _)
      have hbx45 : w.heap.size < (w.alloc (.cells #[.int .i64 b.n, .slice A b.ws.length c] 44)).heap.size := by simp
      have HA := Lib.hid (show BraidAt (w.alloc (.cells #[.int .i64 b.n, .slice A b.ws.length c] 44)) S w.heap.size 0 b from ⟨A, c, cell_new _ _ _ _, cell_new _ _ _ _, HI4.out.up ((Chg.refl Nowhere _).alloc _), h5, h6, HBI.out, by simp⟩)
      go_enter Try.func58, Try.ntmps58
      go_wp2_with fail
      refine (l03Ok_any _ S _ _ b (HA.out.up (by repeat (first | exact Chg.refl _ _ | apply Chg.drew | apply Chg.drewN | refine Chg.alloc ?_ _)))).mono ?_
      rintro e w46 ⟨rfl, g1⟩
      have G1 := Lib.hid g1
      have hz46 := G1.out.size
      clear g1
      have U_47 := Lib.hid (Chg.trans U_40.out (Chg.trans (by repeat (first | exact Chg.refl _ _ | apply Chg.drew | apply Chg.drewN | refine Chg.alloc ?_ _)) G1.out))
      clear U_40
      have I_48 := Lib.hid (I_41.out.up (Chg.trans (by repeat (first | exact Chg.refl _ _ | apply Chg.drew | apply Chg.drewN | refine Chg.alloc ?_ _)) G1.out))
      clear I_41
      have J_49 := Lib.hid (J_42.out.up (Chg.trans (by repeat (first | exact Chg.refl _ _ | apply Chg.drew | apply Chg.drewN | refine Chg.alloc ?_ _)) G1.out))
      clear J_42
      have q0_50 := Chg.cell (Chg.trans (by repeat (first | exact Chg.refl _ _ | apply Chg.drew | apply Chg.drewN | refine Chg.alloc ?_ _)) G1.out) q0_43 id
      clear q0_43
      have q1_51 := Chg.cell (Chg.trans (by repeat (first | exact Chg.refl _ _ | apply Chg.drew | apply Chg.drewN | refine Chg.alloc ?_ _)) G1.out) q1_44 id
      clear q1_44
      have A_52 := Lib.hid (HA.out.up (Chg.trans (by repeat (first | exact Chg.refl _ _ | apply Chg.drew | apply Chg.drewN | refine Chg.alloc ?_ _)) G1.out))
      clear HA
      clear G1
      rw [HV.out]
      go_wp2_with fail
      refine (l00In_yes _ _ _ _ HF.out).mono ?_
      rintro e w' ⟨rfl, rfl⟩
      go_wp2
      go_ret2
      exact ⟨_, ret_mi HC.out.symm, by rw [HO.out]; exact Ops.nil _ _ _ _ (by omega), (Chg.trans U_47.out (by repeat (first | exact Chg.refl _ _ | apply Chg.drew | apply Chg.drewN | refine Chg.alloc ?_ _)))⟩
    have hc := crossCode_0 hv (by omega) HF.out (by omega)
    have HO := Lib.hid (crossOut_ok hc)
    have HC := Lib.hid hc
    have HW := Lib.hid (braid_let hv (hi := 7) (by omega))
    have hr2 : ¬ (first + 2 * (b.n - 1) + 1 > 23) := by omega
    clear hv hc hr
    have HJ4 := Lib.hid HI4.out
    have U_53 := Lib.hid (Chg.trans U0.out ((Chg.refl Nowhere w).alloc (.cells #[.int .i64 b.n, .slice A b.ws.length c] 44)))
    clear U0
    have I_54 := Lib.hid (HI.out.up ((Chg.refl Nowhere w).alloc (.cells #[.int .i64 b.n, .slice A b.ws.length c] 44)))
    clear HI
    have J_55 := Lib.hid (HJ4.out.up ((Chg.refl Nowhere w).alloc (.cells #[.int .i64 b.n, .slice A b.ws.length c] 44)))
    clear HJ4
    have q0_56 := (show (w.alloc (.cells #[.int .i64 b.n, .slice A b.ws.length c] 44)).cell? ⟨w.heap.size, 0, none⟩ = some (.int .i64 b.n) from cell_new _ _ _ _)
    have q1_57 := (show (w.alloc (.cells #[.int .i64 b.n, .slice A b.ws.length c] 44)).cell? ⟨w.heap.size, 1, none⟩ = some (.slice A b.ws.length c) from cell_new _ _ _ _)
    have hbx58 : w.heap.size < (w.alloc (.cells #[.int .i64 b.n, .slice A b.ws.length c] 44)).heap.size := by simp
    have HA := Lib.hid (show BraidAt (w.alloc (.cells #[.int .i64 b.n, .slice A b.ws.length c] 44)) S w.heap.size 0 b from ⟨A, c, cell_new _ _ _ _, cell_new _ _ _ _, HI4.out.up ((Chg.refl Nowhere _).alloc _), h5, h6, HBI.out, by simp⟩)
    go_enter Try.func58, Try.ntmps58
    go_wp2_with fail
    refine (l03Ok_any _ S _ _ b (HA.out.up (by repeat (first | exact Chg.refl _ _ | apply Chg.drew | apply Chg.drewN | refine Chg.alloc ?_ _)))).mono ?_
    rintro e w59 ⟨rfl, g1⟩
    have G1 := Lib.hid g1
    have hz59 := G1.out.size
    clear g1
    have U_60 := Lib.hid (Chg.trans U_53.out (Chg.trans (by repeat (first | exact Chg.refl _ _ | apply Chg.drew | apply Chg.drewN | refine Chg.alloc ?_ _)) G1.out))
    clear U_53
    have I_61 := Lib.hid (I_54.out.up (Chg.trans (by repeat (first | exact Chg.refl _ _ | apply Chg.drew | apply Chg.drewN | refine Chg.alloc ?_ _)) G1.out))
    clear I_54
    have J_62 := Lib.hid (J_55.out.up (Chg.trans (by repeat (first | exact Chg.refl _ _ | apply Chg.drew | apply Chg.drewN | refine Chg.alloc ?_ _)) G1.out))
    clear J_55
    have q0_63 := Chg.cell (Chg.trans (by repeat (first | exact Chg.refl _ _ | apply Chg.drew | apply Chg.drewN | refine Chg.alloc ?_ _)) G1.out) q0_56 id
    clear q0_56
    have q1_64 := Chg.cell (Chg.trans (by repeat (first | exact Chg.refl _ _ | apply Chg.drew | apply Chg.drewN | refine Chg.alloc ?_ _)) G1.out) q1_57 id
    clear q1_57
    have A_65 := Lib.hid (HA.out.up (Chg.trans (by repeat (first | exact Chg.refl _ _ | apply Chg.drew | apply Chg.drewN | refine Chg.alloc ?_ _)) G1.out))
    clear HA
    clear G1
    rw [HV.out]
    go_wp2_with fail
    refine (l00In_yes _ _ _ _ HF.out).mono ?_
    rintro e w' ⟨rfl, rfl⟩
    have hbw : w.heap.size < w59.heap.size := by simp at *; omega
    have M0 := Lib.hid (OwnO.made w59 w59.heap.size (Nat.le_refl _))
    go_wp2
    go_loopw [6, 7] (fun v i wr => ∃ j : Nat, j ≤ b.ws.length ∧ i = .int .i64 j ∧ Hid (OwnO wr w59.heap.size v (crossL first (b.ws.take j))) ∧ Hid (Up w59 wr)) (fun _ i _ => b.ws.length - (intOf i).toNat)
    case atStart => exact ⟨0, by omega, rfl, by simpa [Hid, crossL] using M0.out, (Chg.refl _ _).alloc _⟩
    clear M0
    case round =>
      obtain ⟨j, hj, rfl, ho, hg⟩ := hrel
      have f2 := Chg.cell hg.out q1_64 id
      by_cases hlt : j < b.ws.length
      · obtain ⟨b1, o1, he1, hbl, hc⟩ := J_62.out.ix hlt
        obtain rfl : A = some ⟨b1, o1, none⟩ := he1
        have f1 := Chg.cell hg.out (hc j hlt) id
        rw [ix_eq hlt] at f1
        obtain ⟨ha0, ha1⟩ := HW.out _ (List.getElem_mem hlt)
        have hk := absI_le ha1
        have HT := Lib.hid (crossL_take first hlt)
        have HLL := Lib.hid (show (crossL first (b.ws.take j)).length + (crossM (first + 2 * (absI b.ws[j] - 1)) (decide (0 < b.ws[j]))).length ≤ 1099511627776 by rw [crossL_len, crossM_length, List.length_take]; omega)
        have hsz := hg.out.size
        clear hc
        have w1s : IntKind.i64.wrap (absI b.ws[j] - 1) = absI b.ws[j] - 1 := IntWalk.i64_in _ (by omega)
        have w2s : IntKind.i64.wrap (2 * (absI b.ws[j] - 1)) = 2 * (absI b.ws[j] - 1) := IntWalk.i64_in _ (by omega)
        have w3s : IntKind.i64.wrap (first + 2 * (absI b.ws[j] - 1)) = first + 2 * (absI b.ws[j] - 1) := IntWalk.i64_in _ (by omega)
        go_wp2
        go_region_held3 (fun w' => w'.cell? ⟨w.heap.size, 1, none⟩ = some (.slice (some ⟨b1, o1, none⟩) b.ws.length c) ∧ w'.cell? ⟨b1, o1 + j, none⟩ = some (.int .i64 b.ws[j]))
          (first | (exact ⟨f2, f1⟩) | (obtain ⟨q0, q1⟩ : (World.cell? _ _ = _ ∧ World.cell? _ _ = _) := (by assumption); exact ⟨Chg.cell g1 q0 id, Chg.cell g1 q1 id⟩) | (obtain ⟨q0, q1⟩ : (World.cell? _ _ = _ ∧ World.cell? _ _ = _) := (by assumption); exact ⟨Chg.cell hg1 q0 (by simp only []; omega), Chg.cell hg1 q1 (by simp only []; omega)⟩))
          (first | (go_at_call 118; refine (sAbs_any _ _ ⟨by omega, by omega⟩).mono ?_; rintro e w' ⟨rfl, rfl⟩) | (go_at_call 117; refine (l22Cross_any _ (first + 2 * (absI b.ws[j] - 1)) _ (by omega) (by omega)).mono ?_; rintro e w2 ⟨v1, rfl, k1, g1⟩; obtain ⟨A1, c1, rfl, hl1, hc1, -⟩ := k1.shape; have HK1 := Lib.hid k1; have HO1 := Lib.hid (OwnO.up (ho.out.up (by repeat (first | exact Chg.refl _ _ | apply Chg.drew | apply Chg.drewN | refine Chg.alloc ?_ _))) g1); have HG1 := Lib.hid (Chg.trans (Chg.trans hg.out (by repeat (first | exact Chg.refl _ _ | apply Chg.drew | apply Chg.drewN | refine Chg.alloc ?_ _))) g1); have hsz2 := HG1.out.size; clear k1) | (refine step_appendOps (by rfl) _ _ (by rfl) w59.heap.size _ (crossL first (b.ws.take j)) (by rfl) HO1.out _ _ (crossM (first + 2 * (absI b.ws[j] - 1)) (decide (0 < b.ws[j]))) (by rfl) HK1.out HLL.out ?_ ?_; (first | omega | (simp; omega)); intro v' w3 ho1 _ hg1; have HOO := Lib.hid ho1; have HGG := Lib.hid (Chg.new HG1.out hg1 (fun i hi => by omega)); clear ho1))
        clear g1 hg1
        go_wp2
        go_roundw
        case rel => exact ⟨j + 1, by omega, by go_num, by rw [HT.out]; exact HOO.out, HGG.out⟩
        case measure => simp [intOf]; omega
      · obtain rfl : j = b.ws.length := by omega
        have HX := Lib.hid (show b.ws.take b.ws.length = b.ws by rw [List.take_length])
        go_wp2
        go_ret2
        exact ⟨_, ret_mi HC.out.symm, by rw [HO.out]; have := ho.out.ops; rw [HX.out] at this; exact this.mono (fun b _ hb => ⟨by have := hb.1; omega, hb.2⟩), Chg.trans U_60.out hg.out⟩
end Go.Proofs.Ytfaloanahffdmaa
