/- RowOps on both sides. No condition but room. -/
import Derived.Test.YtmimbnpcokfnlaaRowOps8
namespace Go.Proofs.Ytmimbnpcokfnlaa
open Go.ChangeShapes Go.WideShapes Go.ChangeAt Go.RowKit
def rowOut (r : RowM) (n a : Int) : List OpM := if askM r n a = 0 then preM r.xs ++ (rowTo r ([], a) r.xs.length).1 else []
theorem rowTo_len {r : RowM} (h : rowCodeM r.d r.c r.xs = 0) (a : Int) (ha : -3 ≤ a ∧ a ≤ 27) : (rowTo r ([], a) r.xs.length).1.length ≤ 1000 := by
  have h1 := (rowTo_bd (laid_of h) ([], a) ha r.xs.length (Nat.le_refl _)).2
  have h2 := (laid_of h).len
  simp only [List.length_nil] at h1
  omega
set_option linter.unusedVariables false in
set_option maxRecDepth 100000 in
set_option maxHeartbeats 8000000 in
theorem sRowOps_any (w : World) (S : Nat → Prop) (v : Value) (r : RowM) (h : RowV w S v r) (n a : Int) :
    Calls Try.prog 55 #[v, .int .i64 n, .int .i64 a] w fun e w' => ∃ v', e = .returned (.tuple #[v', .int .i64 (askM r n a)]) ∧ Ops w' (New w.heap.size w'.heap.size) v' (rowOut r n a) ∧ Up w w' := by
  have hii : I64 r.d ∧ I64 r.c := by obtain ⟨_, _, _, h1, h2⟩ := h; exact ⟨h1, h2⟩
  obtain ⟨A, c, rfl, h4, h5, h6⟩ := openRow h
  have U0 := Lib.hid (Chg.refl Nowhere w)
  have HI := Lib.hid h
  have HI4 := Lib.hid h4
  have HII := Lib.hid hii
  clear h4 h hii
  by_cases hz : askM r n a = 0
  rotate_left
  · have HO := Lib.hid (show rowOut r n a = [] from if_neg hz)
    have hz2 : (askM r n a != 0) = true := by simpa using hz
    clear hz
    have U_1 := Lib.hid (Chg.trans U0.out ((Chg.refl Nowhere w).alloc (.cells #[.int .i64 r.d, .int .i64 r.c, .slice A r.xs.length c] 66)))
    clear U0
    have I_2 := Lib.hid (HI.out.up ((Chg.refl Nowhere w).alloc (.cells #[.int .i64 r.d, .int .i64 r.c, .slice A r.xs.length c] 66)))
    clear HI
    have q0_3 := (show (w.alloc (.cells #[.int .i64 r.d, .int .i64 r.c, .slice A r.xs.length c] 66)).cell? ⟨w.heap.size, 0, none⟩ = some (.int .i64 r.d) from cell_new _ _ _ _)
    have q1_4 := (show (w.alloc (.cells #[.int .i64 r.d, .int .i64 r.c, .slice A r.xs.length c] 66)).cell? ⟨w.heap.size, 1, none⟩ = some (.int .i64 r.c) from cell_new _ _ _ _)
    have q2_5 := (show (w.alloc (.cells #[.int .i64 r.d, .int .i64 r.c, .slice A r.xs.length c] 66)).cell? ⟨w.heap.size, 2, none⟩ = some (.slice A r.xs.length c) from cell_new _ _ _ _)
    have hbx6 : w.heap.size < (w.alloc (.cells #[.int .i64 r.d, .int .i64 r.c, .slice A r.xs.length c] 66)).heap.size := by simp
    have HA := Lib.hid (show RowAt (w.alloc (.cells #[.int .i64 r.d, .int .i64 r.c, .slice A r.xs.length c] 66)) S w.heap.size 0 r from ⟨A, c, cell_new _ _ _ _, cell_new _ _ _ _, cell_new _ _ _ _, HI4.out.up ((Chg.refl Nowhere _).alloc _), h5, h6, HII.out, by simp⟩)
    go_enter Try.func55, Try.ntmps55
    go_wp2_with fail
    refine (l23Ask_any _ S _ _ r n a (HA.out.up (by repeat (first | exact Chg.refl _ _ | apply Chg.drew | apply Chg.drewN | refine Chg.alloc ?_ _)))).mono ?_
    rintro e w7 ⟨rfl, g1⟩
    have G1 := Lib.hid g1
    have hz7 := G1.out.size
    clear g1
    have U_8 := Lib.hid (Chg.trans U_1.out (Chg.trans (by repeat (first | exact Chg.refl _ _ | apply Chg.drew | apply Chg.drewN | refine Chg.alloc ?_ _)) G1.out))
    clear U_1
    have I_9 := Lib.hid (I_2.out.up (Chg.trans (by repeat (first | exact Chg.refl _ _ | apply Chg.drew | apply Chg.drewN | refine Chg.alloc ?_ _)) G1.out))
    clear I_2
    have q0_10 := Chg.cell (Chg.trans (by repeat (first | exact Chg.refl _ _ | apply Chg.drew | apply Chg.drewN | refine Chg.alloc ?_ _)) G1.out) q0_3 id
    clear q0_3
    have q1_11 := Chg.cell (Chg.trans (by repeat (first | exact Chg.refl _ _ | apply Chg.drew | apply Chg.drewN | refine Chg.alloc ?_ _)) G1.out) q1_4 id
    clear q1_4
    have q2_12 := Chg.cell (Chg.trans (by repeat (first | exact Chg.refl _ _ | apply Chg.drew | apply Chg.drewN | refine Chg.alloc ?_ _)) G1.out) q2_5 id
    clear q2_5
    have A_13 := Lib.hid (HA.out.up (Chg.trans (by repeat (first | exact Chg.refl _ _ | apply Chg.drew | apply Chg.drewN | refine Chg.alloc ?_ _)) G1.out))
    clear HA
    clear G1
    go_wp2
    go_ret2
    exact ⟨_, rfl, by rw [HO.out]; exact Ops.nil _ _ _ _ (by omega), (Chg.trans U_8.out (by repeat (first | exact Chg.refl _ _ | apply Chg.drew | apply Chg.drewN | refine Chg.alloc ?_ _)))⟩
  have HO := Lib.hid (show rowOut r n a = preM r.xs ++ (rowTo r ([], a) r.xs.length).1 from if_pos hz)
  have HZ := Lib.hid hz
  have HZ2 := Lib.hid (askM_zero hz)
  have hrl := (laid_of (askM_zero hz).1).len
  clear hz
  have U_14 := Lib.hid (Chg.trans U0.out ((Chg.refl Nowhere w).alloc (.cells #[.int .i64 r.d, .int .i64 r.c, .slice A r.xs.length c] 66)))
  clear U0
  have I_15 := Lib.hid (HI.out.up ((Chg.refl Nowhere w).alloc (.cells #[.int .i64 r.d, .int .i64 r.c, .slice A r.xs.length c] 66)))
  clear HI
  have q0_16 := (show (w.alloc (.cells #[.int .i64 r.d, .int .i64 r.c, .slice A r.xs.length c] 66)).cell? ⟨w.heap.size, 0, none⟩ = some (.int .i64 r.d) from cell_new _ _ _ _)
  have q1_17 := (show (w.alloc (.cells #[.int .i64 r.d, .int .i64 r.c, .slice A r.xs.length c] 66)).cell? ⟨w.heap.size, 1, none⟩ = some (.int .i64 r.c) from cell_new _ _ _ _)
  have q2_18 := (show (w.alloc (.cells #[.int .i64 r.d, .int .i64 r.c, .slice A r.xs.length c] 66)).cell? ⟨w.heap.size, 2, none⟩ = some (.slice A r.xs.length c) from cell_new _ _ _ _)
  have hbx19 : w.heap.size < (w.alloc (.cells #[.int .i64 r.d, .int .i64 r.c, .slice A r.xs.length c] 66)).heap.size := by simp
  have HA := Lib.hid (show RowAt (w.alloc (.cells #[.int .i64 r.d, .int .i64 r.c, .slice A r.xs.length c] 66)) S w.heap.size 0 r from ⟨A, c, cell_new _ _ _ _, cell_new _ _ _ _, cell_new _ _ _ _, HI4.out.up ((Chg.refl Nowhere _).alloc _), h5, h6, HII.out, by simp⟩)
  go_enter Try.func55, Try.ntmps55
  go_wp2_with fail
  refine (l23Ask_any _ S _ _ r n a (HA.out.up (by repeat (first | exact Chg.refl _ _ | apply Chg.drew | apply Chg.drewN | refine Chg.alloc ?_ _)))).mono ?_
  rintro e w20 ⟨rfl, g1⟩
  have G1 := Lib.hid g1
  have hz20 := G1.out.size
  clear g1
  have U_21 := Lib.hid (Chg.trans U_14.out (Chg.trans (by repeat (first | exact Chg.refl _ _ | apply Chg.drew | apply Chg.drewN | refine Chg.alloc ?_ _)) G1.out))
  clear U_14
  have I_22 := Lib.hid (I_15.out.up (Chg.trans (by repeat (first | exact Chg.refl _ _ | apply Chg.drew | apply Chg.drewN | refine Chg.alloc ?_ _)) G1.out))
  clear I_15
  have q0_23 := Chg.cell (Chg.trans (by repeat (first | exact Chg.refl _ _ | apply Chg.drew | apply Chg.drewN | refine Chg.alloc ?_ _)) G1.out) q0_16 id
  clear q0_16
  have q1_24 := Chg.cell (Chg.trans (by repeat (first | exact Chg.refl _ _ | apply Chg.drew | apply Chg.drewN | refine Chg.alloc ?_ _)) G1.out) q1_17 id
  clear q1_17
  have q2_25 := Chg.cell (Chg.trans (by repeat (first | exact Chg.refl _ _ | apply Chg.drew | apply Chg.drewN | refine Chg.alloc ?_ _)) G1.out) q2_18 id
  clear q2_18
  have A_26 := Lib.hid (HA.out.up (Chg.trans (by repeat (first | exact Chg.refl _ _ | apply Chg.drew | apply Chg.drewN | refine Chg.alloc ?_ _)) G1.out))
  clear HA
  clear G1
  rw [HZ.out]
  go_wp2_with fail
  refine (l23Crossings_own _ S _ _ r (A_26.out.up (by repeat (first | exact Chg.refl _ _ | apply Chg.drew | apply Chg.drewN | refine Chg.alloc ?_ _))) HZ2.out.1).mono ?_
  rintro e wc ⟨vc, rfl, k1, g1⟩
  obtain ⟨B, hB, hBc, k2⟩ : ∃ B, w.heap.size ≤ B ∧ B ≤ wc.heap.size ∧ OwnO wc B vc (crossL 1 (letL 0 r.xs)) := ⟨_, by omega, g1.size, k1⟩
  have G1 := Lib.hid g1
  have hzc := G1.out.size
  have HKO := Lib.hid k2
  have HLT := Lib.hid (fun g (hg : vc.ownBlock = some g) => k2.lt hg)
  clear k1 k2 g1
  have U_27 := Lib.hid (Chg.trans U_21.out (Chg.trans (by repeat (first | exact Chg.refl _ _ | apply Chg.drew | apply Chg.drewN | refine Chg.alloc ?_ _)) G1.out))
  clear U_21
  have I_28 := Lib.hid (I_22.out.up (Chg.trans (by repeat (first | exact Chg.refl _ _ | apply Chg.drew | apply Chg.drewN | refine Chg.alloc ?_ _)) G1.out))
  clear I_22
  have q0_29 := Chg.cell (Chg.trans (by repeat (first | exact Chg.refl _ _ | apply Chg.drew | apply Chg.drewN | refine Chg.alloc ?_ _)) G1.out) q0_23 id
  clear q0_23
  have q1_30 := Chg.cell (Chg.trans (by repeat (first | exact Chg.refl _ _ | apply Chg.drew | apply Chg.drewN | refine Chg.alloc ?_ _)) G1.out) q1_24 id
  clear q1_24
  have q2_31 := Chg.cell (Chg.trans (by repeat (first | exact Chg.refl _ _ | apply Chg.drew | apply Chg.drewN | refine Chg.alloc ?_ _)) G1.out) q2_25 id
  clear q2_25
  have A_32 := Lib.hid (A_26.out.up (Chg.trans (by repeat (first | exact Chg.refl _ _ | apply Chg.drew | apply Chg.drewN | refine Chg.alloc ?_ _)) G1.out))
  clear A_26
  clear G1
  go_wp2_with fail
  refine (l23Moves_any _ S _ _ r (A_32.out.up (by repeat (first | exact Chg.refl _ _ | apply Chg.drew | apply Chg.drewN | refine Chg.alloc ?_ _))) HZ2.out.1).mono ?_
  rintro e w33 ⟨v33, rfl, k1, g1⟩
  obtain ⟨A33, c33, rfl, hl33, hc33, -⟩ := k1.shape
  have K1 := Lib.hid k1
  clear k1
  have G1 := Lib.hid g1
  have hz33 := G1.out.size
  clear g1
  have U_34 := Lib.hid (Chg.trans U_27.out (Chg.trans (by repeat (first | exact Chg.refl _ _ | apply Chg.drew | apply Chg.drewN | refine Chg.alloc ?_ _)) G1.out))
  clear U_27
  have I_35 := Lib.hid (I_28.out.up (Chg.trans (by repeat (first | exact Chg.refl _ _ | apply Chg.drew | apply Chg.drewN | refine Chg.alloc ?_ _)) G1.out))
  clear I_28
  have q0_36 := Chg.cell (Chg.trans (by repeat (first | exact Chg.refl _ _ | apply Chg.drew | apply Chg.drewN | refine Chg.alloc ?_ _)) G1.out) q0_29 id
  clear q0_29
  have q1_37 := Chg.cell (Chg.trans (by repeat (first | exact Chg.refl _ _ | apply Chg.drew | apply Chg.drewN | refine Chg.alloc ?_ _)) G1.out) q1_30 id
  clear q1_30
  have q2_38 := Chg.cell (Chg.trans (by repeat (first | exact Chg.refl _ _ | apply Chg.drew | apply Chg.drewN | refine Chg.alloc ?_ _)) G1.out) q2_31 id
  clear q2_31
  have A_39 := Lib.hid (A_32.out.up (Chg.trans (by repeat (first | exact Chg.refl _ _ | apply Chg.drew | apply Chg.drewN | refine Chg.alloc ?_ _)) G1.out))
  clear A_32
  have O_40 := Lib.hid (HKO.out.up (Chg.trans (by repeat (first | exact Chg.refl _ _ | apply Chg.drew | apply Chg.drewN | refine Chg.alloc ?_ _)) G1.out))
  clear HKO
  clear G1
  have M_41 := Lib.hid (K1.out)
  clear K1
  go_wp2_with fail
  refine (l23Stitches_any _ S _ _ r a (A_39.out.up (by repeat (first | exact Chg.refl _ _ | apply Chg.drew | apply Chg.drewN | refine Chg.alloc ?_ _))) HZ2.out.1 HZ2.out.2.2).mono ?_
  rintro e w42 ⟨v42, rfl, k1, g1⟩
  obtain ⟨A42, c42, rfl, hl42, hc42, -⟩ := k1.shape
  have K1 := Lib.hid k1
  clear k1
  have G1 := Lib.hid g1
  have hz42 := G1.out.size
  clear g1
  have U_43 := Lib.hid (Chg.trans U_34.out (Chg.trans (by repeat (first | exact Chg.refl _ _ | apply Chg.drew | apply Chg.drewN | refine Chg.alloc ?_ _)) G1.out))
  clear U_34
  have I_44 := Lib.hid (I_35.out.up (Chg.trans (by repeat (first | exact Chg.refl _ _ | apply Chg.drew | apply Chg.drewN | refine Chg.alloc ?_ _)) G1.out))
  clear I_35
  have q0_45 := Chg.cell (Chg.trans (by repeat (first | exact Chg.refl _ _ | apply Chg.drew | apply Chg.drewN | refine Chg.alloc ?_ _)) G1.out) q0_36 id
  clear q0_36
  have q1_46 := Chg.cell (Chg.trans (by repeat (first | exact Chg.refl _ _ | apply Chg.drew | apply Chg.drewN | refine Chg.alloc ?_ _)) G1.out) q1_37 id
  clear q1_37
  have q2_47 := Chg.cell (Chg.trans (by repeat (first | exact Chg.refl _ _ | apply Chg.drew | apply Chg.drewN | refine Chg.alloc ?_ _)) G1.out) q2_38 id
  clear q2_38
  have A_48 := Lib.hid (A_39.out.up (Chg.trans (by repeat (first | exact Chg.refl _ _ | apply Chg.drew | apply Chg.drewN | refine Chg.alloc ?_ _)) G1.out))
  clear A_39
  have O_49 := Lib.hid (O_40.out.up (Chg.trans (by repeat (first | exact Chg.refl _ _ | apply Chg.drew | apply Chg.drewN | refine Chg.alloc ?_ _)) G1.out))
  clear O_40
  have M_50 := Lib.hid (M_41.out.up (Chg.trans (by repeat (first | exact Chg.refl _ _ | apply Chg.drew | apply Chg.drewN | refine Chg.alloc ?_ _)) G1.out))
  clear M_41
  clear G1
  have T_51 := Lib.hid (K1.out)
  clear K1
  have HPL := Lib.hid (show (crossL 1 (letL 0 r.xs) ++ movesM r.xs).length ≤ 4000 by have := preM_len hrl; rw [preM_eq] at this; exact this)
  have HL1 := Lib.hid (show (crossL 1 (letL 0 r.xs)).length + (movesM r.xs).length ≤ 1099511627776 by have := HPL.out; rw [List.length_append] at this; omega)
  have HL2 := Lib.hid (show (crossL 1 (letL 0 r.xs) ++ movesM r.xs).length + ((rowTo r ([], a) r.xs.length).1).length ≤ 1099511627776 by have := HPL.out; have h2 := rowTo_len HZ2.out.1 a HZ2.out.2.2; omega)
  have hBw : B ≤ w42.heap.size := by omega
  go_wp2_with (first | (at_builtin; refine wp_append_ops2 (o := ⟨some 41, _, _, _, _, _⟩) rfl _ _ rfl B _ (crossL 1 (letL 0 r.xs)) rfl O_49.out _ _ (movesM r.xs) rfl M_50.out HL1.out ?_ ?_; (focus omega); intro v5 w5 ho1 ho2 ho3 hg1; have HO5 := Lib.hid ho1; have U5 := Lib.hid (Chg.new U_43.out ho2 (fun i hi h2 => by have := HLT.out i h2; omega)); have T5 := Lib.hid (T_51.out.keep ho2 (fun b hb hs h2 => by have := HLT.out b h2; simp only [New] at hs; omega)); have HB5 := Lib.hid ho3; have hz5 := ho2.size; clear ho1 ho2 ho3 hg1) | (at_builtin; refine wp_append_ops2 (o := ⟨some 44, _, _, _, _, _⟩) rfl _ _ rfl B _ (crossL 1 (letL 0 r.xs) ++ movesM r.xs) rfl HO5.out _ _ ((rowTo r ([], a) r.xs.length).1) rfl T5.out HL2.out ?_ ?_; (focus omega); intro v6 w6 ho1 ho2 ho3 hg1; have HO6 := Lib.hid ho1; have U6 := Lib.hid (Chg.new U5.out hg1 (fun i hi => by omega)); clear ho1 ho2 ho3 hg1))
  go_ret2
  exact ⟨_, ret_mi HZ.out.symm, by rw [HO.out, preM_eq]; have := HO6.out.ops; exact this.mono (fun b _ hb => ⟨by have := hb.1; omega, hb.2⟩), U6.out⟩
set_option linter.unusedVariables false in
set_option maxRecDepth 100000 in
set_option maxHeartbeats 8000000 in
theorem RowOps_any (w : World) (S : Nat → Prop) (v : Value) (r : RowM) (h : RowV w S v r) (n a : Int) :
    Calls Try.prog 57 #[v, .int .i64 n, .int .i64 a] w fun e w' => ∃ v', e = .returned (.tuple #[v', .int .i64 (askM r n a)]) ∧ Ops w' (New w.heap.size w'.heap.size) v' (rowOut r n a) ∧ Up w w' := by
  have hii : I64 r.d ∧ I64 r.c := by obtain ⟨_, _, _, h1, h2⟩ := h; exact ⟨h1, h2⟩
  obtain ⟨A, c, rfl, h4, h5, h6⟩ := openRow h
  have U0 := Lib.hid (Chg.refl Nowhere w)
  have HI := Lib.hid h
  have HI4 := Lib.hid h4
  have HII := Lib.hid hii
  clear h4 h hii
  by_cases hz : askM r n a = 0
  rotate_left
  · have HO := Lib.hid (show rowOut r n a = [] from if_neg hz)
    have hz2 : (askM r n a != 0) = true := by simpa using hz
    clear hz
    have U_1 := Lib.hid (Chg.trans U0.out ((Chg.refl Nowhere w).alloc (.cells #[.int .i64 r.d, .int .i64 r.c, .slice A r.xs.length c] 66)))
    clear U0
    have I_2 := Lib.hid (HI.out.up ((Chg.refl Nowhere w).alloc (.cells #[.int .i64 r.d, .int .i64 r.c, .slice A r.xs.length c] 66)))
    clear HI
    have q0_3 := (show (w.alloc (.cells #[.int .i64 r.d, .int .i64 r.c, .slice A r.xs.length c] 66)).cell? ⟨w.heap.size, 0, none⟩ = some (.int .i64 r.d) from cell_new _ _ _ _)
    have q1_4 := (show (w.alloc (.cells #[.int .i64 r.d, .int .i64 r.c, .slice A r.xs.length c] 66)).cell? ⟨w.heap.size, 1, none⟩ = some (.int .i64 r.c) from cell_new _ _ _ _)
    have q2_5 := (show (w.alloc (.cells #[.int .i64 r.d, .int .i64 r.c, .slice A r.xs.length c] 66)).cell? ⟨w.heap.size, 2, none⟩ = some (.slice A r.xs.length c) from cell_new _ _ _ _)
    have hbx6 : w.heap.size < (w.alloc (.cells #[.int .i64 r.d, .int .i64 r.c, .slice A r.xs.length c] 66)).heap.size := by simp
    go_enter Try.func57, Try.ntmps57
    go_wp2_with fail
    refine (rowOpsCode_any _ S _ r n a (I_2.out.up (by repeat (first | exact Chg.refl _ _ | apply Chg.drew | apply Chg.drewN | refine Chg.alloc ?_ _)))).mono ?_
    rintro e w7 ⟨rfl, g1⟩
    have G1 := Lib.hid g1
    have hz7 := G1.out.size
    clear g1
    have U_8 := Lib.hid (Chg.trans U_1.out (Chg.trans (by repeat (first | exact Chg.refl _ _ | apply Chg.drew | apply Chg.drewN | refine Chg.alloc ?_ _)) G1.out))
    clear U_1
    have I_9 := Lib.hid (I_2.out.up (Chg.trans (by repeat (first | exact Chg.refl _ _ | apply Chg.drew | apply Chg.drewN | refine Chg.alloc ?_ _)) G1.out))
    clear I_2
    have q0_10 := Chg.cell (Chg.trans (by repeat (first | exact Chg.refl _ _ | apply Chg.drew | apply Chg.drewN | refine Chg.alloc ?_ _)) G1.out) q0_3 id
    clear q0_3
    have q1_11 := Chg.cell (Chg.trans (by repeat (first | exact Chg.refl _ _ | apply Chg.drew | apply Chg.drewN | refine Chg.alloc ?_ _)) G1.out) q1_4 id
    clear q1_4
    have q2_12 := Chg.cell (Chg.trans (by repeat (first | exact Chg.refl _ _ | apply Chg.drew | apply Chg.drewN | refine Chg.alloc ?_ _)) G1.out) q2_5 id
    clear q2_5
    clear G1
    go_wp2
    go_ret2
    exact ⟨_, rfl, by rw [HO.out]; exact Ops.nil _ _ _ _ (by omega), (Chg.trans U_8.out (by repeat (first | exact Chg.refl _ _ | apply Chg.drew | apply Chg.drewN | refine Chg.alloc ?_ _)))⟩
  have HO := Lib.hid (show rowOut r n a = preM r.xs ++ (rowTo r ([], a) r.xs.length).1 from if_pos hz)
  have HZ := Lib.hid hz
  have HZ2 := Lib.hid (askM_zero hz)
  have hrl := (laid_of (askM_zero hz).1).len
  clear hz
  have U_13 := Lib.hid (Chg.trans U0.out ((Chg.refl Nowhere w).alloc (.cells #[.int .i64 r.d, .int .i64 r.c, .slice A r.xs.length c] 66)))
  clear U0
  have I_14 := Lib.hid (HI.out.up ((Chg.refl Nowhere w).alloc (.cells #[.int .i64 r.d, .int .i64 r.c, .slice A r.xs.length c] 66)))
  clear HI
  have q0_15 := (show (w.alloc (.cells #[.int .i64 r.d, .int .i64 r.c, .slice A r.xs.length c] 66)).cell? ⟨w.heap.size, 0, none⟩ = some (.int .i64 r.d) from cell_new _ _ _ _)
  have q1_16 := (show (w.alloc (.cells #[.int .i64 r.d, .int .i64 r.c, .slice A r.xs.length c] 66)).cell? ⟨w.heap.size, 1, none⟩ = some (.int .i64 r.c) from cell_new _ _ _ _)
  have q2_17 := (show (w.alloc (.cells #[.int .i64 r.d, .int .i64 r.c, .slice A r.xs.length c] 66)).cell? ⟨w.heap.size, 2, none⟩ = some (.slice A r.xs.length c) from cell_new _ _ _ _)
  have hbx18 : w.heap.size < (w.alloc (.cells #[.int .i64 r.d, .int .i64 r.c, .slice A r.xs.length c] 66)).heap.size := by simp
  go_enter Try.func57, Try.ntmps57
  go_wp2_with fail
  refine (rowOpsCode_any _ S _ r n a (I_14.out.up (by repeat (first | exact Chg.refl _ _ | apply Chg.drew | apply Chg.drewN | refine Chg.alloc ?_ _)))).mono ?_
  rintro e w19 ⟨rfl, g1⟩
  have G1 := Lib.hid g1
  have hz19 := G1.out.size
  clear g1
  have U_20 := Lib.hid (Chg.trans U_13.out (Chg.trans (by repeat (first | exact Chg.refl _ _ | apply Chg.drew | apply Chg.drewN | refine Chg.alloc ?_ _)) G1.out))
  clear U_13
  have I_21 := Lib.hid (I_14.out.up (Chg.trans (by repeat (first | exact Chg.refl _ _ | apply Chg.drew | apply Chg.drewN | refine Chg.alloc ?_ _)) G1.out))
  clear I_14
  have q0_22 := Chg.cell (Chg.trans (by repeat (first | exact Chg.refl _ _ | apply Chg.drew | apply Chg.drewN | refine Chg.alloc ?_ _)) G1.out) q0_15 id
  clear q0_15
  have q1_23 := Chg.cell (Chg.trans (by repeat (first | exact Chg.refl _ _ | apply Chg.drew | apply Chg.drewN | refine Chg.alloc ?_ _)) G1.out) q1_16 id
  clear q1_16
  have q2_24 := Chg.cell (Chg.trans (by repeat (first | exact Chg.refl _ _ | apply Chg.drew | apply Chg.drewN | refine Chg.alloc ?_ _)) G1.out) q2_17 id
  clear q2_17
  clear G1
  rw [HZ.out]
  go_wp2_with fail
  refine (rowOps_any _ S _ r a (I_21.out.up (by repeat (first | exact Chg.refl _ _ | apply Chg.drew | apply Chg.drewN | refine Chg.alloc ?_ _))) HZ2.out.1 HZ2.out.2.2).mono ?_
  rintro e w25 ⟨v25, rfl, k1, g1⟩
  have K1 := Lib.hid k1
  clear k1
  have G1 := Lib.hid g1
  have hz25 := G1.out.size
  clear g1
  have U_26 := Lib.hid (Chg.trans U_20.out (Chg.trans (by repeat (first | exact Chg.refl _ _ | apply Chg.drew | apply Chg.drewN | refine Chg.alloc ?_ _)) G1.out))
  clear U_20
  have I_27 := Lib.hid (I_21.out.up (Chg.trans (by repeat (first | exact Chg.refl _ _ | apply Chg.drew | apply Chg.drewN | refine Chg.alloc ?_ _)) G1.out))
  clear I_21
  have q0_28 := Chg.cell (Chg.trans (by repeat (first | exact Chg.refl _ _ | apply Chg.drew | apply Chg.drewN | refine Chg.alloc ?_ _)) G1.out) q0_22 id
  clear q0_22
  have q1_29 := Chg.cell (Chg.trans (by repeat (first | exact Chg.refl _ _ | apply Chg.drew | apply Chg.drewN | refine Chg.alloc ?_ _)) G1.out) q1_23 id
  clear q1_23
  have q2_30 := Chg.cell (Chg.trans (by repeat (first | exact Chg.refl _ _ | apply Chg.drew | apply Chg.drewN | refine Chg.alloc ?_ _)) G1.out) q2_24 id
  clear q2_24
  clear G1
  have K_31 := Lib.hid (K1.out)
  clear K1
  go_wp2
  go_ret2
  exact ⟨_, ret_mi HZ.out.symm, by rw [HO.out]; exact (K_31.out.up (by repeat (first | exact Chg.refl _ _ | apply Chg.drew | apply Chg.drewN | refine Chg.alloc ?_ _))).mono (fun b _ hb => ⟨by have := hb.1; simp at *; omega, hb.2⟩), (Chg.trans U_26.out (by repeat (first | exact Chg.refl _ _ | apply Chg.drew | apply Chg.drewN | refine Chg.alloc ?_ _)))⟩
end Go.Proofs.Ytmimbnpcokfnlaa
