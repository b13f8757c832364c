/- The program's operations of a row to one side: the walk. No condition but room. -/
import Derived.Test.YtnjfhpgmogopnaaGreatRowOps2
namespace Go.Proofs.YtnjfhpgmogopnaaGreat
open Go.ChangeShapes Go.WideShapes Go.ChangeAt Go.RowKit
set_option maxRecDepth 100000 in
set_option maxHeartbeats 16000000 in
theorem rowOps_l (w : World) (S : Nat → Prop) (v : Value) (c : Int) (xs : List Int) (at0 : Int) (h : RowV w S v ⟨(-1), c, xs⟩) (hr : rowCodeM (-1) c xs = 0) (ha : -3 ≤ at0 ∧ at0 ≤ 27) :
    Calls Tryz.prog 54 #[v, .int .i64 at0] w fun e w' => ∃ v', e = .returned (.tuple #[v', .int .i64 (rowTo ⟨(-1), c, xs⟩ ([], at0) xs.length).2]) ∧ Ops w' (New w.heap.size w'.heap.size) v' (preM xs ++ (rowTo ⟨(-1), c, xs⟩ ([], at0) xs.length).1) ∧ Up w w' := by
  obtain ⟨A, cc, rfl, h4, h5, h6⟩ := openRow h
  dsimp only at h4 h5 h6
  have HI := Lib.hid h
  have HI4 := Lib.hid h4
  have U0 := Lib.hid (Chg.refl Nowhere w)
  have HR := Lib.hid (show LaidRow (-1) c xs from laid_of hr)
  have HZ := Lib.hid hr
  have HS := Lib.hid (show stB xs = true from laid_st_results (r := ⟨(-1), c, xs⟩) hr)
  have hn := HR.out.len
  have hcar := HR.out.car
  clear h h4 hr
  have U_1 := Lib.hid (Chg.trans U0.out ((Chg.refl Nowhere w).alloc (.cells #[.int .i64 (-1), .int .i64 c, .slice A xs.length cc] 72)))
  clear U0
  have I_2 := Lib.hid (HI.out.up ((Chg.refl Nowhere w).alloc (.cells #[.int .i64 (-1), .int .i64 c, .slice A xs.length cc] 72)))
  clear HI
  have J_3 := Lib.hid (HI4.out.up ((Chg.refl Nowhere w).alloc (.cells #[.int .i64 (-1), .int .i64 c, .slice A xs.length cc] 72)))
  clear HI4
  have q0_4 := (show (w.alloc (.cells #[.int .i64 (-1), .int .i64 c, .slice A xs.length cc] 72)).cell? ⟨w.heap.size, 0, none⟩ = some (.int .i64 (-1)) from cell_new _ _ _ _)
  have q1_5 := (show (w.alloc (.cells #[.int .i64 (-1), .int .i64 c, .slice A xs.length cc] 72)).cell? ⟨w.heap.size, 1, none⟩ = some (.int .i64 c) from cell_new _ _ _ _)
  have q2_6 := (show (w.alloc (.cells #[.int .i64 (-1), .int .i64 c, .slice A xs.length cc] 72)).cell? ⟨w.heap.size, 2, none⟩ = some (.slice A xs.length cc) from cell_new _ _ _ _)
  have hbx7 : w.heap.size < (w.alloc (.cells #[.int .i64 (-1), .int .i64 c, .slice A xs.length cc] 72)).heap.size := by simp
  go_enter Tryz.func54, Tryz.ntmps54
  go_wp2_with fail
  refine (targets_any _ S _ ⟨(-1), c, xs⟩ (I_2.out.up (by repeat (first | exact Chg.refl _ _ | apply Chg.drew | apply Chg.drewN | refine Chg.alloc ?_ _))) HS.out).mono ?_
  rintro e w8 ⟨v1, v2, v3, rfl, hO, g1⟩
  obtain ⟨T1, e1, he1, -, -, -⟩ := hO.o1.ints.shape
  obtain ⟨T2, e2, he2, -, -, -⟩ := hO.o2.ints.shape
  obtain ⟨T3, e3, he3, -, -, -⟩ := hO.o3.ints.shape
  subst he1 he2 he3
  have X1 := Lib.hid hO.o1.ints
  have X2 := Lib.hid hO.o2.ints
  have X3 := Lib.hid hO.o3.ints
  have G1 := Lib.hid g1
  clear hO g1
  dsimp only at X1 X2 X3
  have U_9 := Lib.hid (Chg.trans U_1.out (Chg.trans (by repeat (first | exact Chg.refl _ _ | apply Chg.drew | apply Chg.drewN | refine Chg.alloc ?_ _)) G1.out))
  clear U_1
  have I_10 := Lib.hid (I_2.out.up (Chg.trans (by repeat (first | exact Chg.refl _ _ | apply Chg.drew | apply Chg.drewN | refine Chg.alloc ?_ _)) G1.out))
  clear I_2
  have J_11 := Lib.hid (J_3.out.up (Chg.trans (by repeat (first | exact Chg.refl _ _ | apply Chg.drew | apply Chg.drewN | refine Chg.alloc ?_ _)) G1.out))
  clear J_3
  have q0_12 := Chg.cell (Chg.trans (by repeat (first | exact Chg.refl _ _ | apply Chg.drew | apply Chg.drewN | refine Chg.alloc ?_ _)) G1.out) q0_4 id
  clear q0_4
  have q1_13 := Chg.cell (Chg.trans (by repeat (first | exact Chg.refl _ _ | apply Chg.drew | apply Chg.drewN | refine Chg.alloc ?_ _)) G1.out) q1_5 id
  clear q1_5
  have q2_14 := Chg.cell (Chg.trans (by repeat (first | exact Chg.refl _ _ | apply Chg.drew | apply Chg.drewN | refine Chg.alloc ?_ _)) G1.out) q2_6 id
  clear q2_6
  clear G1
  go_wp2_with fail
  refine (moveColumns_any _ _ _ _ _ _ _ (X1.out.up (by repeat (first | exact Chg.refl _ _ | apply Chg.drew | apply Chg.drewN | refine Chg.alloc ?_ _))) (X2.out.up (by repeat (first | exact Chg.refl _ _ | apply Chg.drew | apply Chg.drewN | refine Chg.alloc ?_ _)))).mono ?_
  rintro e w15 ⟨v15, rfl, k1, g1⟩
  obtain ⟨A15, c15, rfl, hl15, hc15, -⟩ := k1.shape
  have K1 := Lib.hid k1
  clear k1
  have G1 := Lib.hid g1
  have hz15 := G1.out.size
  clear g1
  have U_16 := Lib.hid (Chg.trans U_9.out (Chg.trans (by repeat (first | exact Chg.refl _ _ | apply Chg.drew | apply Chg.drewN | refine Chg.alloc ?_ _)) G1.out))
  clear U_9
  have I_17 := Lib.hid (I_10.out.up (Chg.trans (by repeat (first | exact Chg.refl _ _ | apply Chg.drew | apply Chg.drewN | refine Chg.alloc ?_ _)) G1.out))
  clear I_10
  have J_18 := Lib.hid (J_11.out.up (Chg.trans (by repeat (first | exact Chg.refl _ _ | apply Chg.drew | apply Chg.drewN | refine Chg.alloc ?_ _)) G1.out))
  clear J_11
  have q0_19 := Chg.cell (Chg.trans (by repeat (first | exact Chg.refl _ _ | apply Chg.drew | apply Chg.drewN | refine Chg.alloc ?_ _)) G1.out) q0_12 id
  clear q0_12
  have q1_20 := Chg.cell (Chg.trans (by repeat (first | exact Chg.refl _ _ | apply Chg.drew | apply Chg.drewN | refine Chg.alloc ?_ _)) G1.out) q1_13 id
  clear q1_13
  have q2_21 := Chg.cell (Chg.trans (by repeat (first | exact Chg.refl _ _ | apply Chg.drew | apply Chg.drewN | refine Chg.alloc ?_ _)) G1.out) q2_14 id
  clear q2_14
  have X1_22 := Lib.hid (X1.out.up (Chg.trans (by repeat (first | exact Chg.refl _ _ | apply Chg.drew | apply Chg.drewN | refine Chg.alloc ?_ _)) G1.out))
  clear X1
  have X2_23 := Lib.hid (X2.out.up (Chg.trans (by repeat (first | exact Chg.refl _ _ | apply Chg.drew | apply Chg.drewN | refine Chg.alloc ?_ _)) G1.out))
  clear X2
  have X3_24 := Lib.hid (X3.out.up (Chg.trans (by repeat (first | exact Chg.refl _ _ | apply Chg.drew | apply Chg.drewN | refine Chg.alloc ?_ _)) G1.out))
  clear X3
  clear G1
  have F_25 := Lib.hid (K1.out)
  clear K1
  clear X1_22
  go_wp2_with fail
  refine (once_any _ _ _ _ _ _ _ (X2_23.out.up (by repeat (first | exact Chg.refl _ _ | apply Chg.drew | apply Chg.drewN | refine Chg.alloc ?_ _))) (X3_24.out.up (by repeat (first | exact Chg.refl _ _ | apply Chg.drew | apply Chg.drewN | refine Chg.alloc ?_ _))) (by simp [togL, movL]) (by have := trL_len_le (xs := xs) (j := xs.length) hn; rw [List.take_length] at this; simp [togL]; omega)).mono ?_
  rintro e w26 ⟨u1, u2, rfl, k1, k2, g1⟩
  obtain ⟨B1, b1, rfl, -, -, -⟩ := k1.shape
  obtain ⟨B2, b2, rfl, -, -, -⟩ := k2.shape
  have Y1 := Lib.hid k1
  have Y2 := Lib.hid k2
  have G1 := Lib.hid g1
  clear k1 k2 g1
  have U_27 := Lib.hid (Chg.trans U_16.out (Chg.trans (by repeat (first | exact Chg.refl _ _ | apply Chg.drew | apply Chg.drewN | refine Chg.alloc ?_ _)) G1.out))
  clear U_16
  have I_28 := Lib.hid (I_17.out.up (Chg.trans (by repeat (first | exact Chg.refl _ _ | apply Chg.drew | apply Chg.drewN | refine Chg.alloc ?_ _)) G1.out))
  clear I_17
  have J_29 := Lib.hid (J_18.out.up (Chg.trans (by repeat (first | exact Chg.refl _ _ | apply Chg.drew | apply Chg.drewN | refine Chg.alloc ?_ _)) G1.out))
  clear J_18
  have q0_30 := Chg.cell (Chg.trans (by repeat (first | exact Chg.refl _ _ | apply Chg.drew | apply Chg.drewN | refine Chg.alloc ?_ _)) G1.out) q0_19 id
  clear q0_19
  have q1_31 := Chg.cell (Chg.trans (by repeat (first | exact Chg.refl _ _ | apply Chg.drew | apply Chg.drewN | refine Chg.alloc ?_ _)) G1.out) q1_20 id
  clear q1_20
  have q2_32 := Chg.cell (Chg.trans (by repeat (first | exact Chg.refl _ _ | apply Chg.drew | apply Chg.drewN | refine Chg.alloc ?_ _)) G1.out) q2_21 id
  clear q2_21
  have X2_33 := Lib.hid (X2_23.out.up (Chg.trans (by repeat (first | exact Chg.refl _ _ | apply Chg.drew | apply Chg.drewN | refine Chg.alloc ?_ _)) G1.out))
  clear X2_23
  have X3_34 := Lib.hid (X3_24.out.up (Chg.trans (by repeat (first | exact Chg.refl _ _ | apply Chg.drew | apply Chg.drewN | refine Chg.alloc ?_ _)) G1.out))
  clear X3_24
  have F_35 := Lib.hid (F_25.out.up (Chg.trans (by repeat (first | exact Chg.refl _ _ | apply Chg.drew | apply Chg.drewN | refine Chg.alloc ?_ _)) G1.out))
  clear F_25
  clear G1
  clear X2_33
  clear X3_34
  go_wp2_with fail
  refine (moveColumns_any _ _ _ _ _ _ _ (Y1.out.up (by repeat (first | exact Chg.refl _ _ | apply Chg.drew | apply Chg.drewN | refine Chg.alloc ?_ _))) (Y2.out.up (by repeat (first | exact Chg.refl _ _ | apply Chg.drew | apply Chg.drewN | refine Chg.alloc ?_ _)))).mono ?_
  rintro e w36 ⟨v36, rfl, k1, g1⟩
  obtain ⟨A36, c36, rfl, hl36, hc36, -⟩ := k1.shape
  have K1 := Lib.hid k1
  clear k1
  have G1 := Lib.hid g1
  have hz36 := G1.out.size
  clear g1
  have U_37 := Lib.hid (Chg.trans U_27.out (Chg.trans (by repeat (first | exact Chg.refl _ _ | apply Chg.drew | apply Chg.drewN | refine Chg.alloc ?_ _)) G1.out))
  clear U_27
  have I_38 := Lib.hid (I_28.out.up (Chg.trans (by repeat (first | exact Chg.refl _ _ | apply Chg.drew | apply Chg.drewN | refine Chg.alloc ?_ _)) G1.out))
  clear I_28
  have J_39 := Lib.hid (J_29.out.up (Chg.trans (by repeat (first | exact Chg.refl _ _ | apply Chg.drew | apply Chg.drewN | refine Chg.alloc ?_ _)) G1.out))
  clear J_29
  have q0_40 := Chg.cell (Chg.trans (by repeat (first | exact Chg.refl _ _ | apply Chg.drew | apply Chg.drewN | refine Chg.alloc ?_ _)) G1.out) q0_30 id
  clear q0_30
  have q1_41 := Chg.cell (Chg.trans (by repeat (first | exact Chg.refl _ _ | apply Chg.drew | apply Chg.drewN | refine Chg.alloc ?_ _)) G1.out) q1_31 id
  clear q1_31
  have q2_42 := Chg.cell (Chg.trans (by repeat (first | exact Chg.refl _ _ | apply Chg.drew | apply Chg.drewN | refine Chg.alloc ?_ _)) G1.out) q2_32 id
  clear q2_32
  have F_43 := Lib.hid (F_35.out.up (Chg.trans (by repeat (first | exact Chg.refl _ _ | apply Chg.drew | apply Chg.drewN | refine Chg.alloc ?_ _)) G1.out))
  clear F_35
  have Y1_44 := Lib.hid (Y1.out.up (Chg.trans (by repeat (first | exact Chg.refl _ _ | apply Chg.drew | apply Chg.drewN | refine Chg.alloc ?_ _)) G1.out))
  clear Y1
  have Y2_45 := Lib.hid (Y2.out.up (Chg.trans (by repeat (first | exact Chg.refl _ _ | apply Chg.drew | apply Chg.drewN | refine Chg.alloc ?_ _)) G1.out))
  clear Y2
  clear G1
  have M_46 := Lib.hid (K1.out)
  clear K1
  clear Y1_44
  clear Y2_45
  go_wp2_with fail
  refine (crossingOps_any _ S _ ⟨(-1), c, xs⟩ (I_38.out.up (by repeat (first | exact Chg.refl _ _ | apply Chg.drew | apply Chg.drewN | refine Chg.alloc ?_ _))) HZ.out).mono ?_
  rintro e w47 ⟨v47, rfl, k1, g1⟩
  obtain ⟨A47, c47, rfl, hl47, hc47, -⟩ := k1.shape
  have K1 := Lib.hid k1
  clear k1
  have G1 := Lib.hid g1
  have hz47 := G1.out.size
  clear g1
  have U_48 := Lib.hid (Chg.trans U_37.out (Chg.trans (by repeat (first | exact Chg.refl _ _ | apply Chg.drew | apply Chg.drewN | refine Chg.alloc ?_ _)) G1.out))
  clear U_37
  have I_49 := Lib.hid (I_38.out.up (Chg.trans (by repeat (first | exact Chg.refl _ _ | apply Chg.drew | apply Chg.drewN | refine Chg.alloc ?_ _)) G1.out))
  clear I_38
  have J_50 := Lib.hid (J_39.out.up (Chg.trans (by repeat (first | exact Chg.refl _ _ | apply Chg.drew | apply Chg.drewN | refine Chg.alloc ?_ _)) G1.out))
  clear J_39
  have q0_51 := Chg.cell (Chg.trans (by repeat (first | exact Chg.refl _ _ | apply Chg.drew | apply Chg.drewN | refine Chg.alloc ?_ _)) G1.out) q0_40 id
  clear q0_40
  have q1_52 := Chg.cell (Chg.trans (by repeat (first | exact Chg.refl _ _ | apply Chg.drew | apply Chg.drewN | refine Chg.alloc ?_ _)) G1.out) q1_41 id
  clear q1_41
  have q2_53 := Chg.cell (Chg.trans (by repeat (first | exact Chg.refl _ _ | apply Chg.drew | apply Chg.drewN | refine Chg.alloc ?_ _)) G1.out) q2_42 id
  clear q2_42
  have F_54 := Lib.hid (F_43.out.up (Chg.trans (by repeat (first | exact Chg.refl _ _ | apply Chg.drew | apply Chg.drewN | refine Chg.alloc ?_ _)) G1.out))
  clear F_43
  have M_55 := Lib.hid (M_46.out.up (Chg.trans (by repeat (first | exact Chg.refl _ _ | apply Chg.drew | apply Chg.drewN | refine Chg.alloc ?_ _)) G1.out))
  clear M_46
  clear G1
  have K_56 := Lib.hid (K1.out)
  clear K1
  have UA := U_48
  have QA := q0_51
  have QB := q1_52
  have QC := q2_53
  have JA := J_50
  clear U_48
  clear J_50
  have hpl := preM_len (xs := xs) hn
  have hp1 := letL_length xs 0
  have HP := Lib.hid (show (crossL 1 (letL 0 xs)).length + (colsOut (ownsL (trL 0 0 xs)) (togL (trL 0 0 xs))).length + (colsOut (onceL (togL (trL 0 0 xs)) (togL (trL 0 0 xs)) (togL (trL 0 0 xs)).length) (onceL (togL (trL 0 0 xs)) (movL (trL 0 0 xs)) (togL (trL 0 0 xs)).length)).length ≤ 4000 by have := hpl; unfold preM at this; rw [List.length_append, List.length_append] at this; exact this)
  go_wp2_with fail
  refine (concatOps_own _ (fun _ => True) (fun _ => True) _ [_, _, _] [crossL 1 (letL 0 xs), colsOut (ownsL (trL 0 0 xs)) (togL (trL 0 0 xs)), colsOut (onceL (togL (trL 0 0 xs)) (togL (trL 0 0 xs)) (togL (trL 0 0 xs)).length) (onceL (togL (trL 0 0 xs)) (movL (trL 0 0 xs)) (togL (trL 0 0 xs)).length)] rfl (Raw.of_block (heap_new_at rfl) rfl trivial rfl (by simp) (by omega)) ?_ (by have := HP.out; simp only [sumLen, List.length_cons, List.length_nil] at *; simp at *; omega)).mono ?_
  · intro i u y hu hy
    match i, hu, hy with
    | 0, hu, hy => injection hu with hu; injection hy with hy; subst hu hy; exact (K_56.out.alloc' _).mono fun _ _ _ => trivial
    | 1, hu, hy => injection hu with hu; injection hy with hy; subst hu hy; exact (F_54.out.alloc' _).mono fun _ _ _ => trivial
    | 2, hu, hy => injection hu with hu; injection hy with hy; subst hu hy; exact (M_55.out.alloc' _).mono fun _ _ _ => trivial
    | i + 3, hu, hy => simp at hu
  clear K_56
  clear F_54
  clear M_55
  rintro e wc ⟨vc, rfl, kc, gc⟩
  have VC := Lib.hid (show Up w47 wc from Chg.trans (by repeat (first | exact Chg.refl _ _ | apply Chg.drew | apply Chg.drewN | refine Chg.alloc ?_ _)) gc)
  have GC := Lib.hid gc
  have OCL := Lib.hid (show ∀ g, vc.ownBlock = some g → g < wc.heap.size from fun g hg => (kc.lt hg).2)
  have OC := Lib.hid (show OwnO wc w47.heap.size vc (preM xs) from (by have := OwnO.lower kc (b2 := w47.heap.size) (by simp); simpa [preM] using this))
  clear kc gc
  have hz0 := VC.out.size
  have I_57 := Lib.hid (I_49.out.up (Chg.trans (by repeat (first | exact Chg.refl _ _ | apply Chg.drew | apply Chg.drewN | refine Chg.alloc ?_ _)) GC.out))
  clear I_49
  have q0_58 := Chg.cell (Chg.trans (by repeat (first | exact Chg.refl _ _ | apply Chg.drew | apply Chg.drewN | refine Chg.alloc ?_ _)) GC.out) q0_51 id
  clear q0_51
  have q1_59 := Chg.cell (Chg.trans (by repeat (first | exact Chg.refl _ _ | apply Chg.drew | apply Chg.drewN | refine Chg.alloc ?_ _)) GC.out) q1_52 id
  clear q1_52
  have q2_60 := Chg.cell (Chg.trans (by repeat (first | exact Chg.refl _ _ | apply Chg.drew | apply Chg.drewN | refine Chg.alloc ?_ _)) GC.out) q2_53 id
  clear q2_53
  clear GC
  go_wp2_with fail
  refine (results_D _ S _ (-1) c xs (I_57.out.up (by repeat (first | exact Chg.refl _ _ | apply Chg.drew | apply Chg.drewN | refine Chg.alloc ?_ _))) HS.out).mono ?_
  rintro e w61 ⟨v61, rfl, k1, g1⟩
  obtain ⟨A61, c61, rfl, hl61, hc61, -⟩ := k1.shape
  have K1 := Lib.hid k1
  clear k1
  have G1 := Lib.hid g1
  have hz61 := G1.out.size
  clear g1
  have I_62 := Lib.hid (I_57.out.up (Chg.trans (by repeat (first | exact Chg.refl _ _ | apply Chg.drew | apply Chg.drewN | refine Chg.alloc ?_ _)) G1.out))
  clear I_57
  have q0_63 := Chg.cell (Chg.trans (by repeat (first | exact Chg.refl _ _ | apply Chg.drew | apply Chg.drewN | refine Chg.alloc ?_ _)) G1.out) q0_58 id
  clear q0_58
  have q1_64 := Chg.cell (Chg.trans (by repeat (first | exact Chg.refl _ _ | apply Chg.drew | apply Chg.drewN | refine Chg.alloc ?_ _)) G1.out) q1_59 id
  clear q1_59
  have q2_65 := Chg.cell (Chg.trans (by repeat (first | exact Chg.refl _ _ | apply Chg.drew | apply Chg.drewN | refine Chg.alloc ?_ _)) G1.out) q2_60 id
  clear q2_60
  have V_66 := Lib.hid (Chg.trans VC.out (Chg.trans (by repeat (first | exact Chg.refl _ _ | apply Chg.drew | apply Chg.drewN | refine Chg.alloc ?_ _)) G1.out))
  clear VC
  have O_67 := Lib.hid (OC.out.up (Chg.trans (by repeat (first | exact Chg.refl _ _ | apply Chg.drew | apply Chg.drewN | refine Chg.alloc ?_ _)) G1.out))
  clear OC
  clear G1
  have SS_68 := Lib.hid (K1.out)
  clear K1
  have HSS := Lib.hid (SSPart.of (show IntSS w61 (New wc.heap.size w61.heap.size) _ _ from SS_68.out) (fun _ => True))
  clear SS_68
  skip
  go_wp2_with fail
  refine (order_D _ S _ (-1) c xs (I_62.out.up (by repeat (first | exact Chg.refl _ _ | apply Chg.drew | apply Chg.drewN | refine Chg.alloc ?_ _))) (.inr rfl) hn).mono ?_
  rintro e w69 ⟨v69, rfl, k1, g1⟩
  obtain ⟨A69, c69, rfl, hl69, hc69, -⟩ := k1.shape
  have K1 := Lib.hid k1
  clear k1
  have G1 := Lib.hid g1
  have hz69 := G1.out.size
  clear g1
  have I_70 := Lib.hid (I_62.out.up (Chg.trans (by repeat (first | exact Chg.refl _ _ | apply Chg.drew | apply Chg.drewN | refine Chg.alloc ?_ _)) G1.out))
  clear I_62
  have q0_71 := Chg.cell (Chg.trans (by repeat (first | exact Chg.refl _ _ | apply Chg.drew | apply Chg.drewN | refine Chg.alloc ?_ _)) G1.out) q0_63 id
  clear q0_63
  have q1_72 := Chg.cell (Chg.trans (by repeat (first | exact Chg.refl _ _ | apply Chg.drew | apply Chg.drewN | refine Chg.alloc ?_ _)) G1.out) q1_64 id
  clear q1_64
  have q2_73 := Chg.cell (Chg.trans (by repeat (first | exact Chg.refl _ _ | apply Chg.drew | apply Chg.drewN | refine Chg.alloc ?_ _)) G1.out) q2_65 id
  clear q2_65
  have V_74 := Lib.hid (Chg.trans V_66.out (Chg.trans (by repeat (first | exact Chg.refl _ _ | apply Chg.drew | apply Chg.drewN | refine Chg.alloc ?_ _)) G1.out))
  clear V_66
  have O_75 := Lib.hid (O_67.out.up (Chg.trans (by repeat (first | exact Chg.refl _ _ | apply Chg.drew | apply Chg.drewN | refine Chg.alloc ?_ _)) G1.out))
  clear O_67
  have SS_76 := Lib.hid (HSS.out.up (Chg.trans (by repeat (first | exact Chg.refl _ _ | apply Chg.drew | apply Chg.drewN | refine Chg.alloc ?_ _)) G1.out))
  clear HSS
  clear G1
  have D_77 := Lib.hid (K1.out)
  clear K1
  clear I_70
  have HOL := Lib.hid (ordM_length (-1) xs.length)
  have HLM := Lib.hid (listsM_length madeK 0 xs)
  have HK0 := Lib.hid (show RowO w47 wc.heap.size w61.heap.size w69.heap.size w69 vc (preM xs) (.slice A61 (listsM madeK 0 xs).length c61) (fun _ => True) (listsM madeK 0 xs) (.slice A69 (ordM (-1) xs.length).length c69) (ordM (-1) xs.length) from ⟨O_75.out, fun g hg => .inl (OCL.out g hg), SS_76.out, D_77.out, V_74.out, hz0, ⟨by simpa using hz61, by simpa using hz69⟩, Nat.le_refl _⟩)
  go_wp2
  go_loopw [1, 13, 16, 17, 19, 20, 53] (fun a v _ _ _ _ i wr => ∃ t : Nat, t ≤ xs.length ∧ i = .int .i64 t ∧ a = .int .i64 (rowTo ⟨(-1), c, xs⟩ (preM xs, at0) t).2 ∧ Hid (RowO w47 wc.heap.size w61.heap.size w69.heap.size wr v (rowTo ⟨(-1), c, xs⟩ (preM xs, at0) t).1 (.slice A61 (listsM madeK 0 xs).length c61) (fun k => ∀ s, s < t → ordI (-1) xs.length s ≠ k) (listsM madeK 0 xs) (.slice A69 (ordM (-1) xs.length).length c69) (ordM (-1) xs.length))) (fun _ _ _ _ _ _ i _ => xs.length - (intOf i).toNat)
  case atStart => exact ⟨0, by omega, rfl, rfl, HK0.out.less (fun _ _ => trivial)⟩
  clear HK0
  case round =>
    obtain ⟨t, ht, rfl, rfl, hk⟩ := hrel
    by_cases hlt : t < xs.length
    rotate_left
    · obtain rfl : t = xs.length := by omega
      have hjl : ¬ ((xs.length : Int) < (ordM (-1) xs.length).length) := by rw [HOL.out]; omega
      have HX := Lib.hid (rowTo_pre ⟨(-1), c, xs⟩ (preM xs) at0 xs.length)
      go_wp2
      go_ret2
      exact ⟨_, ret_mi (by rw [HX.out]), by have := hk.out.o.ops; rw [HX.out] at this; exact this.mono (fun b _ hb => ⟨by have := hb.1; have := UA.out.size; omega, hb.2⟩), Chg.trans UA.out hk.out.g⟩
    have hto : t < (ordM (-1) xs.length).length := by rw [HOL.out]; exact hlt
    have htoi : (t : Int) < (ordM (-1) xs.length).length := by omega
    obtain ⟨ob, oo, oA, -, oc⟩ := hk.out.d.ix hto
    subst oA
    have fo := oc t hto
    rw [ix_eq hto, ordI_val hlt hto] at fo
    clear oc
    obtain ⟨j, hjj⟩ : ∃ j, ordI (-1) xs.length t = j := ⟨_, rfl⟩
    have hj : j < xs.length := by rw [← hjj]; exact ordI_lt hlt
    rw [hjj] at fo
    have HJJ := Lib.hid hjj
    have hj2 : j < (listsM madeK 0 xs).length := by rw [HLM.out]; exact hj
    have hj2i : (j : Int) < (listsM madeK 0 xs).length := by omega
    have hji : (j : Int) < xs.length := by omega
    obtain ⟨b, o, c', B, ci, Qj, he, g3, k3, h31, h32, hQ, hrest⟩ := hk.out.s.at_ hj2 (by intro s hs he; exact ordI_ne hlt (by omega) (by omega) (he.trans HJJ.out.symm))
    obtain ⟨rfl, rfl⟩ : A61 = some ⟨b, o, none⟩ ∧ c61 = c' := by simpa using he
    clear he hjj
    have hG2 := listsM_get madeK 0 xs j hj
    rw [Int.zero_add] at hG2
    rw [hG2] at g3 k3 h31
    clear hG2
    obtain ⟨L, hL⟩ : ∃ L, colsOf ⟨(-1), c, xs⟩ j = L := ⟨_, rfl⟩
    have HL := Lib.hid hL
    have HC := Lib.hid (show ∀ c ∈ L, 0 ≤ c ∧ c ≤ 7 from (by rw [← hL]; exact colsOf_in (r := ⟨(-1), c, xs⟩) HR.out hj))
    obtain ⟨M, hM⟩ : ∃ M, countM (sumF madeK (xs.take j)) (madeK xs[j]) = M := ⟨_, rfl⟩
    have hL0 : M.reverse = L := by rw [← hL, ← hM]; unfold colsOf; rw [if_neg (by dsimp only; omega)]; dsimp only; rw [ix_eq hj]
    rw [hM] at g3 k3 h31
    have hML : M.length = L.length := by rw [← hL0, List.length_reverse]
    rw [hML] at g3 k3 h31
    have fa := Chg.cell hk.out.g QA id
    have HK3 := Lib.hid k3
    have HQ := Lib.hid hQ
    have HREST := Lib.hid hrest
    clear k3 hQ hrest hL
    have HL0 := Lib.hid hL0
    clear hL0 hML hM
    go_wp2_with fail
    refine (reverse_any _ Qj _ M (HK3.out.up (by repeat (first | exact Chg.refl _ _ | apply Chg.drew | apply Chg.drewN | refine Chg.alloc ?_ _)))).mono ?_
    rintro e w9 ⟨rfl, gq, kq⟩
    rw [HL0.out] at kq
    have HKR := Lib.hid (hk.out.turn gq HQ.out (HREST.out _ gq))
    have HK9 := Lib.hid kq
    clear gq kq hk HK3 HREST g3 fa fo
    go_wp2
    go_loopw [1, 13, 19, 20, 68] (fun a v _ _ i wq => ∃ q : Nat, q ≤ L.length ∧ i = .int .i64 q ∧ a = .int .i64 (stT ⟨(-1), c, xs⟩ (preM xs, at0) t q).2 ∧ Hid (RowO w47 wc.heap.size w61.heap.size w69.heap.size wq v (stT ⟨(-1), c, xs⟩ (preM xs, at0) t q).1 (.slice (some ⟨b, o, none⟩) (listsM madeK 0 xs).length c61) (fun k => (∀ s, s < t → ordI (-1) xs.length s ≠ k) ∧ k ≠ j) (listsM madeK 0 xs) (.slice (some ⟨ob, oo, none⟩) (ordM (-1) xs.length).length c69) (ordM (-1) xs.length)) ∧ Hid (Ints wq (New wc.heap.size w61.heap.size) (.slice B L.length ci) L)) (fun _ _ _ _ i _ => L.length - (intOf i).toNat)
    case atStart => exact ⟨0, by omega, rfl, by rw [stT_zero], by rw [stT_zero]; exact HKR.out, HK9.out.mono (fun b _ hb => HQ.out b hb)⟩
    clear HK9 HKR
    case round =>
      obtain ⟨q, hq, rfl, rfl, hk, hL1⟩ := hrel
      by_cases hlq : q < L.length
      rotate_left
      · obtain rfl : q = L.length := by omega
        have HA := Lib.hid (show (stT ⟨(-1), c, xs⟩ (preM xs, at0) t L.length) = rowTo ⟨(-1), c, xs⟩ (preM xs, at0) (t + 1) from stT_all ⟨(-1), c, xs⟩ (preM xs, at0) t HJJ.out HL.out rfl)
        go_wp2
        go_roundw
        case rel => exact ⟨t + 1, by omega, by go_num, by rw [HA.out], by rw [← HA.out]; exact hk.out.less (fun k h => ⟨fun s hs => h s (by omega), fun hkj => h t (by omega) (HJJ.out.trans hkj.symm)⟩)⟩
        case measure => simp [intOf]; omega
      obtain ⟨zb, zo, zA, -, zc⟩ := hL1.out.ix hlq
      subst zA
      have zf := zc q hlq
      rw [ix_eq hlq] at zf
      have hcb := HC.out L[q] (List.getElem_mem hlq)
      obtain ⟨sb, so, sA, hsb, sc⟩ := JA.out.ix hj
      subst sA
      have SC := Lib.hid (sc j hj)
      have hxj := ix_eq hj
      have fs := Chg.cell hk.out.g SC.out id
      rw [hxj] at fs
      have fa := Chg.cell hk.out.g QA id
      have fb := Chg.cell hk.out.g QB id
      have fc := Chg.cell hk.out.g QC id
      clear zc sc
      have HST := Lib.hid (show (-3 ≤ (stT ⟨(-1), c, xs⟩ (preM xs, at0) t q).2 ∧ (stT ⟨(-1), c, xs⟩ (preM xs, at0) t q).2 ≤ 27) ∧ (stT ⟨(-1), c, xs⟩ (preM xs, at0) t q).1.length ≤ (preM xs).length + 16 * t + 16 from stT_bd (r := ⟨(-1), c, xs⟩) HR.out (preM xs, at0) ha t hlt q)
      have hkb : 1 ≤ xs[j] ∧ xs[j] ≤ 11 := by have := HR.out.kind xs[j] (List.getElem_mem hj); unfold kindB at this; simpa [inB] using this
      by_cases h7 : xs[j] = 7
      · have h7d : (xs[j] == 7) = true := by simpa using h7
        have HS7 := Lib.hid (show (stT ⟨(-1), c, xs⟩ (preM xs, at0) t (q + 1)) = (stT ⟨(-1), c, xs⟩ (preM xs, at0) t q) from stT_skip ⟨(-1), c, xs⟩ (preM xs, at0) t q HJJ.out HL.out hxj h7 hlq)
        clear h7
        go_wp2
        go_roundw
        case rel => exact ⟨q + 1, by omega, by go_num, by rw [HS7.out], by rw [HS7.out]; exact hk.out.up (by repeat (first | exact Chg.refl _ _ | apply Chg.drew | apply Chg.drewN | refine Chg.alloc ?_ _)), hL1.out.up (by repeat (first | exact Chg.refl _ _ | apply Chg.drew | apply Chg.drewN | refine Chg.alloc ?_ _))⟩
        case measure => simp [intOf]; omega
      have h7d : (xs[j] == 7) = false := by simpa using h7
      have HGO := Lib.hid (show (stT ⟨(-1), c, xs⟩ (preM xs, at0) t (q + 1)) = ((stT ⟨(-1), c, xs⟩ (preM xs, at0) t q).1 ++ (carryM (stT ⟨(-1), c, xs⟩ (preM xs, at0) t q).2 (2 * L[q] + 1) (-1) c ++ stitchM xs[j] (2 * L[q] + 1) (-1) c), 2 * L[q] + 1 + ((-1) + 1) / 2) from stT_go ⟨(-1), c, xs⟩ (preM xs, at0) t q HJJ.out HL.out hxj h7 hlq)
      have hpl := preM_len (xs := xs) hn
      have HL1 := Lib.hid (show (stT ⟨(-1), c, xs⟩ (preM xs, at0) t q).1.length + (carryM (stT ⟨(-1), c, xs⟩ (preM xs, at0) t q).2 (2 * L[q] + 1) (-1) c).length ≤ 1099511627776 by have := HST.out; have := carryM_len (stT ⟨(-1), c, xs⟩ (preM xs, at0) t q).2 (2 * L[q] + 1) (-1) c; omega)
      have HL2 := Lib.hid (show ((stT ⟨(-1), c, xs⟩ (preM xs, at0) t q).1 ++ carryM (stT ⟨(-1), c, xs⟩ (preM xs, at0) t q).2 (2 * L[q] + 1) (-1) c).length + (stitchM xs[j] (2 * L[q] + 1) (-1) c).length ≤ 1099511627776 by have := HST.out; have := carryM_len (stT ⟨(-1), c, xs⟩ (preM xs, at0) t q).2 (2 * L[q] + 1) (-1) c; have := stitchM_len xs[j] (2 * L[q] + 1) (-1) c; rw [List.length_append]; omega)
      have hsz := hk.out.g.size
      clear h7 hpl hxj
      skip
      go_wp2_with fail
      refine (needleOf_any _ _ ⟨by omega, by omega⟩).mono ?_
      rintro e w' ⟨rfl, rfl⟩
      go_wp2_with fail
      refine (carryTo_any _ (stT ⟨(-1), c, xs⟩ (preM xs, at0) t q).2 (2 * L[q] + 1) (-1) c (by have := HST.out; omega) (by omega) (.inr rfl) hcar).mono ?_
      rintro e w2 ⟨v2, rfl, k2, g2⟩
      obtain ⟨A2, c2, rfl, hl2, hc2, -⟩ := k2.shape
      have G2 := Lib.hid (Chg.trans (show Up wr _ from (by repeat (first | exact Chg.refl _ _ | apply Chg.drew | apply Chg.drewN | refine Chg.alloc ?_ _))) g2)
      have HK1 := Lib.hid (hk.out.up G2.out)
      have HI1 := Lib.hid (hL1.out.up G2.out)
      have K2 := Lib.hid k2
      have hsz2 := G2.out.size
      clear k2 g2 G2 hk hL1 fs fa fb fc zf
      go_wp2_with (first | (at_builtin; refine wp_append_ops2 rfl _ _ rfl w47.heap.size _ (stT ⟨(-1), c, xs⟩ (preM xs, at0) t q).1 rfl HK1.out.o _ _ (carryM (stT ⟨(-1), c, xs⟩ (preM xs, at0) t q).2 (2 * L[q] + 1) (-1) c) rfl K2.out HL1.out ?_ ?_; (first | omega | (simp; omega)); intro v3 w3 ho1 ho2 ho3 _; have HK2 := Lib.hid (HK1.out.app ho1 ho2 ho3); have HI2 := Lib.hid (HK1.out.ints ho2 HI1.out); have hsz3 := ho2.size; clear ho1 ho2 ho3 HK1 HI1 K2))
      have fs := Chg.cell HK2.out.g SC.out id
      rw [ix_eq hj] at fs
      have fa := Chg.cell HK2.out.g QA id
      have fb := Chg.cell HK2.out.g QB id
      have fc := Chg.cell HK2.out.g QC id
      have hbw := cell_lt QA
      have hsz4 : w47.heap.size ≤ w3.heap.size := HK2.out.g.size
      go_region_held3 (fun w' => w'.cell? ⟨sb, so + j, none⟩ = some (.int .i64 xs[j]) ∧ w'.cell? ⟨w.heap.size, 0, none⟩ = some (.int .i64 (-1)) ∧ w'.cell? ⟨w.heap.size, 1, none⟩ = some (.int .i64 c) ∧ w'.cell? ⟨w.heap.size, 2, none⟩ = some (.slice (some ⟨sb, so, none⟩) xs.length cc))
        (first | (exact ⟨fs, fa, fb, fc⟩) | (obtain ⟨q0, q1, q2, q3⟩ : (World.cell? _ _ = _ ∧ World.cell? _ _ = _ ∧ World.cell? _ _ = _ ∧ World.cell? _ _ = _) := (by assumption); exact ⟨Chg.cell g1 q0 id, Chg.cell g1 q1 id, Chg.cell g1 q2 id, Chg.cell g1 q3 id⟩) | (obtain ⟨q0, q1, q2, q3⟩ : (World.cell? _ _ = _ ∧ World.cell? _ _ = _ ∧ World.cell? _ _ = _ ∧ World.cell? _ _ = _) := (by assumption); exact ⟨Chg.cell hg1 q0 (by simp only []; omega), Chg.cell hg1 q1 (by simp only []; omega), Chg.cell hg1 q2 (by simp only []; omega), Chg.cell hg1 q3 (by simp only []; omega)⟩))
        (first | (go_at_call 87; refine (stitchOps_any _ xs[j] (2 * L[q] + 1) (-1) c hkb (by omega) (.inr rfl) hcar).mono ?_; rintro e w5 ⟨v5, rfl, k1, g1⟩; obtain ⟨A5, c5, rfl, hl5, hc5, -⟩ := k1.shape; have K5 := Lib.hid k1; have G5 := Lib.hid (Chg.trans (show Up w3 _ from (by repeat (first | exact Chg.refl _ _ | apply Chg.drew | apply Chg.drewN | refine Chg.alloc ?_ _))) g1); have HK3 := Lib.hid (HK2.out.up G5.out); have HI3 := Lib.hid (HI2.out.up G5.out); have hsz5 := HK3.out.g.size; clear k1) | (refine step_appendOps2 (by rfl) _ _ (by rfl) w47.heap.size _ ((stT ⟨(-1), c, xs⟩ (preM xs, at0) t q).1 ++ carryM (stT ⟨(-1), c, xs⟩ (preM xs, at0) t q).2 (2 * L[q] + 1) (-1) c) (by rfl) HK3.out.o _ _ (stitchM xs[j] (2 * L[q] + 1) (-1) c) (by rfl) K5.out HL2.out ?_ ?_; (first | omega | (simp; omega)); intro v6 w6 ho1 ho2 ho3 hg1; have HK4 := Lib.hid (HK3.out.app ho1 ho2 ho3); have HI4 := Lib.hid (HK3.out.ints ho2 HI3.out); clear ho1 ho2 ho3))
      clear fs fb fc hg1 g1
      have fa := Chg.cell HK4.out.g QA id
      go_wp2
      go_roundw
      case rel => exact ⟨q + 1, by omega, by go_num, by rw [HGO.out]; go_num, by rw [HGO.out]; simpa only [List.append_assoc] using HK4, HI4⟩
      case measure => simp [intOf]; omega
end Go.Proofs.YtnjfhpgmogopnaaGreat
