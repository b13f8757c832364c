/- CarrierAfter on both sides. No condition but room. -/
import Derived.Test.YtmimbnpcokfnlaaRowOps3
import Derived.Test.YtmimbnpcokfnlaaRowOps4
import Derived.Test.YtmimbnpcokfnlaaRowOps5
import Derived.Test.YtmimbnpcokfnlaaRowOps6
namespace Go.Proofs.Ytmimbnpcokfnlaa
open Go.ChangeShapes Go.WideShapes Go.ChangeAt Go.RowKit
theorem rowOps_any (w : World) (S : Nat → Prop) (v : Value) (r : RowM) (at0 : Int) (h : RowV w S v r) (hr : rowCodeM r.d r.c r.xs = 0) (ha : -3 ≤ at0 ∧ at0 ≤ 27) :
    Calls Try.prog 123 #[v, .int .i64 at0] w fun e w' => ∃ v', e = .returned (.tuple #[v', .int .i64 (rowTo r ([], at0) r.xs.length).2]) ∧ Ops w' (New w.heap.size w'.heap.size) v' (preM r.xs ++ (rowTo r ([], at0) r.xs.length).1) ∧ Up w w' := by
  obtain ⟨d, c, xs⟩ := r
  rcases (laid_of hr).dir with hd | hd
  · obtain rfl : d = 1 := hd
    exact rowOps_r w S v c xs at0 h hr ha
  · obtain rfl : d = -1 := hd
    exact rowOps_l w S v c xs at0 h hr ha
theorem l23Stitches_any (w : World) (S : Nat → Prop) (pb po : Nat) (r : RowM) (at0 : Int) (h : RowAt w S pb po r) (hr : rowCodeM r.d r.c r.xs = 0) (ha : -3 ≤ at0 ∧ at0 ≤ 27) :
    Calls Try.prog 121 #[.pointer (some ⟨pb, po, none⟩), .int .i64 at0] w fun e w' => ∃ v', e = .returned (.tuple #[v', .int .i64 (rowTo r ([], at0) r.xs.length).2]) ∧ Ops w' (New w.heap.size w'.heap.size) v' (rowTo r ([], at0) r.xs.length).1 ∧ Up w w' := by
  obtain ⟨d, c, xs⟩ := r
  rcases (laid_of hr).dir with hd | hd
  · obtain rfl : d = 1 := hd
    exact l23Stitches_r w S pb po c xs at0 h hr ha
  · obtain rfl : d = -1 := hd
    exact l23Stitches_l w S pb po c xs at0 h hr ha
def askM (r : RowM) (n a : Int) : Int := if rowCodeM r.d r.c r.xs = 0 then (if sumF takenK r.xs = n then (if -3 ≤ a ∧ a ≤ 27 then 0 else 2) else 10) else rowCodeM r.d r.c r.xs
theorem askM_row {r : RowM} {n a : Int} (h : ¬ rowCodeM r.d r.c r.xs = 0) : askM r n a = rowCodeM r.d r.c r.xs := if_neg h
theorem askM_10 {r : RowM} {n a : Int} (h : rowCodeM r.d r.c r.xs = 0) (h2 : ¬ sumF takenK r.xs = n) : askM r n a = 10 := by unfold askM; rw [if_pos h, if_neg h2]
theorem askM_2 {r : RowM} {n a : Int} (h : rowCodeM r.d r.c r.xs = 0) (h2 : sumF takenK r.xs = n) (h3 : ¬ (-3 ≤ a ∧ a ≤ 27)) : askM r n a = 2 := by unfold askM; rw [if_pos h, if_pos h2, if_neg h3]
theorem askM_0 {r : RowM} {n a : Int} (h : rowCodeM r.d r.c r.xs = 0) (h2 : sumF takenK r.xs = n) (h3 : -3 ≤ a ∧ a ≤ 27) : askM r n a = 0 := by unfold askM; rw [if_pos h, if_pos h2, if_pos h3]
theorem askM_zero {r : RowM} {n a : Int} (h : askM r n a = 0) : rowCodeM r.d r.c r.xs = 0 ∧ sumF takenK r.xs = n ∧ (-3 ≤ a ∧ a ≤ 27) := by
  by_cases h1 : rowCodeM r.d r.c r.xs = 0
  · by_cases h2 : sumF takenK r.xs = n
    · by_cases h3 : -3 ≤ a ∧ a ≤ 27
      · exact ⟨h1, h2, h3⟩
      · rw [askM_2 h1 h2 h3] at h; omega
    · rw [askM_10 h1 h2] at h; omega
  · rw [askM_row h1] at h; exact absurd h h1
theorem rowCode_zero {r : RowM} (h : rowCodeM r.d r.c r.xs = 0) : rowB r.d r.c r.xs = true ∧ laidB r.xs = true := by
  cases h1 : rowB r.d r.c r.xs with
  | false => rw [rowCode_bad h1] at h; omega
  | true =>
    cases h2 : laidB r.xs with
    | false => rw [rowCode_unlaid h1 h2] at h; omega
    | true => exact ⟨rfl, rfl⟩
def carOut (r : RowM) (n a : Int) : Int := if askM r n a = 0 then (rowTo r ([], a) r.xs.length).2 else 0
theorem ret_ii {a b c d : Int} (h : a = c) (h2 : b = d) : Ending.returned (.tuple #[.int .i64 a, .int .i64 b]) = .returned (.tuple #[.int .i64 c, .int .i64 d]) := by rw [h, h2]
set_option maxHeartbeats 4000000 in
theorem rowOpsCode_any (w : World) (S : Nat → Prop) (v : Value) (r : RowM) (n a : Int) (h : RowV w S v r) :
    Calls Try.prog 122 #[v, .int .i64 n, .int .i64 a] w fun e w' => e = .returned (.int .i64 (askM r n a)) ∧ Up w w' := by
  obtain ⟨A, c, rfl, h4, h5, h6⟩ := openRow h
  have U0 := Lib.hid (Chg.refl Nowhere w)
  have HI := Lib.hid h
  have HI4 := Lib.hid h4
  clear h h4
  cases hb : rowB r.d r.c r.xs with
  | false =>
    have HB := Lib.hid hb
    have HM := Lib.hid (show askM r n a = 1 by rw [askM_row (by rw [rowCode_bad hb]; omega), rowCode_bad hb])
    clear hb
    have U_1 := Lib.hid (Chg.trans U0.out ((Chg.refl Nowhere w).alloc (.cells #[.int .i64 r.d, .int .i64 r.c, .slice A r.xs.length c] 66)))
    clear U0
    have I_2 := Lib.hid (HI.out.up ((Chg.refl Nowhere w).alloc (.cells #[.int .i64 r.d, .int .i64 r.c, .slice A r.xs.length c] 66)))
    clear HI
    have J_3 := Lib.hid (HI4.out.up ((Chg.refl Nowhere w).alloc (.cells #[.int .i64 r.d, .int .i64 r.c, .slice A r.xs.length c] 66)))
    clear HI4
    have q0_4 := (show (w.alloc (.cells #[.int .i64 r.d, .int .i64 r.c, .slice A r.xs.length c] 66)).cell? ⟨w.heap.size, 0, none⟩ = some (.int .i64 r.d) from cell_new _ _ _ _)
    have q1_5 := (show (w.alloc (.cells #[.int .i64 r.d, .int .i64 r.c, .slice A r.xs.length c] 66)).cell? ⟨w.heap.size, 1, none⟩ = some (.int .i64 r.c) from cell_new _ _ _ _)
    have q2_6 := (show (w.alloc (.cells #[.int .i64 r.d, .int .i64 r.c, .slice A r.xs.length c] 66)).cell? ⟨w.heap.size, 2, none⟩ = some (.slice A r.xs.length c) from cell_new _ _ _ _)
    have hbx7 : w.heap.size < (w.alloc (.cells #[.int .i64 r.d, .int .i64 r.c, .slice A r.xs.length c] 66)).heap.size := by simp
    go_enter Try.func122, Try.ntmps122
    go_wp2_with fail
    refine (ValidRow_any _ S _ r (I_2.out.up (by repeat (first | exact Chg.refl _ _ | apply Chg.drew | apply Chg.drewN | refine Chg.alloc ?_ _)))).mono ?_
    rintro e w8 ⟨rfl, g1⟩
    have G1 := Lib.hid g1
    have hz8 := G1.out.size
    clear g1
    have U_9 := Lib.hid (Chg.trans U_1.out (Chg.trans (by repeat (first | exact Chg.refl _ _ | apply Chg.drew | apply Chg.drewN | refine Chg.alloc ?_ _)) G1.out))
    clear U_1
    have I_10 := Lib.hid (I_2.out.up (Chg.trans (by repeat (first | exact Chg.refl _ _ | apply Chg.drew | apply Chg.drewN | refine Chg.alloc ?_ _)) G1.out))
    clear I_2
    have J_11 := Lib.hid (J_3.out.up (Chg.trans (by repeat (first | exact Chg.refl _ _ | apply Chg.drew | apply Chg.drewN | refine Chg.alloc ?_ _)) G1.out))
    clear J_3
    have q0_12 := Chg.cell (Chg.trans (by repeat (first | exact Chg.refl _ _ | apply Chg.drew | apply Chg.drewN | refine Chg.alloc ?_ _)) G1.out) q0_4 id
    clear q0_4
    have q1_13 := Chg.cell (Chg.trans (by repeat (first | exact Chg.refl _ _ | apply Chg.drew | apply Chg.drewN | refine Chg.alloc ?_ _)) G1.out) q1_5 id
    clear q1_5
    have q2_14 := Chg.cell (Chg.trans (by repeat (first | exact Chg.refl _ _ | apply Chg.drew | apply Chg.drewN | refine Chg.alloc ?_ _)) G1.out) q2_6 id
    clear q2_6
    clear G1
    rw [HB.out]
    go_wp2
    go_ret
    exact ⟨ret_int HM.out.symm, (Chg.trans U_9.out (by repeat (first | exact Chg.refl _ _ | apply Chg.drew | apply Chg.drewN | refine Chg.alloc ?_ _)))⟩
  | true =>
    have HB := Lib.hid hb
    have HS := Lib.hid (rowB_dir hb).2.2
    cases hl : laidB r.xs with
    | false =>
      have HL := Lib.hid hl
      have HM := Lib.hid (show askM r n a = 10 by rw [askM_row (by rw [rowCode_unlaid hb hl]; omega), rowCode_unlaid hb hl])
      clear hb hl
      have U_15 := Lib.hid (Chg.trans U0.out ((Chg.refl Nowhere w).alloc (.cells #[.int .i64 r.d, .int .i64 r.c, .slice A r.xs.length c] 66)))
      clear U0
      have I_16 := Lib.hid (HI.out.up ((Chg.refl Nowhere w).alloc (.cells #[.int .i64 r.d, .int .i64 r.c, .slice A r.xs.length c] 66)))
      clear HI
      have J_17 := Lib.hid (HI4.out.up ((Chg.refl Nowhere w).alloc (.cells #[.int .i64 r.d, .int .i64 r.c, .slice A r.xs.length c] 66)))
      clear HI4
      have q0_18 := (show (w.alloc (.cells #[.int .i64 r.d, .int .i64 r.c, .slice A r.xs.length c] 66)).cell? ⟨w.heap.size, 0, none⟩ = some (.int .i64 r.d) from cell_new _ _ _ _)
      have q1_19 := (show (w.alloc (.cells #[.int .i64 r.d, .int .i64 r.c, .slice A r.xs.length c] 66)).cell? ⟨w.heap.size, 1, none⟩ = some (.int .i64 r.c) from cell_new _ _ _ _)
      have q2_20 := (show (w.alloc (.cells #[.int .i64 r.d, .int .i64 r.c, .slice A r.xs.length c] 66)).cell? ⟨w.heap.size, 2, none⟩ = some (.slice A r.xs.length c) from cell_new _ _ _ _)
      have hbx21 : w.heap.size < (w.alloc (.cells #[.int .i64 r.d, .int .i64 r.c, .slice A r.xs.length c] 66)).heap.size := by simp
      go_enter Try.func122, Try.ntmps122
      go_wp2_with fail
      refine (ValidRow_any _ S _ r (I_16.out.up (by repeat (first | exact Chg.refl _ _ | apply Chg.drew | apply Chg.drewN | refine Chg.alloc ?_ _)))).mono ?_
      rintro e w22 ⟨rfl, g1⟩
      have G1 := Lib.hid g1
      have hz22 := G1.out.size
      clear g1
      have U_23 := Lib.hid (Chg.trans U_15.out (Chg.trans (by repeat (first | exact Chg.refl _ _ | apply Chg.drew | apply Chg.drewN | refine Chg.alloc ?_ _)) G1.out))
      clear U_15
      have I_24 := Lib.hid (I_16.out.up (Chg.trans (by repeat (first | exact Chg.refl _ _ | apply Chg.drew | apply Chg.drewN | refine Chg.alloc ?_ _)) G1.out))
      clear I_16
      have J_25 := Lib.hid (J_17.out.up (Chg.trans (by repeat (first | exact Chg.refl _ _ | apply Chg.drew | apply Chg.drewN | refine Chg.alloc ?_ _)) G1.out))
      clear J_17
      have q0_26 := Chg.cell (Chg.trans (by repeat (first | exact Chg.refl _ _ | apply Chg.drew | apply Chg.drewN | refine Chg.alloc ?_ _)) G1.out) q0_18 id
      clear q0_18
      have q1_27 := Chg.cell (Chg.trans (by repeat (first | exact Chg.refl _ _ | apply Chg.drew | apply Chg.drewN | refine Chg.alloc ?_ _)) G1.out) q1_19 id
      clear q1_19
      have q2_28 := Chg.cell (Chg.trans (by repeat (first | exact Chg.refl _ _ | apply Chg.drew | apply Chg.drewN | refine Chg.alloc ?_ _)) G1.out) q2_20 id
      clear q2_20
      clear G1
      rw [HB.out]
      go_wp2_with fail
      refine (isLaidOut_any _ S _ r (I_24.out.up (by repeat (first | exact Chg.refl _ _ | apply Chg.drew | apply Chg.drewN | refine Chg.alloc ?_ _))) HS.out).mono ?_
      rintro e w29 ⟨rfl, g1⟩
      have G1 := Lib.hid g1
      have hz29 := G1.out.size
      clear g1
      have U_30 := Lib.hid (Chg.trans U_23.out (Chg.trans (by repeat (first | exact Chg.refl _ _ | apply Chg.drew | apply Chg.drewN | refine Chg.alloc ?_ _)) G1.out))
      clear U_23
      have I_31 := Lib.hid (I_24.out.up (Chg.trans (by repeat (first | exact Chg.refl _ _ | apply Chg.drew | apply Chg.drewN | refine Chg.alloc ?_ _)) G1.out))
      clear I_24
      have J_32 := Lib.hid (J_25.out.up (Chg.trans (by repeat (first | exact Chg.refl _ _ | apply Chg.drew | apply Chg.drewN | refine Chg.alloc ?_ _)) G1.out))
      clear J_25
      have q0_33 := Chg.cell (Chg.trans (by repeat (first | exact Chg.refl _ _ | apply Chg.drew | apply Chg.drewN | refine Chg.alloc ?_ _)) G1.out) q0_26 id
      clear q0_26
      have q1_34 := Chg.cell (Chg.trans (by repeat (first | exact Chg.refl _ _ | apply Chg.drew | apply Chg.drewN | refine Chg.alloc ?_ _)) G1.out) q1_27 id
      clear q1_27
      have q2_35 := Chg.cell (Chg.trans (by repeat (first | exact Chg.refl _ _ | apply Chg.drew | apply Chg.drewN | refine Chg.alloc ?_ _)) G1.out) q2_28 id
      clear q2_28
      clear G1
      rw [HL.out]
      go_wp2
      go_ret
      exact ⟨ret_int HM.out.symm, (Chg.trans U_30.out (by repeat (first | exact Chg.refl _ _ | apply Chg.drew | apply Chg.drewN | refine Chg.alloc ?_ _)))⟩
    | true =>
      have HL := Lib.hid hl
      have HZ := Lib.hid (rowCode_ok hb hl)
      clear hb hl
      by_cases ht : sumF takenK r.xs = n
      rotate_left
      · have htd : (sumF takenK r.xs != n) = true := by simpa using ht
        have HM := Lib.hid (askM_10 (a := a) HZ.out ht)
        clear ht
        have U_36 := Lib.hid (Chg.trans U0.out ((Chg.refl Nowhere w).alloc (.cells #[.int .i64 r.d, .int .i64 r.c, .slice A r.xs.length c] 66)))
        clear U0
        have I_37 := Lib.hid (HI.out.up ((Chg.refl Nowhere w).alloc (.cells #[.int .i64 r.d, .int .i64 r.c, .slice A r.xs.length c] 66)))
        clear HI
        have J_38 := Lib.hid (HI4.out.up ((Chg.refl Nowhere w).alloc (.cells #[.int .i64 r.d, .int .i64 r.c, .slice A r.xs.length c] 66)))
        clear HI4
        have q0_39 := (show (w.alloc (.cells #[.int .i64 r.d, .int .i64 r.c, .slice A r.xs.length c] 66)).cell? ⟨w.heap.size, 0, none⟩ = some (.int .i64 r.d) from cell_new _ _ _ _)
        have q1_40 := (show (w.alloc (.cells #[.int .i64 r.d, .int .i64 r.c, .slice A r.xs.length c] 66)).cell? ⟨w.heap.size, 1, none⟩ = some (.int .i64 r.c) from cell_new _ _ _ _)
        have q2_41 := (show (w.alloc (.cells #[.int .i64 r.d, .int .i64 r.c, .slice A r.xs.length c] 66)).cell? ⟨w.heap.size, 2, none⟩ = some (.slice A r.xs.length c) from cell_new _ _ _ _)
        have hbx42 : w.heap.size < (w.alloc (.cells #[.int .i64 r.d, .int .i64 r.c, .slice A r.xs.length c] 66)).heap.size := by simp
        go_enter Try.func122, Try.ntmps122
        go_wp2_with fail
        refine (ValidRow_any _ S _ r (I_37.out.up (by repeat (first | exact Chg.refl _ _ | apply Chg.drew | apply Chg.drewN | refine Chg.alloc ?_ _)))).mono ?_
        rintro e w43 ⟨rfl, g1⟩
        have G1 := Lib.hid g1
        have hz43 := G1.out.size
        clear g1
        have U_44 := Lib.hid (Chg.trans U_36.out (Chg.trans (by repeat (first | exact Chg.refl _ _ | apply Chg.drew | apply Chg.drewN | refine Chg.alloc ?_ _)) G1.out))
        clear U_36
        have I_45 := Lib.hid (I_37.out.up (Chg.trans (by repeat (first | exact Chg.refl _ _ | apply Chg.drew | apply Chg.drewN | refine Chg.alloc ?_ _)) G1.out))
        clear I_37
        have J_46 := Lib.hid (J_38.out.up (Chg.trans (by repeat (first | exact Chg.refl _ _ | apply Chg.drew | apply Chg.drewN | refine Chg.alloc ?_ _)) G1.out))
        clear J_38
        have q0_47 := Chg.cell (Chg.trans (by repeat (first | exact Chg.refl _ _ | apply Chg.drew | apply Chg.drewN | refine Chg.alloc ?_ _)) G1.out) q0_39 id
        clear q0_39
        have q1_48 := Chg.cell (Chg.trans (by repeat (first | exact Chg.refl _ _ | apply Chg.drew | apply Chg.drewN | refine Chg.alloc ?_ _)) G1.out) q1_40 id
        clear q1_40
        have q2_49 := Chg.cell (Chg.trans (by repeat (first | exact Chg.refl _ _ | apply Chg.drew | apply Chg.drewN | refine Chg.alloc ?_ _)) G1.out) q2_41 id
        clear q2_41
        clear G1
        rw [HB.out]
        go_wp2_with fail
        refine (isLaidOut_any _ S _ r (I_45.out.up (by repeat (first | exact Chg.refl _ _ | apply Chg.drew | apply Chg.drewN | refine Chg.alloc ?_ _))) HS.out).mono ?_
        rintro e w50 ⟨rfl, g1⟩
        have G1 := Lib.hid g1
        have hz50 := G1.out.size
        clear g1
        have U_51 := Lib.hid (Chg.trans U_44.out (Chg.trans (by repeat (first | exact Chg.refl _ _ | apply Chg.drew | apply Chg.drewN | refine Chg.alloc ?_ _)) G1.out))
        clear U_44
        have I_52 := Lib.hid (I_45.out.up (Chg.trans (by repeat (first | exact Chg.refl _ _ | apply Chg.drew | apply Chg.drewN | refine Chg.alloc ?_ _)) G1.out))
        clear I_45
        have J_53 := Lib.hid (J_46.out.up (Chg.trans (by repeat (first | exact Chg.refl _ _ | apply Chg.drew | apply Chg.drewN | refine Chg.alloc ?_ _)) G1.out))
        clear J_46
        have q0_54 := Chg.cell (Chg.trans (by repeat (first | exact Chg.refl _ _ | apply Chg.drew | apply Chg.drewN | refine Chg.alloc ?_ _)) G1.out) q0_47 id
        clear q0_47
        have q1_55 := Chg.cell (Chg.trans (by repeat (first | exact Chg.refl _ _ | apply Chg.drew | apply Chg.drewN | refine Chg.alloc ?_ _)) G1.out) q1_48 id
        clear q1_48
        have q2_56 := Chg.cell (Chg.trans (by repeat (first | exact Chg.refl _ _ | apply Chg.drew | apply Chg.drewN | refine Chg.alloc ?_ _)) G1.out) q2_49 id
        clear q2_49
        clear G1
        rw [HL.out]
        go_wp2_with fail
        refine (takenBy_yes _ S _ r.xs (J_53.out.up (by repeat (first | exact Chg.refl _ _ | apply Chg.drew | apply Chg.drewN | refine Chg.alloc ?_ _))) HS.out).mono ?_
        rintro e w' ⟨rfl, rfl⟩
        go_wp2
        go_ret
        exact ⟨ret_int HM.out.symm, (Chg.trans U_51.out (by repeat (first | exact Chg.refl _ _ | apply Chg.drew | apply Chg.drewN | refine Chg.alloc ?_ _)))⟩
      have htd : (sumF takenK r.xs != n) = false := by simpa using ht
      by_cases ha : -3 ≤ a ∧ a ≤ 27
      rotate_left
      · have HM := Lib.hid (askM_2 HZ.out ht ha)
        have HA := Lib.hid ha
        clear ha ht
        have U_57 := Lib.hid (Chg.trans U0.out ((Chg.refl Nowhere w).alloc (.cells #[.int .i64 r.d, .int .i64 r.c, .slice A r.xs.length c] 66)))
        clear U0
        have I_58 := Lib.hid (HI.out.up ((Chg.refl Nowhere w).alloc (.cells #[.int .i64 r.d, .int .i64 r.c, .slice A r.xs.length c] 66)))
        clear HI
        have J_59 := Lib.hid (HI4.out.up ((Chg.refl Nowhere w).alloc (.cells #[.int .i64 r.d, .int .i64 r.c, .slice A r.xs.length c] 66)))
        clear HI4
        have q0_60 := (show (w.alloc (.cells #[.int .i64 r.d, .int .i64 r.c, .slice A r.xs.length c] 66)).cell? ⟨w.heap.size, 0, none⟩ = some (.int .i64 r.d) from cell_new _ _ _ _)
        have q1_61 := (show (w.alloc (.cells #[.int .i64 r.d, .int .i64 r.c, .slice A r.xs.length c] 66)).cell? ⟨w.heap.size, 1, none⟩ = some (.int .i64 r.c) from cell_new _ _ _ _)
        have q2_62 := (show (w.alloc (.cells #[.int .i64 r.d, .int .i64 r.c, .slice A r.xs.length c] 66)).cell? ⟨w.heap.size, 2, none⟩ = some (.slice A r.xs.length c) from cell_new _ _ _ _)
        have hbx63 : w.heap.size < (w.alloc (.cells #[.int .i64 r.d, .int .i64 r.c, .slice A r.xs.length c] 66)).heap.size := by simp
        go_enter Try.func122, Try.ntmps122
        go_wp2_with fail
        refine (ValidRow_any _ S _ r (I_58.out.up (by repeat (first | exact Chg.refl _ _ | apply Chg.drew | apply Chg.drewN | refine Chg.alloc ?_ _)))).mono ?_
        rintro e w64 ⟨rfl, g1⟩
        have G1 := Lib.hid g1
        have hz64 := G1.out.size
        clear g1
        have U_65 := Lib.hid (Chg.trans U_57.out (Chg.trans (by repeat (first | exact Chg.refl _ _ | apply Chg.drew | apply Chg.drewN | refine Chg.alloc ?_ _)) G1.out))
        clear U_57
        have I_66 := Lib.hid (I_58.out.up (Chg.trans (by repeat (first | exact Chg.refl _ _ | apply Chg.drew | apply Chg.drewN | refine Chg.alloc ?_ _)) G1.out))
        clear I_58
        have J_67 := Lib.hid (J_59.out.up (Chg.trans (by repeat (first | exact Chg.refl _ _ | apply Chg.drew | apply Chg.drewN | refine Chg.alloc ?_ _)) G1.out))
        clear J_59
        have q0_68 := Chg.cell (Chg.trans (by repeat (first | exact Chg.refl _ _ | apply Chg.drew | apply Chg.drewN | refine Chg.alloc ?_ _)) G1.out) q0_60 id
        clear q0_60
        have q1_69 := Chg.cell (Chg.trans (by repeat (first | exact Chg.refl _ _ | apply Chg.drew | apply Chg.drewN | refine Chg.alloc ?_ _)) G1.out) q1_61 id
        clear q1_61
        have q2_70 := Chg.cell (Chg.trans (by repeat (first | exact Chg.refl _ _ | apply Chg.drew | apply Chg.drewN | refine Chg.alloc ?_ _)) G1.out) q2_62 id
        clear q2_62
        clear G1
        rw [HB.out]
        go_wp2_with fail
        refine (isLaidOut_any _ S _ r (I_66.out.up (by repeat (first | exact Chg.refl _ _ | apply Chg.drew | apply Chg.drewN | refine Chg.alloc ?_ _))) HS.out).mono ?_
        rintro e w71 ⟨rfl, g1⟩
        have G1 := Lib.hid g1
        have hz71 := G1.out.size
        clear g1
        have U_72 := Lib.hid (Chg.trans U_65.out (Chg.trans (by repeat (first | exact Chg.refl _ _ | apply Chg.drew | apply Chg.drewN | refine Chg.alloc ?_ _)) G1.out))
        clear U_65
        have I_73 := Lib.hid (I_66.out.up (Chg.trans (by repeat (first | exact Chg.refl _ _ | apply Chg.drew | apply Chg.drewN | refine Chg.alloc ?_ _)) G1.out))
        clear I_66
        have J_74 := Lib.hid (J_67.out.up (Chg.trans (by repeat (first | exact Chg.refl _ _ | apply Chg.drew | apply Chg.drewN | refine Chg.alloc ?_ _)) G1.out))
        clear J_67
        have q0_75 := Chg.cell (Chg.trans (by repeat (first | exact Chg.refl _ _ | apply Chg.drew | apply Chg.drewN | refine Chg.alloc ?_ _)) G1.out) q0_68 id
        clear q0_68
        have q1_76 := Chg.cell (Chg.trans (by repeat (first | exact Chg.refl _ _ | apply Chg.drew | apply Chg.drewN | refine Chg.alloc ?_ _)) G1.out) q1_69 id
        clear q1_69
        have q2_77 := Chg.cell (Chg.trans (by repeat (first | exact Chg.refl _ _ | apply Chg.drew | apply Chg.drewN | refine Chg.alloc ?_ _)) G1.out) q2_70 id
        clear q2_70
        clear G1
        rw [HL.out]
        go_wp2_with fail
        refine (takenBy_yes _ S _ r.xs (J_74.out.up (by repeat (first | exact Chg.refl _ _ | apply Chg.drew | apply Chg.drewN | refine Chg.alloc ?_ _))) HS.out).mono ?_
        rintro e w' ⟨rfl, rfl⟩
        go_wp2_with fail
        refine (isCarrierPlace_no _ _ (by have := HA.out; omega)).mono ?_
        rintro e w' ⟨rfl, rfl⟩
        go_wp2
        go_ret
        exact ⟨ret_int HM.out.symm, (Chg.trans U_72.out (by repeat (first | exact Chg.refl _ _ | apply Chg.drew | apply Chg.drewN | refine Chg.alloc ?_ _)))⟩
      · have HM := Lib.hid (askM_0 HZ.out ht ha)
        have HA := Lib.hid ha
        clear ha ht
        have U_78 := Lib.hid (Chg.trans U0.out ((Chg.refl Nowhere w).alloc (.cells #[.int .i64 r.d, .int .i64 r.c, .slice A r.xs.length c] 66)))
        clear U0
        have I_79 := Lib.hid (HI.out.up ((Chg.refl Nowhere w).alloc (.cells #[.int .i64 r.d, .int .i64 r.c, .slice A r.xs.length c] 66)))
        clear HI
        have J_80 := Lib.hid (HI4.out.up ((Chg.refl Nowhere w).alloc (.cells #[.int .i64 r.d, .int .i64 r.c, .slice A r.xs.length c] 66)))
        clear HI4
        have q0_81 := (show (w.alloc (.cells #[.int .i64 r.d, .int .i64 r.c, .slice A r.xs.length c] 66)).cell? ⟨w.heap.size, 0, none⟩ = some (.int .i64 r.d) from cell_new _ _ _ _)
        have q1_82 := (show (w.alloc (.cells #[.int .i64 r.d, .int .i64 r.c, .slice A r.xs.length c] 66)).cell? ⟨w.heap.size, 1, none⟩ = some (.int .i64 r.c) from cell_new _ _ _ _)
        have q2_83 := (show (w.alloc (.cells #[.int .i64 r.d, .int .i64 r.c, .slice A r.xs.length c] 66)).cell? ⟨w.heap.size, 2, none⟩ = some (.slice A r.xs.length c) from cell_new _ _ _ _)
        have hbx84 : w.heap.size < (w.alloc (.cells #[.int .i64 r.d, .int .i64 r.c, .slice A r.xs.length c] 66)).heap.size := by simp
        go_enter Try.func122, Try.ntmps122
        go_wp2_with fail
        refine (ValidRow_any _ S _ r (I_79.out.up (by repeat (first | exact Chg.refl _ _ | apply Chg.drew | apply Chg.drewN | refine Chg.alloc ?_ _)))).mono ?_
        rintro e w85 ⟨rfl, g1⟩
        have G1 := Lib.hid g1
        have hz85 := G1.out.size
        clear g1
        have U_86 := Lib.hid (Chg.trans U_78.out (Chg.trans (by repeat (first | exact Chg.refl _ _ | apply Chg.drew | apply Chg.drewN | refine Chg.alloc ?_ _)) G1.out))
        clear U_78
        have I_87 := Lib.hid (I_79.out.up (Chg.trans (by repeat (first | exact Chg.refl _ _ | apply Chg.drew | apply Chg.drewN | refine Chg.alloc ?_ _)) G1.out))
        clear I_79
        have J_88 := Lib.hid (J_80.out.up (Chg.trans (by repeat (first | exact Chg.refl _ _ | apply Chg.drew | apply Chg.drewN | refine Chg.alloc ?_ _)) G1.out))
        clear J_80
        have q0_89 := Chg.cell (Chg.trans (by repeat (first | exact Chg.refl _ _ | apply Chg.drew | apply Chg.drewN | refine Chg.alloc ?_ _)) G1.out) q0_81 id
        clear q0_81
        have q1_90 := Chg.cell (Chg.trans (by repeat (first | exact Chg.refl _ _ | apply Chg.drew | apply Chg.drewN | refine Chg.alloc ?_ _)) G1.out) q1_82 id
        clear q1_82
        have q2_91 := Chg.cell (Chg.trans (by repeat (first | exact Chg.refl _ _ | apply Chg.drew | apply Chg.drewN | refine Chg.alloc ?_ _)) G1.out) q2_83 id
        clear q2_83
        clear G1
        rw [HB.out]
        go_wp2_with fail
        refine (isLaidOut_any _ S _ r (I_87.out.up (by repeat (first | exact Chg.refl _ _ | apply Chg.drew | apply Chg.drewN | refine Chg.alloc ?_ _))) HS.out).mono ?_
        rintro e w92 ⟨rfl, g1⟩
        have G1 := Lib.hid g1
        have hz92 := G1.out.size
        clear g1
        have U_93 := Lib.hid (Chg.trans U_86.out (Chg.trans (by repeat (first | exact Chg.refl _ _ | apply Chg.drew | apply Chg.drewN | refine Chg.alloc ?_ _)) G1.out))
        clear U_86
        have I_94 := Lib.hid (I_87.out.up (Chg.trans (by repeat (first | exact Chg.refl _ _ | apply Chg.drew | apply Chg.drewN | refine Chg.alloc ?_ _)) G1.out))
        clear I_87
        have J_95 := Lib.hid (J_88.out.up (Chg.trans (by repeat (first | exact Chg.refl _ _ | apply Chg.drew | apply Chg.drewN | refine Chg.alloc ?_ _)) G1.out))
        clear J_88
        have q0_96 := Chg.cell (Chg.trans (by repeat (first | exact Chg.refl _ _ | apply Chg.drew | apply Chg.drewN | refine Chg.alloc ?_ _)) G1.out) q0_89 id
        clear q0_89
        have q1_97 := Chg.cell (Chg.trans (by repeat (first | exact Chg.refl _ _ | apply Chg.drew | apply Chg.drewN | refine Chg.alloc ?_ _)) G1.out) q1_90 id
        clear q1_90
        have q2_98 := Chg.cell (Chg.trans (by repeat (first | exact Chg.refl _ _ | apply Chg.drew | apply Chg.drewN | refine Chg.alloc ?_ _)) G1.out) q2_91 id
        clear q2_91
        clear G1
        rw [HL.out]
        go_wp2_with fail
        refine (takenBy_yes _ S _ r.xs (J_95.out.up (by repeat (first | exact Chg.refl _ _ | apply Chg.drew | apply Chg.drewN | refine Chg.alloc ?_ _))) HS.out).mono ?_
        rintro e w' ⟨rfl, rfl⟩
        go_wp2_with fail
        refine (isCarrierPlace_yes _ _ HA.out).mono ?_
        rintro e w' ⟨rfl, rfl⟩
        go_wp2
        go_ret
        exact ⟨ret_int HM.out.symm, (Chg.trans U_93.out (by repeat (first | exact Chg.refl _ _ | apply Chg.drew | apply Chg.drewN | refine Chg.alloc ?_ _)))⟩
set_option maxHeartbeats 4000000 in
theorem l23Ask_any (w : World) (S : Nat → Prop) (b o : Nat) (r : RowM) (n a : Int) (h : RowAt w S b o r) :
    Calls Try.prog 118 #[.pointer (some ⟨b, o, none⟩), .int .i64 n, .int .i64 a] w fun e w' => e = .returned (.int .i64 (askM r n a)) ∧ Up w w' := by
  obtain ⟨A, c, f0, f1, f2, h4, h5, h6⟩ := h.open_
  have U0 := Lib.hid (Chg.refl Nowhere w)
  have HA := Lib.hid h
  have HI4 := Lib.hid h4
  clear h h4 f0 f1
  by_cases hz : rowCodeM r.d r.c r.xs = 0
  rotate_left
  · have hzd : (rowCodeM r.d r.c r.xs == 0) = false := by simpa using hz
    have HM := Lib.hid (askM_row (n := n) (a := a) hz)
    clear hz
    go_enter Try.func118, Try.ntmps118
    go_wp2_with fail
    refine (l20Ask_any _ S _ _ r (HA.out.up (by repeat (first | exact Chg.refl _ _ | apply Chg.drew | apply Chg.drewN | refine Chg.alloc ?_ _)))).mono ?_
    rintro e w1 ⟨rfl, g1⟩
    have G1 := Lib.hid g1
    have hz1 := G1.out.size
    clear g1
    have U_2 := Lib.hid (Chg.trans U0.out (Chg.trans (by repeat (first | exact Chg.refl _ _ | apply Chg.drew | apply Chg.drewN | refine Chg.alloc ?_ _)) G1.out))
    clear U0
    have A_3 := Lib.hid (HA.out.up (Chg.trans (by repeat (first | exact Chg.refl _ _ | apply Chg.drew | apply Chg.drewN | refine Chg.alloc ?_ _)) G1.out))
    clear HA
    have J_4 := Lib.hid (HI4.out.up (Chg.trans (by repeat (first | exact Chg.refl _ _ | apply Chg.drew | apply Chg.drewN | refine Chg.alloc ?_ _)) G1.out))
    clear HI4
    have f2_5 := Chg.cell (Chg.trans (by repeat (first | exact Chg.refl _ _ | apply Chg.drew | apply Chg.drewN | refine Chg.alloc ?_ _)) G1.out) f2 id
    clear f2
    clear G1
    go_wp2
    go_ret
    exact ⟨ret_int HM.out.symm, (Chg.trans U_2.out (by repeat (first | exact Chg.refl _ _ | apply Chg.drew | apply Chg.drewN | refine Chg.alloc ?_ _)))⟩
  have HZ := Lib.hid hz
  have HS := Lib.hid (laid_st_results hz)
  clear hz
  by_cases ht : sumF takenK r.xs = n
  rotate_left
  · have htd : (sumF takenK r.xs != n) = true := by simpa using ht
    have HM := Lib.hid (askM_10 (a := a) HZ.out ht)
    clear ht
    go_enter Try.func118, Try.ntmps118
    go_wp2_with fail
    refine (l20Ask_any _ S _ _ r (HA.out.up (by repeat (first | exact Chg.refl _ _ | apply Chg.drew | apply Chg.drewN | refine Chg.alloc ?_ _)))).mono ?_
    rintro e w6 ⟨rfl, g1⟩
    have G1 := Lib.hid g1
    have hz6 := G1.out.size
    clear g1
    have U_7 := Lib.hid (Chg.trans U0.out (Chg.trans (by repeat (first | exact Chg.refl _ _ | apply Chg.drew | apply Chg.drewN | refine Chg.alloc ?_ _)) G1.out))
    clear U0
    have A_8 := Lib.hid (HA.out.up (Chg.trans (by repeat (first | exact Chg.refl _ _ | apply Chg.drew | apply Chg.drewN | refine Chg.alloc ?_ _)) G1.out))
    clear HA
    have J_9 := Lib.hid (HI4.out.up (Chg.trans (by repeat (first | exact Chg.refl _ _ | apply Chg.drew | apply Chg.drewN | refine Chg.alloc ?_ _)) G1.out))
    clear HI4
    have f2_10 := Chg.cell (Chg.trans (by repeat (first | exact Chg.refl _ _ | apply Chg.drew | apply Chg.drewN | refine Chg.alloc ?_ _)) G1.out) f2 id
    clear f2
    clear G1
    rw [HZ.out]
    go_wp2_with fail
    refine (sTakenBy_yes _ S _ r.xs (J_9.out.up (by repeat (first | exact Chg.refl _ _ | apply Chg.drew | apply Chg.drewN | refine Chg.alloc ?_ _))) HS.out).mono ?_
    rintro e w11 ⟨rfl, g1⟩
    have G1 := Lib.hid g1
    have hz11 := G1.out.size
    clear g1
    have U_12 := Lib.hid (Chg.trans U_7.out (Chg.trans (by repeat (first | exact Chg.refl _ _ | apply Chg.drew | apply Chg.drewN | refine Chg.alloc ?_ _)) G1.out))
    clear U_7
    have A_13 := Lib.hid (A_8.out.up (Chg.trans (by repeat (first | exact Chg.refl _ _ | apply Chg.drew | apply Chg.drewN | refine Chg.alloc ?_ _)) G1.out))
    clear A_8
    have J_14 := Lib.hid (J_9.out.up (Chg.trans (by repeat (first | exact Chg.refl _ _ | apply Chg.drew | apply Chg.drewN | refine Chg.alloc ?_ _)) G1.out))
    clear J_9
    have f2_15 := Chg.cell (Chg.trans (by repeat (first | exact Chg.refl _ _ | apply Chg.drew | apply Chg.drewN | refine Chg.alloc ?_ _)) G1.out) f2_10 id
    clear f2_10
    clear G1
    go_wp2
    go_ret
    exact ⟨ret_int HM.out.symm, (Chg.trans U_12.out (by repeat (first | exact Chg.refl _ _ | apply Chg.drew | apply Chg.drewN | refine Chg.alloc ?_ _)))⟩
  have htd : (sumF takenK r.xs != n) = false := by simpa using ht
  by_cases ha : -3 ≤ a ∧ a ≤ 27
  rotate_left
  · have HM := Lib.hid (askM_2 HZ.out ht ha)
    have HB := Lib.hid ha
    clear ha ht
    go_enter Try.func118, Try.ntmps118
    go_wp2_with fail
    refine (l20Ask_any _ S _ _ r (HA.out.up (by repeat (first | exact Chg.refl _ _ | apply Chg.drew | apply Chg.drewN | refine Chg.alloc ?_ _)))).mono ?_
    rintro e w16 ⟨rfl, g1⟩
    have G1 := Lib.hid g1
    have hz16 := G1.out.size
    clear g1
    have U_17 := Lib.hid (Chg.trans U0.out (Chg.trans (by repeat (first | exact Chg.refl _ _ | apply Chg.drew | apply Chg.drewN | refine Chg.alloc ?_ _)) G1.out))
    clear U0
    have A_18 := Lib.hid (HA.out.up (Chg.trans (by repeat (first | exact Chg.refl _ _ | apply Chg.drew | apply Chg.drewN | refine Chg.alloc ?_ _)) G1.out))
    clear HA
    have J_19 := Lib.hid (HI4.out.up (Chg.trans (by repeat (first | exact Chg.refl _ _ | apply Chg.drew | apply Chg.drewN | refine Chg.alloc ?_ _)) G1.out))
    clear HI4
    have f2_20 := Chg.cell (Chg.trans (by repeat (first | exact Chg.refl _ _ | apply Chg.drew | apply Chg.drewN | refine Chg.alloc ?_ _)) G1.out) f2 id
    clear f2
    clear G1
    rw [HZ.out]
    go_wp2_with fail
    refine (sTakenBy_yes _ S _ r.xs (J_19.out.up (by repeat (first | exact Chg.refl _ _ | apply Chg.drew | apply Chg.drewN | refine Chg.alloc ?_ _))) HS.out).mono ?_
    rintro e w21 ⟨rfl, g1⟩
    have G1 := Lib.hid g1
    have hz21 := G1.out.size
    clear g1
    have U_22 := Lib.hid (Chg.trans U_17.out (Chg.trans (by repeat (first | exact Chg.refl _ _ | apply Chg.drew | apply Chg.drewN | refine Chg.alloc ?_ _)) G1.out))
    clear U_17
    have A_23 := Lib.hid (A_18.out.up (Chg.trans (by repeat (first | exact Chg.refl _ _ | apply Chg.drew | apply Chg.drewN | refine Chg.alloc ?_ _)) G1.out))
    clear A_18
    have J_24 := Lib.hid (J_19.out.up (Chg.trans (by repeat (first | exact Chg.refl _ _ | apply Chg.drew | apply Chg.drewN | refine Chg.alloc ?_ _)) G1.out))
    clear J_19
    have f2_25 := Chg.cell (Chg.trans (by repeat (first | exact Chg.refl _ _ | apply Chg.drew | apply Chg.drewN | refine Chg.alloc ?_ _)) G1.out) f2_20 id
    clear f2_20
    clear G1
    go_wp2_with fail
    refine (l23At_no _ _ (by have := HB.out; omega)).mono ?_
    rintro e w' ⟨rfl, rfl⟩
    go_wp2
    go_ret
    exact ⟨ret_int HM.out.symm, (Chg.trans U_22.out (by repeat (first | exact Chg.refl _ _ | apply Chg.drew | apply Chg.drewN | refine Chg.alloc ?_ _)))⟩
  · have HM := Lib.hid (askM_0 HZ.out ht ha)
    have HB := Lib.hid ha
    clear ha ht
    go_enter Try.func118, Try.ntmps118
    go_wp2_with fail
    refine (l20Ask_any _ S _ _ r (HA.out.up (by repeat (first | exact Chg.refl _ _ | apply Chg.drew | apply Chg.drewN | refine Chg.alloc ?_ _)))).mono ?_
    rintro e w26 ⟨rfl, g1⟩
    have G1 := Lib.hid g1
    have hz26 := G1.out.size
    clear g1
    have U_27 := Lib.hid (Chg.trans U0.out (Chg.trans (by repeat (first | exact Chg.refl _ _ | apply Chg.drew | apply Chg.drewN | refine Chg.alloc ?_ _)) G1.out))
    clear U0
    have A_28 := Lib.hid (HA.out.up (Chg.trans (by repeat (first | exact Chg.refl _ _ | apply Chg.drew | apply Chg.drewN | refine Chg.alloc ?_ _)) G1.out))
    clear HA
    have J_29 := Lib.hid (HI4.out.up (Chg.trans (by repeat (first | exact Chg.refl _ _ | apply Chg.drew | apply Chg.drewN | refine Chg.alloc ?_ _)) G1.out))
    clear HI4
    have f2_30 := Chg.cell (Chg.trans (by repeat (first | exact Chg.refl _ _ | apply Chg.drew | apply Chg.drewN | refine Chg.alloc ?_ _)) G1.out) f2 id
    clear f2
    clear G1
    rw [HZ.out]
    go_wp2_with fail
    refine (sTakenBy_yes _ S _ r.xs (J_29.out.up (by repeat (first | exact Chg.refl _ _ | apply Chg.drew | apply Chg.drewN | refine Chg.alloc ?_ _))) HS.out).mono ?_
    rintro e w31 ⟨rfl, g1⟩
    have G1 := Lib.hid g1
    have hz31 := G1.out.size
    clear g1
    have U_32 := Lib.hid (Chg.trans U_27.out (Chg.trans (by repeat (first | exact Chg.refl _ _ | apply Chg.drew | apply Chg.drewN | refine Chg.alloc ?_ _)) G1.out))
    clear U_27
    have A_33 := Lib.hid (A_28.out.up (Chg.trans (by repeat (first | exact Chg.refl _ _ | apply Chg.drew | apply Chg.drewN | refine Chg.alloc ?_ _)) G1.out))
    clear A_28
    have J_34 := Lib.hid (J_29.out.up (Chg.trans (by repeat (first | exact Chg.refl _ _ | apply Chg.drew | apply Chg.drewN | refine Chg.alloc ?_ _)) G1.out))
    clear J_29
    have f2_35 := Chg.cell (Chg.trans (by repeat (first | exact Chg.refl _ _ | apply Chg.drew | apply Chg.drewN | refine Chg.alloc ?_ _)) G1.out) f2_30 id
    clear f2_30
    clear G1
    go_wp2_with fail
    refine (l23At_yes _ _ HB.out).mono ?_
    rintro e w' ⟨rfl, rfl⟩
    go_wp2
    go_ret
    exact ⟨ret_int HM.out.symm, (Chg.trans U_32.out (by repeat (first | exact Chg.refl _ _ | apply Chg.drew | apply Chg.drewN | refine Chg.alloc ?_ _)))⟩
end Go.Proofs.Ytmimbnpcokfnlaa
