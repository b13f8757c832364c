/- CarrierAfter on both sides. No condition but room. The reference's question, whether columns can be moved. No condition. RowOps on both sides. No condition but room. RowOps on both sides. No condition but room. Casting on, and the needles of columns, as the reference has them. No condition. The compiled program of a chart, as plain data. No condition. -/
import Derived.Test.YtnjfhpgmogopnaaGreatRowOps3
import Derived.Test.YtnjfhpgmogopnaaGreatRowOps4
import Derived.Test.YtnjfhpgmogopnaaGreatRowOps5
import Derived.Test.YtnjfhpgmogopnaaGreatRowOps6
import Derived.Test.YtnjfhpgmogopnaaGreatPG3
import Derived.Test.YtnjfhpgmogopnaaGreatPG4
import Derived.Test.YtnjfhpgmogopnaaGreatPG8
namespace Go.Proofs.YtnjfhpgmogopnaaGreat
open Go.ChangeShapes Go.WideShapes Go.ChangeAt Go.RowKit
theorem rowOps_any (w : World) (S : Nat → Prop) (v : Value) (r : RowM) (at0 : Int) (h : RowV w S v r) (hr : rowCodeM r.d r.c r.xs = 0) (ha : -3 ≤ at0 ∧ at0 ≤ 27) :
    Calls Tryz.prog 54 #[v, .int .i64 at0] w fun e w' => ∃ v', e = .returned (.tuple #[v', .int .i64 (rowTo r ([], at0) r.xs.length).2]) ∧ Ops w' (New w.heap.size w'.heap.size) v' (preM r.xs ++ (rowTo r ([], at0) r.xs.length).1) ∧ Up w w' := by
  obtain ⟨d, c, xs⟩ := r
  rcases (laid_of hr).dir with hd | hd
  · obtain rfl : d = 1 := hd
    exact rowOps_r w S v c xs at0 h hr ha
  · obtain rfl : d = -1 := hd
    exact rowOps_l w S v c xs at0 h hr ha
theorem l23Stitches_any (w : World) (S : Nat → Prop) (pb po : Nat) (r : RowM) (at0 : Int) (h : RowAt w S pb po r) (hr : rowCodeM r.d r.c r.xs = 0) (ha : -3 ≤ at0 ∧ at0 ≤ 27) :
    Calls Tryz.prog 69 #[.pointer (some ⟨pb, po, none⟩), .int .i64 at0] w fun e w' => ∃ v', e = .returned (.tuple #[v', .int .i64 (rowTo r ([], at0) r.xs.length).2]) ∧ Ops w' (New w.heap.size w'.heap.size) v' (rowTo r ([], at0) r.xs.length).1 ∧ Up w w' := by
  obtain ⟨d, c, xs⟩ := r
  rcases (laid_of hr).dir with hd | hd
  · obtain rfl : d = 1 := hd
    exact l23Stitches_r w S pb po c xs at0 h hr ha
  · obtain rfl : d = -1 := hd
    exact l23Stitches_l w S pb po c xs at0 h hr ha
def askM (r : RowM) (n a : Int) : Int := if rowCodeM r.d r.c r.xs = 0 then (if sumF takenK r.xs = n then (if -3 ≤ a ∧ a ≤ 27 then 0 else 2) else 10) else rowCodeM r.d r.c r.xs
theorem askM_row {r : RowM} {n a : Int} (h : ¬ rowCodeM r.d r.c r.xs = 0) : askM r n a = rowCodeM r.d r.c r.xs := if_neg h
theorem askM_10 {r : RowM} {n a : Int} (h : rowCodeM r.d r.c r.xs = 0) (h2 : ¬ sumF takenK r.xs = n) : askM r n a = 10 := by unfold askM; rw [if_pos h, if_neg h2]
theorem askM_2 {r : RowM} {n a : Int} (h : rowCodeM r.d r.c r.xs = 0) (h2 : sumF takenK r.xs = n) (h3 : ¬ (-3 ≤ a ∧ a ≤ 27)) : askM r n a = 2 := by unfold askM; rw [if_pos h, if_pos h2, if_neg h3]
theorem askM_0 {r : RowM} {n a : Int} (h : rowCodeM r.d r.c r.xs = 0) (h2 : sumF takenK r.xs = n) (h3 : -3 ≤ a ∧ a ≤ 27) : askM r n a = 0 := by unfold askM; rw [if_pos h, if_pos h2, if_pos h3]
theorem askM_zero {r : RowM} {n a : Int} (h : askM r n a = 0) : rowCodeM r.d r.c r.xs = 0 ∧ sumF takenK r.xs = n ∧ (-3 ≤ a ∧ a ≤ 27) := by
  by_cases h1 : rowCodeM r.d r.c r.xs = 0
  · by_cases h2 : sumF takenK r.xs = n
    · by_cases h3 : -3 ≤ a ∧ a ≤ 27
      · exact ⟨h1, h2, h3⟩
      · rw [askM_2 h1 h2 h3] at h; omega
    · rw [askM_10 h1 h2] at h; omega
  · rw [askM_row h1] at h; exact absurd h h1
theorem rowCode_zero {r : RowM} (h : rowCodeM r.d r.c r.xs = 0) : rowB r.d r.c r.xs = true ∧ laidB r.xs = true := by
  cases h1 : rowB r.d r.c r.xs with
  | false => rw [rowCode_bad h1] at h; omega
  | true =>
    cases h2 : laidB r.xs with
    | false => rw [rowCode_unlaid h1 h2] at h; omega
    | true => exact ⟨rfl, rfl⟩
def carOut (r : RowM) (n a : Int) : Int := if askM r n a = 0 then (rowTo r ([], a) r.xs.length).2 else 0
theorem ret_ii {a b c d : Int} (h : a = c) (h2 : b = d) : Ending.returned (.tuple #[.int .i64 a, .int .i64 b]) = .returned (.tuple #[.int .i64 c, .int .i64 d]) := by rw [h, h2]
set_option maxHeartbeats 4000000 in
theorem l23Ask_any (w : World) (S : Nat → Prop) (b o : Nat) (r : RowM) (n a : Int) (h : RowAt w S b o r) :
    Calls Tryz.prog 66 #[.pointer (some ⟨b, o, none⟩), .int .i64 n, .int .i64 a] w fun e w' => e = .returned (.int .i64 (askM r n a)) ∧ Up w w' := by
  obtain ⟨A, c, f0, f1, f2, h4, h5, h6⟩ := h.open_
  have U0 := Lib.hid (Chg.refl Nowhere w)
  have HA := Lib.hid h
  have HI4 := Lib.hid h4
  clear h h4 f0 f1
  by_cases hz : rowCodeM r.d r.c r.xs = 0
  rotate_left
  · have hzd : (rowCodeM r.d r.c r.xs == 0) = false := by simpa using hz
    have HM := Lib.hid (askM_row (n := n) (a := a) hz)
    clear hz
    go_enter Tryz.func66, Tryz.ntmps66
    go_wp2_with fail
    refine (l20Ask_any _ S _ _ r (HA.out.up (by repeat (first | exact Chg.refl _ _ | apply Chg.drew | apply Chg.drewN | refine Chg.alloc ?_ _)))).mono ?_
    rintro e w1 ⟨rfl, g1⟩
    have G1 := Lib.hid g1
    have hz1 := G1.out.size
    clear g1
    have U_2 := Lib.hid (Chg.trans U0.out (Chg.trans (by repeat (first | exact Chg.refl _ _ | apply Chg.drew | apply Chg.drewN | refine Chg.alloc ?_ _)) G1.out))
    clear U0
    have A_3 := Lib.hid (HA.out.up (Chg.trans (by repeat (first | exact Chg.refl _ _ | apply Chg.drew | apply Chg.drewN | refine Chg.alloc ?_ _)) G1.out))
    clear HA
    have J_4 := Lib.hid (HI4.out.up (Chg.trans (by repeat (first | exact Chg.refl _ _ | apply Chg.drew | apply Chg.drewN | refine Chg.alloc ?_ _)) G1.out))
    clear HI4
    have f2_5 := Chg.cell (Chg.trans (by repeat (first | exact Chg.refl _ _ | apply Chg.drew | apply Chg.drewN | refine Chg.alloc ?_ _)) G1.out) f2 id
    clear f2
    clear G1
    go_wp2
    go_ret
    exact ⟨ret_int HM.out.symm, (Chg.trans U_2.out (by repeat (first | exact Chg.refl _ _ | apply Chg.drew | apply Chg.drewN | refine Chg.alloc ?_ _)))⟩
  have HZ := Lib.hid hz
  have HS := Lib.hid (laid_st_results hz)
  clear hz
  by_cases ht : sumF takenK r.xs = n
  rotate_left
  · have htd : (sumF takenK r.xs != n) = true := by simpa using ht
    have HM := Lib.hid (askM_10 (a := a) HZ.out ht)
    clear ht
    go_enter Tryz.func66, Tryz.ntmps66
    go_wp2_with fail
    refine (l20Ask_any _ S _ _ r (HA.out.up (by repeat (first | exact Chg.refl _ _ | apply Chg.drew | apply Chg.drewN | refine Chg.alloc ?_ _)))).mono ?_
    rintro e w6 ⟨rfl, g1⟩
    have G1 := Lib.hid g1
    have hz6 := G1.out.size
    clear g1
    have U_7 := Lib.hid (Chg.trans U0.out (Chg.trans (by repeat (first | exact Chg.refl _ _ | apply Chg.drew | apply Chg.drewN | refine Chg.alloc ?_ _)) G1.out))
    clear U0
    have A_8 := Lib.hid (HA.out.up (Chg.trans (by repeat (first | exact Chg.refl _ _ | apply Chg.drew | apply Chg.drewN | refine Chg.alloc ?_ _)) G1.out))
    clear HA
    have J_9 := Lib.hid (HI4.out.up (Chg.trans (by repeat (first | exact Chg.refl _ _ | apply Chg.drew | apply Chg.drewN | refine Chg.alloc ?_ _)) G1.out))
    clear HI4
    have f2_10 := Chg.cell (Chg.trans (by repeat (first | exact Chg.refl _ _ | apply Chg.drew | apply Chg.drewN | refine Chg.alloc ?_ _)) G1.out) f2 id
    clear f2
    clear G1
    rw [HZ.out]
    go_wp2_with fail
    refine (sTakenBy_yes _ S _ r.xs (J_9.out.up (by repeat (first | exact Chg.refl _ _ | apply Chg.drew | apply Chg.drewN | refine Chg.alloc ?_ _))) HS.out).mono ?_
    rintro e w11 ⟨rfl, g1⟩
    have G1 := Lib.hid g1
    have hz11 := G1.out.size
    clear g1
    have U_12 := Lib.hid (Chg.trans U_7.out (Chg.trans (by repeat (first | exact Chg.refl _ _ | apply Chg.drew | apply Chg.drewN | refine Chg.alloc ?_ _)) G1.out))
    clear U_7
    have A_13 := Lib.hid (A_8.out.up (Chg.trans (by repeat (first | exact Chg.refl _ _ | apply Chg.drew | apply Chg.drewN | refine Chg.alloc ?_ _)) G1.out))
    clear A_8
    have J_14 := Lib.hid (J_9.out.up (Chg.trans (by repeat (first | exact Chg.refl _ _ | apply Chg.drew | apply Chg.drewN | refine Chg.alloc ?_ _)) G1.out))
    clear J_9
    have f2_15 := Chg.cell (Chg.trans (by repeat (first | exact Chg.refl _ _ | apply Chg.drew | apply Chg.drewN | refine Chg.alloc ?_ _)) G1.out) f2_10 id
    clear f2_10
    clear G1
    go_wp2
    go_ret
    exact ⟨ret_int HM.out.symm, (Chg.trans U_12.out (by repeat (first | exact Chg.refl _ _ | apply Chg.drew | apply Chg.drewN | refine Chg.alloc ?_ _)))⟩
  have htd : (sumF takenK r.xs != n) = false := by simpa using ht
  by_cases ha : -3 ≤ a ∧ a ≤ 27
  rotate_left
  · have HM := Lib.hid (askM_2 HZ.out ht ha)
    have HB := Lib.hid ha
    clear ha ht
    go_enter Tryz.func66, Tryz.ntmps66
    go_wp2_with fail
    refine (l20Ask_any _ S _ _ r (HA.out.up (by repeat (first | exact Chg.refl _ _ | apply Chg.drew | apply Chg.drewN | refine Chg.alloc ?_ _)))).mono ?_
    rintro e w16 ⟨rfl, g1⟩
    have G1 := Lib.hid g1
    have hz16 := G1.out.size
    clear g1
    have U_17 := Lib.hid (Chg.trans U0.out (Chg.trans (by repeat (first | exact Chg.refl _ _ | apply Chg.drew | apply Chg.drewN | refine Chg.alloc ?_ _)) G1.out))
    clear U0
    have A_18 := Lib.hid (HA.out.up (Chg.trans (by repeat (first | exact Chg.refl _ _ | apply Chg.drew | apply Chg.drewN | refine Chg.alloc ?_ _)) G1.out))
    clear HA
    have J_19 := Lib.hid (HI4.out.up (Chg.trans (by repeat (first | exact Chg.refl _ _ | apply Chg.drew | apply Chg.drewN | refine Chg.alloc ?_ _)) G1.out))
    clear HI4
    have f2_20 := Chg.cell (Chg.trans (by repeat (first | exact Chg.refl _ _ | apply Chg.drew | apply Chg.drewN | refine Chg.alloc ?_ _)) G1.out) f2 id
    clear f2
    clear G1
    rw [HZ.out]
    go_wp2_with fail
    refine (sTakenBy_yes _ S _ r.xs (J_19.out.up (by repeat (first | exact Chg.refl _ _ | apply Chg.drew | apply Chg.drewN | refine Chg.alloc ?_ _))) HS.out).mono ?_
    rintro e w21 ⟨rfl, g1⟩
    have G1 := Lib.hid g1
    have hz21 := G1.out.size
    clear g1
    have U_22 := Lib.hid (Chg.trans U_17.out (Chg.trans (by repeat (first | exact Chg.refl _ _ | apply Chg.drew | apply Chg.drewN | refine Chg.alloc ?_ _)) G1.out))
    clear U_17
    have A_23 := Lib.hid (A_18.out.up (Chg.trans (by repeat (first | exact Chg.refl _ _ | apply Chg.drew | apply Chg.drewN | refine Chg.alloc ?_ _)) G1.out))
    clear A_18
    have J_24 := Lib.hid (J_19.out.up (Chg.trans (by repeat (first | exact Chg.refl _ _ | apply Chg.drew | apply Chg.drewN | refine Chg.alloc ?_ _)) G1.out))
    clear J_19
    have f2_25 := Chg.cell (Chg.trans (by repeat (first | exact Chg.refl _ _ | apply Chg.drew | apply Chg.drewN | refine Chg.alloc ?_ _)) G1.out) f2_20 id
    clear f2_20
    clear G1
    go_wp2_with fail
    refine (l23At_no _ _ (by have := HB.out; omega)).mono ?_
    rintro e w' ⟨rfl, rfl⟩
    go_wp2
    go_ret
    exact ⟨ret_int HM.out.symm, (Chg.trans U_22.out (by repeat (first | exact Chg.refl _ _ | apply Chg.drew | apply Chg.drewN | refine Chg.alloc ?_ _)))⟩
  · have HM := Lib.hid (askM_0 HZ.out ht ha)
    have HB := Lib.hid ha
    clear ha ht
    go_enter Tryz.func66, Tryz.ntmps66
    go_wp2_with fail
    refine (l20Ask_any _ S _ _ r (HA.out.up (by repeat (first | exact Chg.refl _ _ | apply Chg.drew | apply Chg.drewN | refine Chg.alloc ?_ _)))).mono ?_
    rintro e w26 ⟨rfl, g1⟩
    have G1 := Lib.hid g1
    have hz26 := G1.out.size
    clear g1
    have U_27 := Lib.hid (Chg.trans U0.out (Chg.trans (by repeat (first | exact Chg.refl _ _ | apply Chg.drew | apply Chg.drewN | refine Chg.alloc ?_ _)) G1.out))
    clear U0
    have A_28 := Lib.hid (HA.out.up (Chg.trans (by repeat (first | exact Chg.refl _ _ | apply Chg.drew | apply Chg.drewN | refine Chg.alloc ?_ _)) G1.out))
    clear HA
    have J_29 := Lib.hid (HI4.out.up (Chg.trans (by repeat (first | exact Chg.refl _ _ | apply Chg.drew | apply Chg.drewN | refine Chg.alloc ?_ _)) G1.out))
    clear HI4
    have f2_30 := Chg.cell (Chg.trans (by repeat (first | exact Chg.refl _ _ | apply Chg.drew | apply Chg.drewN | refine Chg.alloc ?_ _)) G1.out) f2 id
    clear f2
    clear G1
    rw [HZ.out]
    go_wp2_with fail
    refine (sTakenBy_yes _ S _ r.xs (J_29.out.up (by repeat (first | exact Chg.refl _ _ | apply Chg.drew | apply Chg.drewN | refine Chg.alloc ?_ _))) HS.out).mono ?_
    rintro e w31 ⟨rfl, g1⟩
    have G1 := Lib.hid g1
    have hz31 := G1.out.size
    clear g1
    have U_32 := Lib.hid (Chg.trans U_27.out (Chg.trans (by repeat (first | exact Chg.refl _ _ | apply Chg.drew | apply Chg.drewN | refine Chg.alloc ?_ _)) G1.out))
    clear U_27
    have A_33 := Lib.hid (A_28.out.up (Chg.trans (by repeat (first | exact Chg.refl _ _ | apply Chg.drew | apply Chg.drewN | refine Chg.alloc ?_ _)) G1.out))
    clear A_28
    have J_34 := Lib.hid (J_29.out.up (Chg.trans (by repeat (first | exact Chg.refl _ _ | apply Chg.drew | apply Chg.drewN | refine Chg.alloc ?_ _)) G1.out))
    clear J_29
    have f2_35 := Chg.cell (Chg.trans (by repeat (first | exact Chg.refl _ _ | apply Chg.drew | apply Chg.drewN | refine Chg.alloc ?_ _)) G1.out) f2_30 id
    clear f2_30
    clear G1
    go_wp2_with fail
    refine (l23At_yes _ _ HB.out).mono ?_
    rintro e w' ⟨rfl, rfl⟩
    go_wp2
    go_ret
    exact ⟨ret_int HM.out.symm, (Chg.trans U_32.out (by repeat (first | exact Chg.refl _ _ | apply Chg.drew | apply Chg.drewN | refine Chg.alloc ?_ _)))⟩
set_option maxHeartbeats 4000000 in
theorem sCarrierAfter_any (w : World) (S : Nat → Prop) (v : Value) (r : RowM) (h : RowV w S v r) (n a : Int) :
    Calls Tryz.prog 48 #[v, .int .i64 n, .int .i64 a] w fun e w' => e = .returned (.tuple #[.int .i64 (carOut r n a), .int .i64 (askM r n a)]) ∧ Up w w' := by
  have hii : I64 r.d ∧ I64 r.c := by obtain ⟨_, _, _, h1, h2⟩ := h; exact ⟨h1, h2⟩
  obtain ⟨A, c, rfl, h4, h5, h6⟩ := openRow h
  have U0 := Lib.hid (Chg.refl Nowhere w)
  have HI := Lib.hid h
  have HI4 := Lib.hid h4
  have HII := Lib.hid hii
  clear h4 h hii
  by_cases hz : askM r n a = 0
  rotate_left
  · have HO := Lib.hid (show carOut r n a = 0 from if_neg hz)
    have hz2 : (askM r n a != 0) = true := by simpa using hz
    clear hz
    have U_1 := Lib.hid (Chg.trans U0.out ((Chg.refl Nowhere w).alloc (.cells #[.int .i64 r.d, .int .i64 r.c, .slice A r.xs.length c] 72)))
    clear U0
    have I_2 := Lib.hid (HI.out.up ((Chg.refl Nowhere w).alloc (.cells #[.int .i64 r.d, .int .i64 r.c, .slice A r.xs.length c] 72)))
    clear HI
    have q0_3 := (show (w.alloc (.cells #[.int .i64 r.d, .int .i64 r.c, .slice A r.xs.length c] 72)).cell? ⟨w.heap.size, 0, none⟩ = some (.int .i64 r.d) from cell_new _ _ _ _)
    have q1_4 := (show (w.alloc (.cells #[.int .i64 r.d, .int .i64 r.c, .slice A r.xs.length c] 72)).cell? ⟨w.heap.size, 1, none⟩ = some (.int .i64 r.c) from cell_new _ _ _ _)
    have q2_5 := (show (w.alloc (.cells #[.int .i64 r.d, .int .i64 r.c, .slice A r.xs.length c] 72)).cell? ⟨w.heap.size, 2, none⟩ = some (.slice A r.xs.length c) from cell_new _ _ _ _)
    have hbx6 : w.heap.size < (w.alloc (.cells #[.int .i64 r.d, .int .i64 r.c, .slice A r.xs.length c] 72)).heap.size := by simp
    have HA := Lib.hid (show RowAt (w.alloc (.cells #[.int .i64 r.d, .int .i64 r.c, .slice A r.xs.length c] 72)) S w.heap.size 0 r from ⟨A, c, cell_new _ _ _ _, cell_new _ _ _ _, cell_new _ _ _ _, HI4.out.up ((Chg.refl Nowhere _).alloc _), h5, h6, HII.out, by simp⟩)
    go_enter Tryz.func48, Tryz.ntmps48
    go_wp2_with fail
    refine (l23Ask_any _ S _ _ r n a (HA.out.up (by repeat (first | exact Chg.refl _ _ | apply Chg.drew | apply Chg.drewN | refine Chg.alloc ?_ _)))).mono ?_
    rintro e w7 ⟨rfl, g1⟩
    have G1 := Lib.hid g1
    have hz7 := G1.out.size
    clear g1
    have U_8 := Lib.hid (Chg.trans U_1.out (Chg.trans (by repeat (first | exact Chg.refl _ _ | apply Chg.drew | apply Chg.drewN | refine Chg.alloc ?_ _)) G1.out))
    clear U_1
    have I_9 := Lib.hid (I_2.out.up (Chg.trans (by repeat (first | exact Chg.refl _ _ | apply Chg.drew | apply Chg.drewN | refine Chg.alloc ?_ _)) G1.out))
    clear I_2
    have q0_10 := Chg.cell (Chg.trans (by repeat (first | exact Chg.refl _ _ | apply Chg.drew | apply Chg.drewN | refine Chg.alloc ?_ _)) G1.out) q0_3 id
    clear q0_3
    have q1_11 := Chg.cell (Chg.trans (by repeat (first | exact Chg.refl _ _ | apply Chg.drew | apply Chg.drewN | refine Chg.alloc ?_ _)) G1.out) q1_4 id
    clear q1_4
    have q2_12 := Chg.cell (Chg.trans (by repeat (first | exact Chg.refl _ _ | apply Chg.drew | apply Chg.drewN | refine Chg.alloc ?_ _)) G1.out) q2_5 id
    clear q2_5
    have A_13 := Lib.hid (HA.out.up (Chg.trans (by repeat (first | exact Chg.refl _ _ | apply Chg.drew | apply Chg.drewN | refine Chg.alloc ?_ _)) G1.out))
    clear HA
    clear G1
    go_wp2
    go_ret2
    exact ⟨ret_ii HO.out.symm rfl, (Chg.trans U_8.out (by repeat (first | exact Chg.refl _ _ | apply Chg.drew | apply Chg.drewN | refine Chg.alloc ?_ _)))⟩
  have HO := Lib.hid (show carOut r n a = (rowTo r ([], a) r.xs.length).2 from if_pos hz)
  have HZ := Lib.hid hz
  have HZ2 := Lib.hid (askM_zero hz)
  clear hz
  have U_14 := Lib.hid (Chg.trans U0.out ((Chg.refl Nowhere w).alloc (.cells #[.int .i64 r.d, .int .i64 r.c, .slice A r.xs.length c] 72)))
  clear U0
  have I_15 := Lib.hid (HI.out.up ((Chg.refl Nowhere w).alloc (.cells #[.int .i64 r.d, .int .i64 r.c, .slice A r.xs.length c] 72)))
  clear HI
  have q0_16 := (show (w.alloc (.cells #[.int .i64 r.d, .int .i64 r.c, .slice A r.xs.length c] 72)).cell? ⟨w.heap.size, 0, none⟩ = some (.int .i64 r.d) from cell_new _ _ _ _)
  have q1_17 := (show (w.alloc (.cells #[.int .i64 r.d, .int .i64 r.c, .slice A r.xs.length c] 72)).cell? ⟨w.heap.size, 1, none⟩ = some (.int .i64 r.c) from cell_new _ _ _ _)
  have q2_18 := (show (w.alloc (.cells #[.int .i64 r.d, .int .i64 r.c, .slice A r.xs.length c] 72)).cell? ⟨w.heap.size, 2, none⟩ = some (.slice A r.xs.length c) from cell_new _ _ _ _)
  have hbx19 : w.heap.size < (w.alloc (.cells #[.int .i64 r.d, .int .i64 r.c, .slice A r.xs.length c] 72)).heap.size := by simp
  have HA := Lib.hid (show RowAt (w.alloc (.cells #[.int .i64 r.d, .int .i64 r.c, .slice A r.xs.length c] 72)) S w.heap.size 0 r from ⟨A, c, cell_new _ _ _ _, cell_new _ _ _ _, cell_new _ _ _ _, HI4.out.up ((Chg.refl Nowhere _).alloc _), h5, h6, HII.out, by simp⟩)
  go_enter Tryz.func48, Tryz.ntmps48
  go_wp2_with fail
  refine (l23Ask_any _ S _ _ r n a (HA.out.up (by repeat (first | exact Chg.refl _ _ | apply Chg.drew | apply Chg.drewN | refine Chg.alloc ?_ _)))).mono ?_
  rintro e w20 ⟨rfl, g1⟩
  have G1 := Lib.hid g1
  have hz20 := G1.out.size
  clear g1
  have U_21 := Lib.hid (Chg.trans U_14.out (Chg.trans (by repeat (first | exact Chg.refl _ _ | apply Chg.drew | apply Chg.drewN | refine Chg.alloc ?_ _)) G1.out))
  clear U_14
  have I_22 := Lib.hid (I_15.out.up (Chg.trans (by repeat (first | exact Chg.refl _ _ | apply Chg.drew | apply Chg.drewN | refine Chg.alloc ?_ _)) G1.out))
  clear I_15
  have q0_23 := Chg.cell (Chg.trans (by repeat (first | exact Chg.refl _ _ | apply Chg.drew | apply Chg.drewN | refine Chg.alloc ?_ _)) G1.out) q0_16 id
  clear q0_16
  have q1_24 := Chg.cell (Chg.trans (by repeat (first | exact Chg.refl _ _ | apply Chg.drew | apply Chg.drewN | refine Chg.alloc ?_ _)) G1.out) q1_17 id
  clear q1_17
  have q2_25 := Chg.cell (Chg.trans (by repeat (first | exact Chg.refl _ _ | apply Chg.drew | apply Chg.drewN | refine Chg.alloc ?_ _)) G1.out) q2_18 id
  clear q2_18
  have A_26 := Lib.hid (HA.out.up (Chg.trans (by repeat (first | exact Chg.refl _ _ | apply Chg.drew | apply Chg.drewN | refine Chg.alloc ?_ _)) G1.out))
  clear HA
  clear G1
  rw [HZ.out]
  go_wp2_with fail
  refine (l23Stitches_any _ S _ _ r a (A_26.out.up (by repeat (first | exact Chg.refl _ _ | apply Chg.drew | apply Chg.drewN | refine Chg.alloc ?_ _))) HZ2.out.1 HZ2.out.2.2).mono ?_
  rintro e w27 ⟨v27, rfl, k1, g1⟩
  have K1 := Lib.hid k1
  clear k1
  have G1 := Lib.hid g1
  have hz27 := G1.out.size
  clear g1
  have U_28 := Lib.hid (Chg.trans U_21.out (Chg.trans (by repeat (first | exact Chg.refl _ _ | apply Chg.drew | apply Chg.drewN | refine Chg.alloc ?_ _)) G1.out))
  clear U_21
  have I_29 := Lib.hid (I_22.out.up (Chg.trans (by repeat (first | exact Chg.refl _ _ | apply Chg.drew | apply Chg.drewN | refine Chg.alloc ?_ _)) G1.out))
  clear I_22
  have q0_30 := Chg.cell (Chg.trans (by repeat (first | exact Chg.refl _ _ | apply Chg.drew | apply Chg.drewN | refine Chg.alloc ?_ _)) G1.out) q0_23 id
  clear q0_23
  have q1_31 := Chg.cell (Chg.trans (by repeat (first | exact Chg.refl _ _ | apply Chg.drew | apply Chg.drewN | refine Chg.alloc ?_ _)) G1.out) q1_24 id
  clear q1_24
  have q2_32 := Chg.cell (Chg.trans (by repeat (first | exact Chg.refl _ _ | apply Chg.drew | apply Chg.drewN | refine Chg.alloc ?_ _)) G1.out) q2_25 id
  clear q2_25
  have A_33 := Lib.hid (A_26.out.up (Chg.trans (by repeat (first | exact Chg.refl _ _ | apply Chg.drew | apply Chg.drewN | refine Chg.alloc ?_ _)) G1.out))
  clear A_26
  clear G1
  have K_34 := Lib.hid (K1.out)
  clear K1
  go_wp2
  go_ret2
  exact ⟨ret_ii HO.out.symm HZ.out.symm, (Chg.trans U_28.out (by repeat (first | exact Chg.refl _ _ | apply Chg.drew | apply Chg.drewN | refine Chg.alloc ?_ _)))⟩
end Go.Proofs.YtnjfhpgmogopnaaGreat
namespace Go.Proofs.YtnjfhpgmogopnaaGreat
open Go.ChangeShapes Go.WideShapes Go.ChangeAt Go.RowKit
set_option maxHeartbeats 4000000 in
theorem l21Ask_any (w : World) (S T : Nat → Prop) (v u : Value) (xs ys : List Int) (h : Ints w S v xs) (h2 : Ints w T u ys) :
    Calls Tryz.prog 132 #[v, u] w fun e w' => e = .returned (.int .i64 (planCode xs ys)) ∧ Drawn w w' := by
  obtain ⟨A, c, rfl, hlc, hcm, -⟩ := h.shape
  obtain ⟨A2, c2, rfl, hlc2, hcm2, -⟩ := h2.shape
  have H := Lib.hid h
  have H2 := Lib.hid h2
  clear h h2
  by_cases hp1 : placesB false xs = true
  rotate_left
  · have hp1' := Bool.eq_false_iff.2 hp1
    have HC := Lib.hid (planCode_1 (ys := ys) (.inl hp1'))
    have HP1 := Lib.hid hp1'
    clear hp1 hp1'
    rw [HC.out]
    go_enter Tryz.func132, Tryz.ntmps132
    go_wp2_with fail
    refine (l21Places_any _ S _ xs _ H.out).mono ?_
    rintro e w1 ⟨rfl, g1⟩
    rw [HP1.out]
    go_wp2
    go_ret
    exact ⟨rfl, g1⟩
  have HP1 := Lib.hid hp1
  clear hp1
  by_cases hp2 : placesB true ys = true
  rotate_left
  · have hp2' := Bool.eq_false_iff.2 hp2
    have HC := Lib.hid (planCode_1 (xs := xs) (.inr (.inl hp2')))
    have HP2 := Lib.hid hp2'
    clear hp2 hp2'
    rw [HC.out]
    go_enter Tryz.func132, Tryz.ntmps132
    go_wp2_with fail
    refine (l21Places_any _ S _ xs _ H.out).mono ?_
    rintro e w1 ⟨rfl, g1⟩
    rw [HP1.out]
    go_wp2_with fail
    refine (l21Places_any _ T _ ys _ (H2.out.up g1.up)).mono ?_
    rintro e w2 ⟨rfl, g2⟩
    rw [HP2.out]
    go_wp2
    go_ret
    exact ⟨rfl, g1.trans g2⟩
  have HP2 := Lib.hid hp2
  clear hp2
  by_cases hln : xs.length = ys.length
  rotate_left
  · have HC := Lib.hid (planCode_1 (xs := xs) (ys := ys) (.inr (.inr hln)))
    have hne : ((xs.length : Int) != ys.length) = true := by
      rw [bne_iff_ne]
      intro h
      exact hln (by omega)
    clear hln
    rw [HC.out]
    go_enter Tryz.func132, Tryz.ntmps132
    go_wp2_with fail
    refine (l21Places_any _ S _ xs _ H.out).mono ?_
    rintro e w1 ⟨rfl, g1⟩
    rw [HP1.out]
    go_wp2_with fail
    refine (l21Places_any _ T _ ys _ (H2.out.up g1.up)).mono ?_
    rintro e w2 ⟨rfl, g2⟩
    rw [HP2.out]
    go_wp2
    go_ret
    exact ⟨rfl, g1.trans g2⟩
  have hne : ((xs.length : Int) != ys.length) = false := by
    rw [bne_eq_false_iff_eq]
    omega
  have hy8 := places_short HP2.out
  have HLen := Lib.hid hln
  clear hln
  cases hgb : groupsB xs ys with
  | false =>
    have HC := Lib.hid (planCode_12 HP1.out HP2.out HLen.out hgb)
    have HGB := Lib.hid hgb
    clear hgb
    rw [HC.out]
    go_enter Tryz.func132, Tryz.ntmps132
    go_wp2_with fail
    refine (l21Places_any _ S _ xs _ H.out).mono ?_
    rintro e w1 ⟨rfl, g1⟩
    rw [HP1.out]
    go_wp2_with fail
    refine (l21Places_any _ T _ ys _ (H2.out.up g1.up)).mono ?_
    rintro e w2 ⟨rfl, g2⟩
    rw [HP2.out]
    go_wp2_with fail
    refine (l21Groups_any _ S T _ _ xs ys (H.out.up (g1.trans g2).up) (H2.out.up (g1.trans g2).up) HLen.out hy8).mono ?_
    rintro e w3 ⟨rfl, g3⟩
    rw [HGB.out]
    go_wp2
    go_ret
    exact ⟨rfl, (g1.trans g2).trans g3⟩
  | true =>
    have HC := Lib.hid (planCode_ok HP1.out HP2.out HLen.out hgb)
    have HGB := Lib.hid hgb
    clear hgb
    rw [HC.out]
    go_enter Tryz.func132, Tryz.ntmps132
    go_wp2_with fail
    refine (l21Places_any _ S _ xs _ H.out).mono ?_
    rintro e w1 ⟨rfl, g1⟩
    rw [HP1.out]
    go_wp2_with fail
    refine (l21Places_any _ T _ ys _ (H2.out.up g1.up)).mono ?_
    rintro e w2 ⟨rfl, g2⟩
    rw [HP2.out]
    go_wp2_with fail
    refine (l21Groups_any _ S T _ _ xs ys (H.out.up (g1.trans g2).up) (H2.out.up (g1.trans g2).up) HLen.out hy8).mono ?_
    rintro e w3 ⟨rfl, g3⟩
    rw [HGB.out]
    go_wp2
    go_ret
    exact ⟨rfl, (g1.trans g2).trans g3⟩
theorem planCode_zero {xs ys : List Int} (h : planCode xs ys = 0) : PlanOk xs ys := by
  unfold planCode at h
  split at h
  · rename_i hh
    exact planOk_of hh.1 hh.2.1 hh.2.2
  · omega
end Go.Proofs.YtnjfhpgmogopnaaGreat
namespace Go.Proofs.YtnjfhpgmogopnaaGreat
open Go.ChangeShapes Go.WideShapes Go.ChangeAt Go.RowKit
set_option linter.unusedVariables false in
set_option maxRecDepth 100000 in
set_option maxHeartbeats 8000000 in
theorem sMoveColumns_any (w : World) (S : Nat → Prop) (v : Value) (xs : List Int) (h : Ints w S v xs) (T : Nat → Prop) (u : Value) (ys : List Int) (h2 : Ints w T u ys) :
    Calls Tryz.prog 100 #[v, u] w fun e w' => ∃ v', e = .returned (.tuple #[v', .int .i64 (planCode xs ys)]) ∧ Ops w' (New w.heap.size w'.heap.size) v' (colsOut xs ys) ∧ Up w w' := by
  obtain ⟨A, c, rfl, hlc, hcm, -⟩ := h.shape
  obtain ⟨A2, c2, rfl, hlc2, hcm2, -⟩ := h2.shape
  have H := Lib.hid h
  have H2 := Lib.hid h2
  clear h h2
  by_cases hz : planCode xs ys = 0
  · have HZ := Lib.hid hz
    clear hz
    go_enter Tryz.func100, Tryz.ntmps100
    go_wp2_with fail
    refine (l21Ask_any _ S T _ _ xs ys H.out H2.out).mono ?_
    rintro e w1 ⟨rfl, g1⟩
    rw [HZ.out]
    have G1 := Lib.hid g1.up
    clear g1
    go_wp2_with fail
    refine (l21Columns_any _ S T _ _ xs ys (H.out.up G1.out) (H2.out.up G1.out) HZ.out).mono ?_
    rintro e w2 ⟨v, rfl, k1, g2⟩
    have hzz := G1.out.size
    have K1 := Lib.hid k1
    have G2 := Lib.hid g2
    clear k1 g2
    go_wp2
    go_ret2
    exact ⟨_, ret_mi HZ.out.symm, K1.out.mono (fun b _ hb => ⟨Nat.le_trans hzz hb.1, hb.2⟩), Chg.trans G1.out G2.out⟩
  · have HE := Lib.hid (show colsOut xs ys = [] by unfold colsOut; rw [planOut_no rfl hz]; rfl)
    have hb : (planCode xs ys != 0) = true := by simpa using hz
    clear hz
    go_enter Tryz.func100, Tryz.ntmps100
    go_wp2_with fail
    refine (l21Ask_any _ S T _ _ xs ys H.out H2.out).mono ?_
    rintro e w1 ⟨rfl, g1⟩
    have G1 := Lib.hid g1.up
    clear g1
    go_wp2
    go_ret2
    exact ⟨_, rfl, by rw [HE.out]; exact Ops.nil _ _ _ _ (by omega), G1.out⟩
set_option linter.unusedVariables false in
set_option maxRecDepth 100000 in
set_option maxHeartbeats 8000000 in
theorem l23Crossings_own (w : World) (S : Nat → Prop) (b o : Nat) (r : RowM) (h : RowAt w S b o r) (hr : rowCodeM r.d r.c r.xs = 0) :
    Calls Tryz.prog 67 #[.pointer (some ⟨b, o, none⟩)] w fun e w' => ∃ v, e = .returned (.tuple #[v, .int .i64 0]) ∧ OwnO w' w.heap.size v (crossL 1 (letL 0 r.xs)) ∧ Up w w' := by
  have HR := Lib.hid h
  have HS := Lib.hid (laid_st_results hr)
  have HW := Lib.hid (show letOk 7 (letL 0 r.xs) from fun k hk => absI_bd ((laid_of hr).letters k hk))
  have hl := (laid_of hr).len
  have hll := letL_length r.xs 0
  have M0 := Lib.hid (OwnO.made w w.heap.size (Nat.le_refl _))
  clear h hr
  go_enter Tryz.func67, Tryz.ntmps67
  go_wp2_with fail
  refine (l18Letters_any _ S _ _ r (HR.out.up (by repeat (first | exact Chg.refl _ _ | apply Chg.drew | apply Chg.drewN | refine Chg.alloc ?_ _))) HS.out).mono ?_
  rintro e w1 ⟨v1, rfl, k1, g1⟩
  obtain ⟨A, c, rfl, hlc, hcm, -⟩ := k1.shape
  have hz1 := g1.size
  have H := Lib.hid k1
  have M1 := Lib.hid (M0.out.up g1)
  have G1 := Lib.hid (Chg.trans (show Up w _ from (by repeat (first | exact Chg.refl _ _ | apply Chg.drew | apply Chg.drewN | refine Chg.alloc ?_ _))) g1)
  have hz0 := G1.out.size
  clear k1 g1 M0
  have hbb : w.heap.size + 1 ≤ w1.heap.size := by simp at hz1; omega
  generalize hws : letL 0 r.xs = ws at *
  have HWS := Lib.hid hws
  clear hws
  go_wp2
  go_loopw [4, 6, 7, 8] (fun v i _ _ wr => ∃ j : Nat, j ≤ ws.length ∧ i = .int .i64 j ∧ Hid (OwnO wr w.heap.size v (crossL 1 (ws.take j))) ∧ Hid (∀ g, v.ownBlock = some g → g < w.heap.size + 1 ∨ w1.heap.size ≤ g) ∧ Hid (Up w wr) ∧ Hid (Ints wr (New (w.heap.size + 1) w1.heap.size) (.slice A ws.length c) ws) ∧ w1.heap.size ≤ wr.heap.size) (fun _ i _ _ _ => ws.length - (intOf i).toNat)
  case atStart => exact ⟨0, by omega, rfl, by simpa [Hid, crossL] using M1.out, fun g hg => .inl (by simp [Value.ownBlock] at hg; omega), G1.out, H.out.mono (fun x _ hx => ⟨by have := hx.1; simp at this; exact this, hx.2⟩), Nat.le_refl _⟩
  clear M1 H
  case round =>
    obtain ⟨j, hj, rfl, ho, hf, hg, hK, hsz1⟩ := hrel
    by_cases hlt : j < ws.length
    · obtain ⟨b1, o1, he1, hbl, hc⟩ := hK.out.ix hlt
      obtain rfl : A = some ⟨b1, o1, none⟩ := he1
      have f1 := hc j hlt
      rw [ix_eq hlt] at f1
      obtain ⟨ha0, ha1⟩ := HW.out _ (List.getElem_mem hlt)
      have HB := Lib.hid (needle_letter ⟨ha0, ha1⟩)
      have hk := absI_le ha1
      have HT := Lib.hid (crossL_take 1 hlt)
      have HLL := Lib.hid (show (crossL 1 (ws.take j)).length + (crossM (1 + 2 * (absI ws[j] - 1)) (decide (0 < ws[j]))).length ≤ 1099511627776 by rw [crossL_len, crossM_length, List.length_take]; omega)
      have HE := Lib.hid (show 2 * (absI ws[j] - 1) + 1 = 1 + 2 * (absI ws[j] - 1) by omega)
      have hsz := hg.out.size
      clear hc
      go_wp2
      have w1s : IntKind.i64.wrap (absI ws[j] - 1) = absI ws[j] - 1 := IntWalk.i64_in _ (by omega)
      go_region_held3 (fun w' => w'.cell? ⟨b1, o1 + j, none⟩ = some (.int .i64 ws[j]))
        (first | (exact f1) | (exact Chg.cell g1 (by assumption) id))
        (first | (go_at_call 98; refine (sAbs_any _ _ ⟨by omega, by omega⟩).mono ?_; rintro e w' ⟨rfl, rfl⟩) | (go_at_call 65; refine (l20Needle_any _ _ ?_).mono ?_; (exact HB.out.2); rintro e w' ⟨rfl, rfl⟩) | (go_at_call 97; refine (sCrossColumns_ok _ _ _ ?_).mono ?_; (exact HB.out.1); rintro e w2 ⟨v1, rfl, k1, g1⟩; obtain ⟨A1, c1, rfl, hl1, hc1, -⟩ := k1.shape; have HK1 := Lib.hid k1; have HO1 := Lib.hid (OwnO.up (ho.out.up (by repeat (first | exact Chg.refl _ _ | apply Chg.drew | apply Chg.drewN | refine Chg.alloc ?_ _))) g1); have HG1 := Lib.hid (Chg.trans (Chg.trans hg.out (by repeat (first | exact Chg.refl _ _ | apply Chg.drew | apply Chg.drewN | refine Chg.alloc ?_ _))) g1); have HKK := Lib.hid (Ints.up (hK.out.up (by repeat (first | exact Chg.refl _ _ | apply Chg.drew | apply Chg.drewN | refine Chg.alloc ?_ _))) g1); have hsz2 := HG1.out.size; have hsz3 : wr.heap.size ≤ w2.heap.size := g1.size))
      clear g1 f1
      have HM := Lib.hid (show crossL 1 (ws.take (j + 1)) = crossL 1 (ws.take j) ++ crossM (2 * (absI ws[j] - 1) + 1) (decide (0 < ws[j])) by rw [HT.out, HE.out])
      have HLM := Lib.hid (show (crossL 1 (ws.take j)).length + (crossM (2 * (absI ws[j] - 1) + 1) (decide (0 < ws[j]))).length ≤ 1099511627776 by have := HLL.out; rw [crossM_length] at *; exact this)
      clear ho hg hK
      go_wp2_with (first | (at_builtin; refine wp_append_ops2 rfl _ _ rfl w.heap.size _ (crossL 1 (ws.take j)) rfl HO1.out _ _ (crossM (2 * (absI ws[j] - 1) + 1) (decide (0 < ws[j]))) rfl HK1.out HLM.out ?_ ?_; (first | omega | (simp; omega)); intro v' w3 ho1 ho2 ho3 hg1; have HO := Lib.hid ho1; have HB2 := Lib.hid ho2; have HB3 := Lib.hid ho3; have HG := Lib.hid (Chg.new HG1.out hg1 (fun i hi => by omega)); have hsz4 : w2.heap.size ≤ w3.heap.size := hg1.size; clear ho1 ho2 ho3 hg1))
      go_roundw
      case rel => exact ⟨j + 1, by omega, by go_num, by rw [HM.out]; exact HO.out, fun g hgg => (HB3.out g hgg).elim (hf.out g) (fun hh => .inr (by have h9 : w2.heap.size ≤ g := hh; omega)), HG.out, HKK.out.keep HB2.out (fun x _ hx hv => by have := hf.out x hv; simp only [New] at hx; omega), by omega⟩
      case measure => simp [intOf]; omega
    · obtain rfl : j = ws.length := by omega
      have HX := Lib.hid (show ws.take ws.length = ws by rw [List.take_length])
      go_wp2
      go_ret2
      exact ⟨_, rfl, by have := ho.out; rw [HX.out] at this; rw [HWS.out]; exact this, hg.out⟩
def movesM (xs : List Int) : List OpM := colsOut (ownsL (trL 0 0 xs)) (togL (trL 0 0 xs)) ++ colsOut (onceL (togL (trL 0 0 xs)) (togL (trL 0 0 xs)) (togL (trL 0 0 xs)).length) (onceL (togL (trL 0 0 xs)) (movL (trL 0 0 xs)) (togL (trL 0 0 xs)).length)
theorem preM_eq (xs : List Int) : preM xs = crossL 1 (letL 0 xs) ++ movesM xs := by unfold preM movesM; rw [List.append_assoc]
set_option linter.unusedVariables false in
set_option maxRecDepth 100000 in
set_option maxHeartbeats 8000000 in
theorem l23Moves_any (w : World) (S : Nat → Prop) (b o : Nat) (r : RowM) (h : RowAt w S b o r) (hr : rowCodeM r.d r.c r.xs = 0) :
    Calls Tryz.prog 68 #[.pointer (some ⟨b, o, none⟩)] w fun e w' => ∃ v, e = .returned (.tuple #[v, .int .i64 0]) ∧ Ops w' (New w.heap.size w'.heap.size) v (movesM r.xs) ∧ Up w w' := by
  have HR := Lib.hid h
  have HS := Lib.hid (laid_st_results hr)
  have HTR := Lib.hid (laid_of hr).tr
  have hl := (laid_of hr).len
  obtain ⟨A, c, f0, f1, f2, h4, h5, h6⟩ := h.open_
  have U0 := Lib.hid (Chg.refl Nowhere w)
  clear h hr h4 f0 f1 f2
  obtain ⟨ts, hts⟩ : ∃ ts, trL 0 0 r.xs = ts := ⟨_, rfl⟩
  have HTS := Lib.hid hts
  rw [hts] at HTR
  have HC1 := Lib.hid (plan1_ok HTR.out)
  have HC2 := Lib.hid (plan2_ok HTR.out)
  have htl : ts.length ≤ 8 := HTR.out.len
  clear hts
  go_enter Tryz.func68, Tryz.ntmps68
  go_wp2_with fail
  refine (l20Targets_any _ S _ _ r (HR.out.up (by repeat (first | exact Chg.refl _ _ | apply Chg.drew | apply Chg.drewN | refine Chg.alloc ?_ _))) HS.out).mono ?_
  rw [HTS.out]
  rintro e w1 ⟨v1, v2, v3, rfl, k1, g1⟩
  have K1 := Lib.hid k1
  have G1 := Lib.hid g1
  have hz1 := G1.out.size
  clear k1 g1
  have U_1 := Lib.hid (Chg.trans U0.out (Chg.trans (by repeat (first | exact Chg.refl _ _ | apply Chg.drew | apply Chg.drewN | refine Chg.alloc ?_ _)) G1.out))
  clear U0
  have R_2 := Lib.hid (HR.out.up (Chg.trans (by repeat (first | exact Chg.refl _ _ | apply Chg.drew | apply Chg.drewN | refine Chg.alloc ?_ _)) G1.out))
  clear HR
  clear G1
  clear R_2
  have J1_3 := Lib.hid (show Ints w1 (New w.heap.size w1.heap.size) v1 (ownsL ts) from K1.out.o1.ints)
  obtain ⟨A1, c1, rfl, hl1, hc1, -⟩ := J1_3.out.shape
  have J2_4 := Lib.hid (show Ints w1 (New w.heap.size w1.heap.size) v2 (togL ts) from K1.out.o2.ints)
  obtain ⟨A2, c2, rfl, hl2, hc2, -⟩ := J2_4.out.shape
  have J3_5 := Lib.hid (show Ints w1 (New w.heap.size w1.heap.size) v3 (movL ts) from K1.out.o3.ints)
  obtain ⟨A3, c3, rfl, hl3, hc3, -⟩ := J3_5.out.shape
  clear K1
  go_wp2_with fail
  refine (sMoveColumns_any _ _ _ (ownsL ts) (J1_3.out.up (by repeat (first | exact Chg.refl _ _ | apply Chg.drew | apply Chg.drewN | refine Chg.alloc ?_ _))) _ _ (togL ts) (J2_4.out.up (by repeat (first | exact Chg.refl _ _ | apply Chg.drew | apply Chg.drewN | refine Chg.alloc ?_ _)))).mono ?_
  rintro e w6 ⟨v6, rfl, k1, g1⟩
  obtain ⟨A6, c6, rfl, hl6, hc6, -⟩ := k1.shape
  have K1 := Lib.hid k1
  clear k1
  have G1 := Lib.hid g1
  have hz6 := G1.out.size
  clear g1
  have U_7 := Lib.hid (Chg.trans U_1.out (Chg.trans (by repeat (first | exact Chg.refl _ _ | apply Chg.drew | apply Chg.drewN | refine Chg.alloc ?_ _)) G1.out))
  clear U_1
  have J1_8 := Lib.hid (J1_3.out.up (Chg.trans (by repeat (first | exact Chg.refl _ _ | apply Chg.drew | apply Chg.drewN | refine Chg.alloc ?_ _)) G1.out))
  clear J1_3
  have J2_9 := Lib.hid (J2_4.out.up (Chg.trans (by repeat (first | exact Chg.refl _ _ | apply Chg.drew | apply Chg.drewN | refine Chg.alloc ?_ _)) G1.out))
  clear J2_4
  have J3_10 := Lib.hid (J3_5.out.up (Chg.trans (by repeat (first | exact Chg.refl _ _ | apply Chg.drew | apply Chg.drewN | refine Chg.alloc ?_ _)) G1.out))
  clear J3_5
  clear G1
  have K_11 := Lib.hid (K1.out)
  clear K1
  rw [HC1.out]
  obtain ⟨xs, hxs⟩ : ∃ xs, togL ts = xs := ⟨_, rfl⟩
  obtain ⟨ys, hys⟩ : ∃ ys, movL ts = ys := ⟨_, rfl⟩
  have hlx : xs.length = ts.length := by rw [← hxs]; simp [togL]
  have hly : ys.length = xs.length := by rw [← hys, hlx]; simp [movL]
  have HXS := Lib.hid hxs
  have HYS := Lib.hid hys
  rw [hxs] at J2_9
  rw [hys] at J3_10
  have hl2' := hl2
  have hl3' := hl3
  clear hl2 hl3
  rw [hxs] at hl2'
  rw [hys] at hl3'
  simp only [hxs, hys]
  clear hxs hys
  have hxi : ∀ i, i < xs.length → I64 (ix xs i) := fun i hi => by obtain ⟨_, _, _, _, _, hq, _⟩ := J2_9.out; rw [ix_eq hi]; exact hq _ (List.getElem_mem hi)
  have hyi : ∀ i, i < xs.length → I64 (ix ys i) := fun i hi => by obtain ⟨_, _, _, _, _, hq, _⟩ := J3_10.out; rw [ix_eq (by omega)]; exact hq _ (List.getElem_mem (by omega))
  have HXI := Lib.hid hxi
  have HYI := Lib.hid hyi
  have hyl : xs.length ≤ ys.length ∧ ys.length ≤ xs.length := by omega
  have hxl : xs.length ≤ 8 := by omega
  have HLX := Lib.hid hlx
  clear hxi hyi hlx hly
  have M1 := Lib.hid ((OwnI.made w6 w6.heap.size (Nat.le_refl _)).alloc (.cells #[] 2))
  have M2 := Lib.hid (OwnI.made (w6.alloc (.cells #[] 2)) w6.heap.size (by simp))
  go_wp2
  go_loopw [9, 10, 11] (fun v1 v2 i wr => ∃ j : Nat, j ≤ xs.length ∧ i = .int .i64 j ∧ Hid (T3 wr w6.heap.size 0 0 v1 v2 (.slice none 0 0) (onceL xs xs j) (onceL xs ys j) [] (.slice none 0 0) (.slice none 0 0) [] []) ∧ Hid (Up w6 wr)) (fun _ _ i _ => xs.length - (intOf i).toNat)
  case atStart => exact ⟨0, by omega, rfl, ⟨by simpa [onceL, keepTo] using M1.out, by simpa [onceL, keepTo] using M2.out, OwnI.nil _ _, fun g h => by simp [Value.ownBlock] at *; omega, fun g h => by simp [Value.ownBlock] at *, fun g h => by simp [Value.ownBlock] at *, fun g h => .inr (by omega), fun g h => .inr (by omega), fun g h => by simp [Value.ownBlock] at h, IntSS.nil _ _ _ _ (by omega), IntSS.nil _ _ _ _ (by omega), Nat.zero_le _⟩, ((Chg.refl _ _).alloc _).alloc _⟩
  clear M1 M2
  case round =>
    obtain ⟨j, hj, rfl, ho, hg⟩ := hrel
    by_cases hlt : j < xs.length
    · obtain ⟨b1, o1, rfl, hb1, hc⟩ := J2_9.out.ix hlt
      obtain ⟨b2, o2, rfl, hb2, hd⟩ := J3_10.out.ix (i := j) (by omega)
      have f1 := Chg.cell hg.out (hc j hlt) id
      have hsz := hg.out.size
      have hjl : (j : Int) < ys.length := by omega
      have HV := Lib.hid (HXI.out j hlt)
      have HW := Lib.hid (HYI.out j hlt)
      have HC2' := Lib.hid (hd j (by omega))
      have HL1 := Lib.hid (show (onceL xs xs j).length ≤ 1099511627776 by have := onceL_length xs xs j; omega)
      have HL2 := Lib.hid (show (onceL xs ys j).length ≤ 1099511627776 by have := onceL_length xs ys j; omega)
      have hcase : (j = 0) ∨ (0 < j ∧ ix xs j ≠ ix xs (j - 1)) ∨ (0 < j ∧ ix xs j = ix xs (j - 1)) := by omega
      have HC0 := Lib.hid (fun (h0 : 0 < j) => Chg.cell hg.out (hc (j - 1) (by omega)) id)
      clear hc hd
      rcases hcase with h0 | ⟨h0, hne⟩ | ⟨h0, hne⟩
      · have HK := Lib.hid (show keepB xs j = true by unfold keepB; rw [decide_eq_true h0]; rfl)
        have HE := Lib.hid (onceL_yes (ys := xs) HK.out)
        have HE2 := Lib.hid (onceL_yes (ys := ys) HK.out)
        subst h0
        have e1 : (((0 : Nat) : Int) == 0) = true := by rfl
        rw [Nat.add_zero] at f1
        have HC2' := Lib.hid (show World.cell? _ ⟨b2, o2, none⟩ = _ from HC2'.out)
        obtain ⟨hy0, hx0⟩ : 0 < ys.length ∧ 0 < xs.length := ⟨by omega, by omega⟩
        go_wp2
        go_quiet (fail)
        go_wp2_with (first | (at_builtin; refine wp_append_int2 (o := ⟨some 56, _, _, _, _, _⟩) rfl _ _ rfl w6.heap.size _ (onceL xs xs (0)) rfl (ho.out.o1.alloc _) _ (ix xs (0)) rfl (cell_new _ _ _ _) HV.out HL1.out ?_ ?_; (simp; omega); intro v7 w7 ho1 ho2 ho3 hg1; have T_7 := Lib.hid (T3.app (ho.out.up (Chg.trans (by repeat (first | exact Chg.refl _ _ | apply Chg.drew | apply Chg.drewN | refine Chg.alloc ?_ _)) ((Chg.refl Nowhere _).alloc _))) ho1 ho2 ho3); have U_7 := Lib.hid (Chg.new (hg.out.trans (Chg.trans (by repeat (first | exact Chg.refl _ _ | apply Chg.drew | apply Chg.drewN | refine Chg.alloc ?_ _)) ((Chg.refl Nowhere _).alloc _))) hg1 (fun i hi => by omega)); have hs7 := U_7.out.size; have f7 := Chg.cell U_7.out HC2'.out id; clear ho1 ho2 ho3 hg1) | (at_builtin; refine wp_append_int2 (o := ⟨some 63, _, _, _, _, _⟩) rfl _ _ rfl w6.heap.size _ (onceL xs ys (0)) rfl (T_7.out.o2.alloc _) _ (ix ys (0)) rfl (cell_new _ _ _ _) HW.out HL2.out ?_ ?_; (simp; omega); intro v8 w8 ho1 ho2 ho3 hg1; have T_8 := Lib.hid (T3.app2 (T_7.out.up ((Chg.refl Nowhere _).alloc _)) ho1 ho2 ho3); have U_8 := Lib.hid (Chg.new (U_7.out.trans ((Chg.refl Nowhere _).alloc _)) hg1 (fun i hi => by omega)); clear ho1 ho2 ho3 hg1))
        go_roundw
        case rel => exact ⟨0 + 1, by omega, by go_num, by rw [HE.out, HE2.out]; exact T_8, U_8⟩
        case measure => simp [intOf]; omega
      · have HK := Lib.hid (show keepB xs j = true by unfold keepB; rw [bne_iff_ne.2 hne, Bool.or_true])
        have HE := Lib.hid (onceL_yes (ys := xs) HK.out)
        have HE2 := Lib.hid (onceL_yes (ys := ys) HK.out)
        have f0 := HC0.out h0
        have e1 : ((j : Int) == 0) = false := by rw [beq_eq_false_iff_ne]; omega
        have e3 : (((j - 1 : Nat) : Int) + 1 == 0) = false := by rw [beq_eq_false_iff_ne]; omega
        have e2 : (ix xs j != ix xs (j - 1)) = true := bne_iff_ne.2 hne
        clear hne
        obtain ⟨m, rfl⟩ : ∃ m, j = m + 1 := ⟨j - 1, by omega⟩
        have f0' := f0
        rw [show m + 1 - 1 = m by omega] at f0' e2 e3
        clear f0
        have b0 : (0 : Int) ≤ ((m + 1 : Nat) : Int) - 1 := by omega
        have b1 : ((m + 1 : Nat) : Int) - 1 < (xs.length : Int) := by omega
        have b2 : (((m + 1 : Nat) : Int) - 1).toNat = m := by omega
        have b3 : IntKind.i64.wrap (((m + 1 : Nat) : Int) - 1) = ((m + 1 : Nat) : Int) - 1 := IntWalk.i64_in _ (by omega)
        have b4 : (0 : Int) ≤ ((m + 1 : Nat) : Int) := by omega
        have b5 : ((m + 1 : Nat) : Int) < (xs.length : Int) := by omega
        go_wp2
        go_quiet (fail)
        clear b2 b3
        go_wp2_with (first | (at_builtin; refine wp_append_int2 (o := ⟨some 56, _, _, _, _, _⟩) rfl _ _ rfl w6.heap.size _ (onceL xs xs (m + 1)) rfl (ho.out.o1.alloc _) _ (ix xs (m + 1)) rfl (cell_new _ _ _ _) HV.out HL1.out ?_ ?_; (simp; omega); intro v7 w7 ho1 ho2 ho3 hg1; have T_7 := Lib.hid (T3.app (ho.out.up (Chg.trans (by repeat (first | exact Chg.refl _ _ | apply Chg.drew | apply Chg.drewN | refine Chg.alloc ?_ _)) ((Chg.refl Nowhere _).alloc _))) ho1 ho2 ho3); have U_7 := Lib.hid (Chg.new (hg.out.trans (Chg.trans (by repeat (first | exact Chg.refl _ _ | apply Chg.drew | apply Chg.drewN | refine Chg.alloc ?_ _)) ((Chg.refl Nowhere _).alloc _))) hg1 (fun i hi => by omega)); have hs7 := U_7.out.size; have f7 := Chg.cell U_7.out HC2'.out id; clear ho1 ho2 ho3 hg1) | (at_builtin; refine wp_append_int2 (o := ⟨some 63, _, _, _, _, _⟩) rfl _ _ rfl w6.heap.size _ (onceL xs ys (m + 1)) rfl (T_7.out.o2.alloc _) _ (ix ys (m + 1)) rfl (cell_new _ _ _ _) HW.out HL2.out ?_ ?_; (simp; omega); intro v8 w8 ho1 ho2 ho3 hg1; have T_8 := Lib.hid (T3.app2 (T_7.out.up ((Chg.refl Nowhere _).alloc _)) ho1 ho2 ho3); have U_8 := Lib.hid (Chg.new (U_7.out.trans ((Chg.refl Nowhere _).alloc _)) hg1 (fun i hi => by omega)); clear ho1 ho2 ho3 hg1))
        go_roundw
        case rel => exact ⟨m + 1 + 1, by omega, by go_num, by rw [HE.out, HE2.out]; exact T_8, U_8⟩
        case measure => simp [intOf]; omega
      · have HK := Lib.hid (show keepB xs j = false by unfold keepB; rw [decide_eq_false (by omega), hne]; simp)
        have f0 := HC0.out h0
        have e1 : ((j : Int) == 0) = false := by rw [beq_eq_false_iff_ne]; omega
        have e3 : (((j - 1 : Nat) : Int) + 1 == 0) = false := by rw [beq_eq_false_iff_ne]; omega
        have e2 : (ix xs j != ix xs (j - 1)) = false := by rw [hne]; simp
        have HE := Lib.hid (onceL_no (ys := xs) HK.out)
        have HE2 := Lib.hid (onceL_no (ys := ys) HK.out)
        clear hne
        obtain ⟨m, rfl⟩ : ∃ m, j = m + 1 := ⟨j - 1, by omega⟩
        have f0' := f0
        rw [show m + 1 - 1 = m by omega] at f0' e2 e3
        clear f0
        have b0 : (0 : Int) ≤ ((m + 1 : Nat) : Int) - 1 := by omega
        have b1 : ((m + 1 : Nat) : Int) - 1 < (xs.length : Int) := by omega
        have b2 : (((m + 1 : Nat) : Int) - 1).toNat = m := by omega
        have b3 : IntKind.i64.wrap (((m + 1 : Nat) : Int) - 1) = ((m + 1 : Nat) : Int) - 1 := IntWalk.i64_in _ (by omega)
        have b4 : (0 : Int) ≤ ((m + 1 : Nat) : Int) := by omega
        have b5 : ((m + 1 : Nat) : Int) < (xs.length : Int) := by omega
        go_wp2
        go_quiet (fail)
        clear b2 b3
        go_wp2
        go_roundw
        case rel => exact ⟨m + 1 + 1, by omega, by go_num, by rw [HE.out, HE2.out]; exact ho.out.up (by repeat (first | exact Chg.refl _ _ | apply Chg.drew | apply Chg.drewN | refine Chg.alloc ?_ _)), (Chg.trans hg.out (by repeat (first | exact Chg.refl _ _ | apply Chg.drew | apply Chg.drewN | refine Chg.alloc ?_ _)))⟩
        case measure => simp [intOf]; omega
    · obtain rfl : j = xs.length := by omega
      have hgz := hg.out.size
      have U_12 := Lib.hid (Chg.trans U_7.out hg.out)
      clear U_7
      have J1_13 := Lib.hid (J1_8.out.up hg.out)
      clear J1_8
      have J2_14 := Lib.hid (J2_9.out.up hg.out)
      clear J2_9
      have J3_15 := Lib.hid (J3_10.out.up hg.out)
      clear J3_10
      have K_16 := Lib.hid (K_11.out.up hg.out)
      clear K_11
      have HA1 := Lib.hid ho.out.o1.ints
      have HA2 := Lib.hid ho.out.o2.ints
      obtain ⟨B1, d1, rfl, el1, ec1, -⟩ := HA1.out.shape
      obtain ⟨B2, d2, rfl, el2, ec2, -⟩ := HA2.out.shape
      go_wp2_with fail
      refine (sMoveColumns_any _ _ _ (onceL xs xs xs.length) (HA1.out.up (by repeat (first | exact Chg.refl _ _ | apply Chg.drew | apply Chg.drewN | refine Chg.alloc ?_ _))) _ _ (onceL xs ys xs.length) (HA2.out.up (by repeat (first | exact Chg.refl _ _ | apply Chg.drew | apply Chg.drewN | refine Chg.alloc ?_ _)))).mono ?_
      rintro e w17 ⟨v17, rfl, k1, g1⟩
      obtain ⟨A17, c17, rfl, hl17, hc17, -⟩ := k1.shape
      have K1 := Lib.hid k1
      clear k1
      have G1 := Lib.hid g1
      have hz17 := G1.out.size
      clear g1
      have U_18 := Lib.hid (Chg.trans U_12.out (Chg.trans (by repeat (first | exact Chg.refl _ _ | apply Chg.drew | apply Chg.drewN | refine Chg.alloc ?_ _)) G1.out))
      clear U_12
      have J1_19 := Lib.hid (J1_13.out.up (Chg.trans (by repeat (first | exact Chg.refl _ _ | apply Chg.drew | apply Chg.drewN | refine Chg.alloc ?_ _)) G1.out))
      clear J1_13
      have J2_20 := Lib.hid (J2_14.out.up (Chg.trans (by repeat (first | exact Chg.refl _ _ | apply Chg.drew | apply Chg.drewN | refine Chg.alloc ?_ _)) G1.out))
      clear J2_14
      have J3_21 := Lib.hid (J3_15.out.up (Chg.trans (by repeat (first | exact Chg.refl _ _ | apply Chg.drew | apply Chg.drewN | refine Chg.alloc ?_ _)) G1.out))
      clear J3_15
      have K_22 := Lib.hid (K_16.out.up (Chg.trans (by repeat (first | exact Chg.refl _ _ | apply Chg.drew | apply Chg.drewN | refine Chg.alloc ?_ _)) G1.out))
      clear K_16
      have A1_23 := Lib.hid (HA1.out.up (Chg.trans (by repeat (first | exact Chg.refl _ _ | apply Chg.drew | apply Chg.drewN | refine Chg.alloc ?_ _)) G1.out))
      clear HA1
      have A2_24 := Lib.hid (HA2.out.up (Chg.trans (by repeat (first | exact Chg.refl _ _ | apply Chg.drew | apply Chg.drewN | refine Chg.alloc ?_ _)) G1.out))
      clear HA2
      clear G1
      have L_25 := Lib.hid (K1.out)
      clear K1
      rw [show planCode (onceL xs xs xs.length) (onceL xs ys xs.length) = 0 by have := HC2.out; rw [HXS.out, HYS.out, ← HLX.out] at this; exact this]
      have hzw : w.heap.size ≤ w17.heap.size := by omega
      have HB0 := Lib.hid ((OwnO.made w17 w17.heap.size (Nat.le_refl _)))
      have HQ1 := Lib.hid (show (colsOut (ownsL ts) xs).length ≤ 1536 from colsOut_len _ _)
      have HQ2 := Lib.hid (show (colsOut (onceL xs xs xs.length) (onceL xs ys xs.length)).length ≤ 1536 from colsOut_len _ _)
      have HLL1 := Lib.hid (show ([] : List OpM).length + (colsOut (ownsL ts) xs).length ≤ 1099511627776 by have := HQ1.out; rw [List.length_nil]; omega)
      have HLL2 := Lib.hid (show ([] ++ colsOut (ownsL ts) xs).length + (colsOut (onceL xs xs xs.length) (onceL xs ys xs.length)).length ≤ 1099511627776 by have h1 := HQ1.out; have h2 := HQ2.out; rw [List.nil_append]; omega)
      have hkk := K_22.out
      rw [HXS.out] at hkk
      have HKK := Lib.hid (hkk.up ((Chg.refl Nowhere w17).alloc (.cells #[] 66)))
      clear hkk
      go_wp2_with (first | (at_builtin; refine wp_append_ops (o := ⟨some 75, _, _, _, _, _⟩) rfl _ _ rfl w17.heap.size _ [] rfl HB0.out _ _ (colsOut (ownsL ts) xs) rfl HKK.out HLL1.out ?_ ?_; (focus simp); intro v5 w5 ho1 _ hg1; have HO5 := Lib.hid ho1; have HG5 := Lib.hid (Chg.new (Chg.trans U_18.out ((Chg.refl Nowhere _).alloc _)) hg1 (fun i hi => by simp at *; omega)); have HL5 := Lib.hid (show Ops w5 _ _ _ from (L_25.out.up ((Chg.refl Nowhere _).alloc _)).keep hg1 (fun b hb hs hs2 => by simp only [New] at hs; omega)); have hz5 := hg1.size; clear ho1 hg1) | (at_builtin; refine wp_append_ops (o := ⟨some 77, _, _, _, _, _⟩) rfl _ _ rfl w17.heap.size _ ([] ++ colsOut (ownsL ts) xs) rfl HO5.out _ _ (colsOut (onceL xs xs xs.length) (onceL xs ys xs.length)) rfl HL5.out HLL2.out ?_ ?_; (simp at *; omega); intro v6 w6 ho1 _ hg1; have HO6 := Lib.hid ho1; have HG6 := Lib.hid (Chg.new HG5.out hg1 (fun i hi => by omega)); clear ho1 hg1))
      go_ret2
      exact ⟨_, rfl, by have := HO6.out.ops; rw [List.nil_append, ← HXS.out, ← HYS.out] at this; unfold movesM; rw [HTS.out]; exact this.mono (fun b _ hb => ⟨by have := hb.1; omega, hb.2⟩), HG6.out⟩
end Go.Proofs.YtnjfhpgmogopnaaGreat
namespace Go.Proofs.YtnjfhpgmogopnaaGreat
open Go.ChangeShapes Go.WideShapes Go.ChangeAt Go.RowKit
def rowOut (r : RowM) (n a : Int) : List OpM := if askM r n a = 0 then preM r.xs ++ (rowTo r ([], a) r.xs.length).1 else []
theorem rowTo_len {r : RowM} (h : rowCodeM r.d r.c r.xs = 0) (a : Int) (ha : -3 ≤ a ∧ a ≤ 27) : (rowTo r ([], a) r.xs.length).1.length ≤ 1000 := by
  have h1 := (rowTo_bd (laid_of h) ([], a) ha r.xs.length (Nat.le_refl _)).2
  have h2 := (laid_of h).len
  simp only [List.length_nil] at h1
  omega
set_option linter.unusedVariables false in
set_option maxRecDepth 100000 in
set_option maxHeartbeats 8000000 in
theorem sRowOps_any (w : World) (S : Nat → Prop) (v : Value) (r : RowM) (h : RowV w S v r) (n a : Int) :
    Calls Tryz.prog 47 #[v, .int .i64 n, .int .i64 a] w fun e w' => ∃ v', e = .returned (.tuple #[v', .int .i64 (askM r n a)]) ∧ Ops w' (New w.heap.size w'.heap.size) v' (rowOut r n a) ∧ Up w w' := by
  have hii : I64 r.d ∧ I64 r.c := by obtain ⟨_, _, _, h1, h2⟩ := h; exact ⟨h1, h2⟩
  obtain ⟨A, c, rfl, h4, h5, h6⟩ := openRow h
  have U0 := Lib.hid (Chg.refl Nowhere w)
  have HI := Lib.hid h
  have HI4 := Lib.hid h4
  have HII := Lib.hid hii
  clear h4 h hii
  by_cases hz : askM r n a = 0
  rotate_left
  · have HO := Lib.hid (show rowOut r n a = [] from if_neg hz)
    have hz2 : (askM r n a != 0) = true := by simpa using hz
    clear hz
    have U_1 := Lib.hid (Chg.trans U0.out ((Chg.refl Nowhere w).alloc (.cells #[.int .i64 r.d, .int .i64 r.c, .slice A r.xs.length c] 72)))
    clear U0
    have I_2 := Lib.hid (HI.out.up ((Chg.refl Nowhere w).alloc (.cells #[.int .i64 r.d, .int .i64 r.c, .slice A r.xs.length c] 72)))
    clear HI
    have q0_3 := (show (w.alloc (.cells #[.int .i64 r.d, .int .i64 r.c, .slice A r.xs.length c] 72)).cell? ⟨w.heap.size, 0, none⟩ = some (.int .i64 r.d) from cell_new _ _ _ _)
    have q1_4 := (show (w.alloc (.cells #[.int .i64 r.d, .int .i64 r.c, .slice A r.xs.length c] 72)).cell? ⟨w.heap.size, 1, none⟩ = some (.int .i64 r.c) from cell_new _ _ _ _)
    have q2_5 := (show (w.alloc (.cells #[.int .i64 r.d, .int .i64 r.c, .slice A r.xs.length c] 72)).cell? ⟨w.heap.size, 2, none⟩ = some (.slice A r.xs.length c) from cell_new _ _ _ _)
    have hbx6 : w.heap.size < (w.alloc (.cells #[.int .i64 r.d, .int .i64 r.c, .slice A r.xs.length c] 72)).heap.size := by simp
    have HA := Lib.hid (show RowAt (w.alloc (.cells #[.int .i64 r.d, .int .i64 r.c, .slice A r.xs.length c] 72)) S w.heap.size 0 r from ⟨A, c, cell_new _ _ _ _, cell_new _ _ _ _, cell_new _ _ _ _, HI4.out.up ((Chg.refl Nowhere _).alloc _), h5, h6, HII.out, by simp⟩)
    go_enter Tryz.func47, Tryz.ntmps47
    go_wp2_with fail
    refine (l23Ask_any _ S _ _ r n a (HA.out.up (by repeat (first | exact Chg.refl _ _ | apply Chg.drew | apply Chg.drewN | refine Chg.alloc ?_ _)))).mono ?_
    rintro e w7 ⟨rfl, g1⟩
    have G1 := Lib.hid g1
    have hz7 := G1.out.size
    clear g1
    have U_8 := Lib.hid (Chg.trans U_1.out (Chg.trans (by repeat (first | exact Chg.refl _ _ | apply Chg.drew | apply Chg.drewN | refine Chg.alloc ?_ _)) G1.out))
    clear U_1
    have I_9 := Lib.hid (I_2.out.up (Chg.trans (by repeat (first | exact Chg.refl _ _ | apply Chg.drew | apply Chg.drewN | refine Chg.alloc ?_ _)) G1.out))
    clear I_2
    have q0_10 := Chg.cell (Chg.trans (by repeat (first | exact Chg.refl _ _ | apply Chg.drew | apply Chg.drewN | refine Chg.alloc ?_ _)) G1.out) q0_3 id
    clear q0_3
    have q1_11 := Chg.cell (Chg.trans (by repeat (first | exact Chg.refl _ _ | apply Chg.drew | apply Chg.drewN | refine Chg.alloc ?_ _)) G1.out) q1_4 id
    clear q1_4
    have q2_12 := Chg.cell (Chg.trans (by repeat (first | exact Chg.refl _ _ | apply Chg.drew | apply Chg.drewN | refine Chg.alloc ?_ _)) G1.out) q2_5 id
    clear q2_5
    have A_13 := Lib.hid (HA.out.up (Chg.trans (by repeat (first | exact Chg.refl _ _ | apply Chg.drew | apply Chg.drewN | refine Chg.alloc ?_ _)) G1.out))
    clear HA
    clear G1
    go_wp2
    go_ret2
    exact ⟨_, rfl, by rw [HO.out]; exact Ops.nil _ _ _ _ (by omega), (Chg.trans U_8.out (by repeat (first | exact Chg.refl _ _ | apply Chg.drew | apply Chg.drewN | refine Chg.alloc ?_ _)))⟩
  have HO := Lib.hid (show rowOut r n a = preM r.xs ++ (rowTo r ([], a) r.xs.length).1 from if_pos hz)
  have HZ := Lib.hid hz
  have HZ2 := Lib.hid (askM_zero hz)
  have hrl := (laid_of (askM_zero hz).1).len
  clear hz
  have U_14 := Lib.hid (Chg.trans U0.out ((Chg.refl Nowhere w).alloc (.cells #[.int .i64 r.d, .int .i64 r.c, .slice A r.xs.length c] 72)))
  clear U0
  have I_15 := Lib.hid (HI.out.up ((Chg.refl Nowhere w).alloc (.cells #[.int .i64 r.d, .int .i64 r.c, .slice A r.xs.length c] 72)))
  clear HI
  have q0_16 := (show (w.alloc (.cells #[.int .i64 r.d, .int .i64 r.c, .slice A r.xs.length c] 72)).cell? ⟨w.heap.size, 0, none⟩ = some (.int .i64 r.d) from cell_new _ _ _ _)
  have q1_17 := (show (w.alloc (.cells #[.int .i64 r.d, .int .i64 r.c, .slice A r.xs.length c] 72)).cell? ⟨w.heap.size, 1, none⟩ = some (.int .i64 r.c) from cell_new _ _ _ _)
  have q2_18 := (show (w.alloc (.cells #[.int .i64 r.d, .int .i64 r.c, .slice A r.xs.length c] 72)).cell? ⟨w.heap.size, 2, none⟩ = some (.slice A r.xs.length c) from cell_new _ _ _ _)
  have hbx19 : w.heap.size < (w.alloc (.cells #[.int .i64 r.d, .int .i64 r.c, .slice A r.xs.length c] 72)).heap.size := by simp
  have HA := Lib.hid (show RowAt (w.alloc (.cells #[.int .i64 r.d, .int .i64 r.c, .slice A r.xs.length c] 72)) S w.heap.size 0 r from ⟨A, c, cell_new _ _ _ _, cell_new _ _ _ _, cell_new _ _ _ _, HI4.out.up ((Chg.refl Nowhere _).alloc _), h5, h6, HII.out, by simp⟩)
  go_enter Tryz.func47, Tryz.ntmps47
  go_wp2_with fail
  refine (l23Ask_any _ S _ _ r n a (HA.out.up (by repeat (first | exact Chg.refl _ _ | apply Chg.drew | apply Chg.drewN | refine Chg.alloc ?_ _)))).mono ?_
  rintro e w20 ⟨rfl, g1⟩
  have G1 := Lib.hid g1
  have hz20 := G1.out.size
  clear g1
  have U_21 := Lib.hid (Chg.trans U_14.out (Chg.trans (by repeat (first | exact Chg.refl _ _ | apply Chg.drew | apply Chg.drewN | refine Chg.alloc ?_ _)) G1.out))
  clear U_14
  have I_22 := Lib.hid (I_15.out.up (Chg.trans (by repeat (first | exact Chg.refl _ _ | apply Chg.drew | apply Chg.drewN | refine Chg.alloc ?_ _)) G1.out))
  clear I_15
  have q0_23 := Chg.cell (Chg.trans (by repeat (first | exact Chg.refl _ _ | apply Chg.drew | apply Chg.drewN | refine Chg.alloc ?_ _)) G1.out) q0_16 id
  clear q0_16
  have q1_24 := Chg.cell (Chg.trans (by repeat (first | exact Chg.refl _ _ | apply Chg.drew | apply Chg.drewN | refine Chg.alloc ?_ _)) G1.out) q1_17 id
  clear q1_17
  have q2_25 := Chg.cell (Chg.trans (by repeat (first | exact Chg.refl _ _ | apply Chg.drew | apply Chg.drewN | refine Chg.alloc ?_ _)) G1.out) q2_18 id
  clear q2_18
  have A_26 := Lib.hid (HA.out.up (Chg.trans (by repeat (first | exact Chg.refl _ _ | apply Chg.drew | apply Chg.drewN | refine Chg.alloc ?_ _)) G1.out))
  clear HA
  clear G1
  rw [HZ.out]
  go_wp2_with fail
  refine (l23Crossings_own _ S _ _ r (A_26.out.up (by repeat (first | exact Chg.refl _ _ | apply Chg.drew | apply Chg.drewN | refine Chg.alloc ?_ _))) HZ2.out.1).mono ?_
  rintro e wc ⟨vc, rfl, k1, g1⟩
  obtain ⟨B, hB, hBc, k2⟩ : ∃ B, w.heap.size ≤ B ∧ B ≤ wc.heap.size ∧ OwnO wc B vc (crossL 1 (letL 0 r.xs)) := ⟨_, by omega, g1.size, k1⟩
  have G1 := Lib.hid g1
  have hzc := G1.out.size
  have HKO := Lib.hid k2
  have HLT := Lib.hid (fun g (hg : vc.ownBlock = some g) => k2.lt hg)
  clear k1 k2 g1
  have U_27 := Lib.hid (Chg.trans U_21.out (Chg.trans (by repeat (first | exact Chg.refl _ _ | apply Chg.drew | apply Chg.drewN | refine Chg.alloc ?_ _)) G1.out))
  clear U_21
  have I_28 := Lib.hid (I_22.out.up (Chg.trans (by repeat (first | exact Chg.refl _ _ | apply Chg.drew | apply Chg.drewN | refine Chg.alloc ?_ _)) G1.out))
  clear I_22
  have q0_29 := Chg.cell (Chg.trans (by repeat (first | exact Chg.refl _ _ | apply Chg.drew | apply Chg.drewN | refine Chg.alloc ?_ _)) G1.out) q0_23 id
  clear q0_23
  have q1_30 := Chg.cell (Chg.trans (by repeat (first | exact Chg.refl _ _ | apply Chg.drew | apply Chg.drewN | refine Chg.alloc ?_ _)) G1.out) q1_24 id
  clear q1_24
  have q2_31 := Chg.cell (Chg.trans (by repeat (first | exact Chg.refl _ _ | apply Chg.drew | apply Chg.drewN | refine Chg.alloc ?_ _)) G1.out) q2_25 id
  clear q2_25
  have A_32 := Lib.hid (A_26.out.up (Chg.trans (by repeat (first | exact Chg.refl _ _ | apply Chg.drew | apply Chg.drewN | refine Chg.alloc ?_ _)) G1.out))
  clear A_26
  clear G1
  go_wp2_with fail
  refine (l23Moves_any _ S _ _ r (A_32.out.up (by repeat (first | exact Chg.refl _ _ | apply Chg.drew | apply Chg.drewN | refine Chg.alloc ?_ _))) HZ2.out.1).mono ?_
  rintro e w33 ⟨v33, rfl, k1, g1⟩
  obtain ⟨A33, c33, rfl, hl33, hc33, -⟩ := k1.shape
  have K1 := Lib.hid k1
  clear k1
  have G1 := Lib.hid g1
  have hz33 := G1.out.size
  clear g1
  have U_34 := Lib.hid (Chg.trans U_27.out (Chg.trans (by repeat (first | exact Chg.refl _ _ | apply Chg.drew | apply Chg.drewN | refine Chg.alloc ?_ _)) G1.out))
  clear U_27
  have I_35 := Lib.hid (I_28.out.up (Chg.trans (by repeat (first | exact Chg.refl _ _ | apply Chg.drew | apply Chg.drewN | refine Chg.alloc ?_ _)) G1.out))
  clear I_28
  have q0_36 := Chg.cell (Chg.trans (by repeat (first | exact Chg.refl _ _ | apply Chg.drew | apply Chg.drewN | refine Chg.alloc ?_ _)) G1.out) q0_29 id
  clear q0_29
  have q1_37 := Chg.cell (Chg.trans (by repeat (first | exact Chg.refl _ _ | apply Chg.drew | apply Chg.drewN | refine Chg.alloc ?_ _)) G1.out) q1_30 id
  clear q1_30
  have q2_38 := Chg.cell (Chg.trans (by repeat (first | exact Chg.refl _ _ | apply Chg.drew | apply Chg.drewN | refine Chg.alloc ?_ _)) G1.out) q2_31 id
  clear q2_31
  have A_39 := Lib.hid (A_32.out.up (Chg.trans (by repeat (first | exact Chg.refl _ _ | apply Chg.drew | apply Chg.drewN | refine Chg.alloc ?_ _)) G1.out))
  clear A_32
  have O_40 := Lib.hid (HKO.out.up (Chg.trans (by repeat (first | exact Chg.refl _ _ | apply Chg.drew | apply Chg.drewN | refine Chg.alloc ?_ _)) G1.out))
  clear HKO
  clear G1
  have M_41 := Lib.hid (K1.out)
  clear K1
  go_wp2_with fail
  refine (l23Stitches_any _ S _ _ r a (A_39.out.up (by repeat (first | exact Chg.refl _ _ | apply Chg.drew | apply Chg.drewN | refine Chg.alloc ?_ _))) HZ2.out.1 HZ2.out.2.2).mono ?_
  rintro e w42 ⟨v42, rfl, k1, g1⟩
  obtain ⟨A42, c42, rfl, hl42, hc42, -⟩ := k1.shape
  have K1 := Lib.hid k1
  clear k1
  have G1 := Lib.hid g1
  have hz42 := G1.out.size
  clear g1
  have U_43 := Lib.hid (Chg.trans U_34.out (Chg.trans (by repeat (first | exact Chg.refl _ _ | apply Chg.drew | apply Chg.drewN | refine Chg.alloc ?_ _)) G1.out))
  clear U_34
  have I_44 := Lib.hid (I_35.out.up (Chg.trans (by repeat (first | exact Chg.refl _ _ | apply Chg.drew | apply Chg.drewN | refine Chg.alloc ?_ _)) G1.out))
  clear I_35
  have q0_45 := Chg.cell (Chg.trans (by repeat (first | exact Chg.refl _ _ | apply Chg.drew | apply Chg.drewN | refine Chg.alloc ?_ _)) G1.out) q0_36 id
  clear q0_36
  have q1_46 := Chg.cell (Chg.trans (by repeat (first | exact Chg.refl _ _ | apply Chg.drew | apply Chg.drewN | refine Chg.alloc ?_ _)) G1.out) q1_37 id
  clear q1_37
  have q2_47 := Chg.cell (Chg.trans (by repeat (first | exact Chg.refl _ _ | apply Chg.drew | apply Chg.drewN | refine Chg.alloc ?_ _)) G1.out) q2_38 id
  clear q2_38
  have A_48 := Lib.hid (A_39.out.up (Chg.trans (by repeat (first | exact Chg.refl _ _ | apply Chg.drew | apply Chg.drewN | refine Chg.alloc ?_ _)) G1.out))
  clear A_39
  have O_49 := Lib.hid (O_40.out.up (Chg.trans (by repeat (first | exact Chg.refl _ _ | apply Chg.drew | apply Chg.drewN | refine Chg.alloc ?_ _)) G1.out))
  clear O_40
  have M_50 := Lib.hid (M_41.out.up (Chg.trans (by repeat (first | exact Chg.refl _ _ | apply Chg.drew | apply Chg.drewN | refine Chg.alloc ?_ _)) G1.out))
  clear M_41
  clear G1
  have T_51 := Lib.hid (K1.out)
  clear K1
  have HPL := Lib.hid (show (crossL 1 (letL 0 r.xs) ++ movesM r.xs).length ≤ 4000 by have := preM_len hrl; rw [preM_eq] at this; exact this)
  have HL1 := Lib.hid (show (crossL 1 (letL 0 r.xs)).length + (movesM r.xs).length ≤ 1099511627776 by have := HPL.out; rw [List.length_append] at this; omega)
  have HL2 := Lib.hid (show (crossL 1 (letL 0 r.xs) ++ movesM r.xs).length + ((rowTo r ([], a) r.xs.length).1).length ≤ 1099511627776 by have := HPL.out; have h2 := rowTo_len HZ2.out.1 a HZ2.out.2.2; omega)
  have hBw : B ≤ w42.heap.size := by omega
  go_wp2_with (first | (at_builtin; refine wp_append_ops2 (o := ⟨some 41, _, _, _, _, _⟩) rfl _ _ rfl B _ (crossL 1 (letL 0 r.xs)) rfl O_49.out _ _ (movesM r.xs) rfl M_50.out HL1.out ?_ ?_; (focus omega); intro v5 w5 ho1 ho2 ho3 hg1; have HO5 := Lib.hid ho1; have U5 := Lib.hid (Chg.new U_43.out ho2 (fun i hi h2 => by have := HLT.out i h2; omega)); have T5 := Lib.hid (T_51.out.keep ho2 (fun b hb hs h2 => by have := HLT.out b h2; simp only [New] at hs; omega)); have HB5 := Lib.hid ho3; have hz5 := ho2.size; clear ho1 ho2 ho3 hg1) | (at_builtin; refine wp_append_ops2 (o := ⟨some 44, _, _, _, _, _⟩) rfl _ _ rfl B _ (crossL 1 (letL 0 r.xs) ++ movesM r.xs) rfl HO5.out _ _ ((rowTo r ([], a) r.xs.length).1) rfl T5.out HL2.out ?_ ?_; (focus omega); intro v6 w6 ho1 ho2 ho3 hg1; have HO6 := Lib.hid ho1; have U6 := Lib.hid (Chg.new U5.out hg1 (fun i hi => by omega)); clear ho1 ho2 ho3 hg1))
  go_ret2
  exact ⟨_, ret_mi HZ.out.symm, by rw [HO.out, preM_eq]; have := HO6.out.ops; exact this.mono (fun b _ hb => ⟨by have := hb.1; omega, hb.2⟩), U6.out⟩
end Go.Proofs.YtnjfhpgmogopnaaGreat
namespace Go.Proofs.YtnjfhpgmogopnaaGreat
open Go.ChangeShapes Go.WideShapes Go.ChangeAt Go.RowKit
def castM (k : Nat) (c : Int) : List OpM := (List.range k).map fun i : Nat => (⟨1, 1, 1, 2 * i + 1, 0, 0, c, 0⟩ : OpM)
theorem castM_succ (k : Nat) (c : Int) : castM (k + 1) c = castM k c ++ [⟨1, 1, 1, 2 * k + 1, 0, 0, c, 0⟩] := by simp [castM, List.range_succ]
theorem castM_length (k : Nat) (c : Int) : (castM k c).length = k := by simp [castM]
def castCode (n c : Int) : Int := if (1 ≤ n ∧ n ≤ 8) ∧ (1 ≤ c ∧ c ≤ 4) then 0 else 2
def castOut (n c : Int) : List OpM := if (1 ≤ n ∧ n ≤ 8) ∧ (1 ≤ c ∧ c ≤ 4) then castM n.toNat c else []
set_option maxRecDepth 100000 in
set_option maxHeartbeats 4000000 in
theorem castOnOps_any (w : World) (k : Nat) (c : Int) (hk : k ≤ 8) (hc : 1 ≤ c ∧ c ≤ 4) :
    Calls Tryz.prog 52 #[.int .i64 k, .int .i64 c] w fun e w' => ∃ v, e = .returned v ∧ Ops w' (New w.heap.size w'.heap.size) v (castM k c) ∧ Up w w' := by
  go_enter Tryz.func52, Tryz.ntmps52
  go_wp2
  go_loopw [5, 6, 9] (fun v _ i wr => ∃ j : Nat, j ≤ k ∧ i = .int .i64 j ∧ Hid (OwnO wr w.heap.size v (castM j c)) ∧ Hid (Up w wr)) (fun _ _ i _ => k - (intOf i).toNat)
  case atStart => exact ⟨0, by omega, rfl, OwnO.made w _ (Nat.le_refl _), (Chg.refl _ _).alloc _⟩
  case round =>
    obtain ⟨j, hj, rfl, ho, hg⟩ := hrel
    by_cases hlt : j < k
    · have hsz := hg.out.size
      have HL := Lib.hid (show (castM j c).length ≤ 1099511627775 by rw [castM_length]; omega)
      have HY := Lib.hid (show (OpM.mk 1 1 1 (2 * j + 1) 0 0 c 0).ok by unfold OpM.ok I64; simp only []; omega)
      go_wp2_with (first | (go_at_call 53; refine (needleOf_any _ _ ?_).mono ?_; (omega); rintro e w' ⟨rfl, rfl⟩))
      refine (frontNeedle_any _ _).mono ?_
      rintro e w2 ⟨rfl, g2⟩
      have hsz2 := g2.size
      have HO2 := Lib.hid (ho.out.up g2)
      have HG2 := Lib.hid (Chg.trans hg.out g2)
      clear ho hg g2
      go_wp2_with (first | (at_builtin; refine wp_append_op rfl _ _ rfl w.heap.size _ (castM j c) rfl (HO2.out.alloc _) w2.heap.size (OpM.mk 1 1 1 (2 * j + 1) 0 0 c 0) rfl (heap_new_at rfl) HY.out HL.out ?_ ?_; (simp; omega); intro v' w3 ho1 _ hg1; have HO := Lib.hid ho1; have HG := Lib.hid hg1; clear ho1 hg1))
      go_roundw
      case rel => exact ⟨j + 1, by omega, by go_num, by rw [castM_succ]; exact HO.out, Chg.new (HG2.out.alloc _) HG.out (fun i hi => by omega)⟩
      case measure => simp [intOf]; omega
    · obtain rfl : j = k := by omega
      go_wp2
      go_ret
      exact ⟨_, rfl, ho.out.ops, hg.out⟩
set_option maxRecDepth 100000 in
set_option maxHeartbeats 4000000 in
theorem sCastOnOps_any (w : World) (n c : Int) :
    Calls Tryz.prog 43 #[.int .i64 n, .int .i64 c] w fun e w' => ∃ v, e = .returned (.tuple #[v, .int .i64 (castCode n c)]) ∧ Ops w' (New w.heap.size w'.heap.size) v (castOut n c) ∧ Up w w' := by
  have hc : ((n < 1 ∨ 8 < n)) ∨ ((1 ≤ n ∧ n ≤ 8) ∧ (c < 1 ∨ 4 < c)) ∨ ((1 ≤ n ∧ n ≤ 8) ∧ (1 ≤ c ∧ c ≤ 4)) := by omega
  rcases hc with h | ⟨h, h2⟩ | ⟨h, h2⟩
  · have hco : castCode n c = 2 := by
      unfold castCode
      repeat' split
      all_goals first | rfl | omega
    have hou : castOut n c = [] := by
      unfold castOut
      repeat' split
      all_goals first | rfl | omega
    rw [hco, hou]
    clear hco hou
    go_enter Tryz.func43, Tryz.ntmps43
    go_wp2_with (first | (go_at_call 61; refine (l00In_yes _ _ _ _ ?_).mono ?_; (omega); rintro e w' ⟨rfl, rfl⟩) | (go_at_call 61; refine (l00In_no _ _ _ _ ?_).mono ?_; (omega); rintro e w' ⟨rfl, rfl⟩) | (go_at_call 62; refine (l07Yarn_yes _ _ ?_).mono ?_; (omega); rintro e w' ⟨rfl, rfl⟩) | (go_at_call 62; refine (l07Yarn_no _ _ ?_).mono ?_; (omega); rintro e w' ⟨rfl, rfl⟩))
    go_ret2
    exact ⟨_, rfl, Ops.nil _ _ _ _ (by omega), Chg.refl _ _⟩
  · have hco : castCode n c = 2 := by
      unfold castCode
      repeat' split
      all_goals first | rfl | omega
    have hou : castOut n c = [] := by
      unfold castOut
      repeat' split
      all_goals first | rfl | omega
    rw [hco, hou]
    clear hco hou
    go_enter Tryz.func43, Tryz.ntmps43
    go_wp2_with (first | (go_at_call 61; refine (l00In_yes _ _ _ _ ?_).mono ?_; (omega); rintro e w' ⟨rfl, rfl⟩) | (go_at_call 61; refine (l00In_no _ _ _ _ ?_).mono ?_; (omega); rintro e w' ⟨rfl, rfl⟩) | (go_at_call 62; refine (l07Yarn_yes _ _ ?_).mono ?_; (omega); rintro e w' ⟨rfl, rfl⟩) | (go_at_call 62; refine (l07Yarn_no _ _ ?_).mono ?_; (omega); rintro e w' ⟨rfl, rfl⟩))
    go_ret2
    exact ⟨_, rfl, Ops.nil _ _ _ _ (by omega), Chg.refl _ _⟩
  · have hco : castCode n c = 0 := by
      unfold castCode
      repeat' split
      all_goals first | rfl | omega
    have hou : castOut n c = castM n.toNat c := by
      unfold castOut
      repeat' split
      all_goals first | rfl | omega
    rw [hco, hou]
    clear hco hou
    obtain ⟨k, rfl⟩ := Int.eq_ofNat_of_zero_le (show 0 ≤ n by omega)
    rw [Int.toNat_natCast]
    go_enter Tryz.func43, Tryz.ntmps43
    go_wp2_with (first | (go_at_call 61; refine (l00In_yes _ _ _ _ ?_).mono ?_; (omega); rintro e w' ⟨rfl, rfl⟩) | (go_at_call 61; refine (l00In_no _ _ _ _ ?_).mono ?_; (omega); rintro e w' ⟨rfl, rfl⟩) | (go_at_call 62; refine (l07Yarn_yes _ _ ?_).mono ?_; (omega); rintro e w' ⟨rfl, rfl⟩) | (go_at_call 62; refine (l07Yarn_no _ _ ?_).mono ?_; (omega); rintro e w' ⟨rfl, rfl⟩))
    go_loopw [6, 7] (fun v i wr => ∃ j : Nat, j ≤ k ∧ i = .int .i64 j ∧ Hid (OwnO wr w.heap.size v (castM j c)) ∧ Hid (Up w wr)) (fun _ i _ => k - (intOf i).toNat)
    case atStart => exact ⟨0, by omega, rfl, OwnO.made w _ (Nat.le_refl _), (Chg.refl _ _).alloc _⟩
    case round =>
      obtain ⟨j, hj, rfl, ho, hg⟩ := hrel
      by_cases hlt : j < k
      · have hsz := hg.out.size
        have HL := Lib.hid (show (castM j c).length ≤ 1099511627775 by rw [castM_length]; omega)
        have HY := Lib.hid (show (OpM.mk 1 1 1 (2 * j + 1) 0 0 c 0).ok by unfold OpM.ok I64; simp only []; omega)
        go_wp2_with (first | (go_at_call 65; refine (l20Needle_any _ _ ?_).mono ?_; (omega); rintro e w' ⟨rfl, rfl⟩))
        refine (l23Front_any _ _).mono ?_
        rintro e w1 ⟨rfl, g1⟩
        have hsz1 := g1.size
        have HO1 := Lib.hid (ho.out.up g1)
        have HG1 := Lib.hid (Chg.trans hg.out g1)
        clear ho hg g1
        go_wp2_with fail
        refine (l23Yarn_any _ _ _ _ _ _).mono ?_
        rintro e w2 ⟨rfl, g2⟩
        have hsz2 := g2.size
        have HO2 := Lib.hid (HO1.out.up g2)
        have HG2 := Lib.hid (Chg.trans HG1.out g2)
        clear HO1 HG1 g2
        go_wp2_with (first | (at_builtin; refine wp_append_op rfl _ _ rfl w.heap.size _ (castM j c) rfl (HO2.out.alloc _) w2.heap.size (OpM.mk 1 1 1 (2 * j + 1) 0 0 c 0) rfl (heap_new_at rfl) HY.out HL.out ?_ ?_; (simp; omega); intro v' w3 ho1 _ hg1; have HO := Lib.hid ho1; have HG := Lib.hid hg1; clear ho1 hg1))
        go_roundw
        case rel => exact ⟨j + 1, by omega, by go_num, by rw [castM_succ]; exact HO.out, Chg.new (HG2.out.alloc _) HG.out (fun i hi => by omega)⟩
        case measure => simp [intOf]; omega
      · obtain rfl : j = k := by omega
        go_wp2
        go_ret2
        exact ⟨_, rfl, ho.out.ops, hg.out⟩
def ndlOk (n : Int) : Bool := decide (0 ≤ n ∧ n ≤ 7)
def ndlAt (n : Int) : Int := if 0 ≤ n ∧ n ≤ 7 then 2 * n + 1 else 0
theorem sNeedleOfColumn_any (n : Int) (w : World) :
    Calls Tryz.prog 44 #[.int .i64 n] w fun e w' => e = .returned (.tuple #[.int .i64 (ndlAt n), .bool (ndlOk n)]) ∧ w = w' := by
  have hc : n < 0 ∨ 7 < n ∨ (0 ≤ n ∧ n ≤ 7) := by omega
  rcases hc with h | h | ⟨h, h'⟩
  all_goals
    go_enter Tryz.func44, Tryz.ntmps44
    go_wp2_with (first | (go_at_call 61; refine (l00In_yes _ _ _ _ ?_).mono ?_; (omega); rintro e w' ⟨rfl, rfl⟩) | (go_at_call 61; refine (l00In_no _ _ _ _ ?_).mono ?_; (omega); rintro e w' ⟨rfl, rfl⟩) | (go_at_call 65; refine (l20Needle_any _ _ ?_).mono ?_; (omega); rintro e w' ⟨rfl, rfl⟩))
    go_ret2
    refine ⟨ret_ib ?_ ?_, rfl⟩
    · unfold ndlAt
      first | (rw [if_neg (by omega)]; done) | (rw [if_pos (by omega)]; done) | (rw [if_neg (by omega)]; rfl) | (rw [if_pos (by omega)]; rfl)
    · unfold ndlOk
      first | (rw [decide_eq_true (by omega)]; done) | (rw [decide_eq_false (by omega)]; done) | (rw [decide_eq_true (by omega)]; rfl) | (rw [decide_eq_false (by omega)]; rfl)
end Go.Proofs.YtnjfhpgmogopnaaGreat
namespace Go.Proofs.YtnjfhpgmogopnaaGreat
def inOp (d c : Int) : OpM := ⟨8, d, 0, 0, 0, 0, c, 0⟩
def outOp (c : Int) : OpM := ⟨9, 0, 0, 0, 0, 0, c, 0⟩
def putF (f : Int → Option Int) (c v : Int) : Int → Option Int := fun x => if x = c then some v else f x
theorem putF_same (f : Int → Option Int) (c v : Int) : putF f c v c = some v := if_pos rfl
theorem putF_other (f : Int → Option Int) {c x : Int} (v : Int) (h : x ≠ c) : putF f c v x = f x := if_neg h
def inAt (d : Int) : Int := if d = -1 then 27 else -3
structure CmpS where
  f : Int → Option Int
  parts : List (List OpM)
  plan : List Int
def carAtC (s : CmpS) (r : RowM) : Int := (s.f r.c).getD (inAt r.d)
def partC (s : CmpS) (r : RowM) : List OpM := if (s.f r.c).isSome then [] else [inOp r.d r.c]
def opsC (s : CmpS) (r : RowM) : List OpM := preM r.xs ++ (rowTo r ([], carAtC s r) r.xs.length).1
def stepCmp (s : CmpS) (r : RowM) : CmpS :=
  ⟨putF s.f r.c (rowTo r ([], carAtC s r) r.xs.length).2, s.parts ++ [partC s r ++ opsC s r], s.plan ++ [carAtC s r]⟩
def firstC (c : ChartM) : Int := (rowI c.rs 0).c
def startCmp (c : ChartM) : CmpS := ⟨putF (fun _ => none) (firstC c) (2 * c.n), [inOp 1 (firstC c) :: castM c.n.toNat (firstC c)], []⟩
def cmpTo (c : ChartM) : Nat → CmpS
  | 0 => startCmp c
  | j + 1 => stepCmp (cmpTo c j) (rowI c.rs j)
def outsTo (cs : List Int) (j : Nat) : List OpM := (cs.take j).map outOp
theorem outsTo_succ {cs : List Int} {j : Nat} (h : j < cs.length) : outsTo cs (j + 1) = outsTo cs j ++ [outOp cs[j]] := by
  unfold outsTo; rw [List.take_succ_eq_append_getElem h, List.map_append]; rfl
theorem outsTo_length {cs : List Int} {j : Nat} (h : j ≤ cs.length) : (outsTo cs j).length = j := by unfold outsTo; simp; omega
def endC (c : ChartM) : List OpM := outsTo (putL (carsTo c.rs c.rs.length)) (putL (carsTo c.rs c.rs.length)).length
def partsM (c : ChartM) : List (List OpM) := (cmpTo c c.rs.length).parts ++ [endC c]
def planQ (c : ChartM) : List Int := (cmpTo c c.rs.length).plan
/-- the carriers that are in ahead of row j, rising -/
def insL (c : ChartM) (j : Nat) : List Int := (carsTo c.rs j).foldl (fun a x => insM x a) [firstC c]
theorem insL_succ (c : ChartM) {j : Nat} (h : j < c.rs.length) : insL c (j + 1) = insM (rowI c.rs j).c (insL c j) := by
  unfold insL; rw [carsTo_succ h, List.foldl_append, rowI_eq h]; rfl
theorem insL_ok (c : ChartM) (j : Nat) : (insL c j).Pairwise (· < ·) ∧ ∀ z, z ∈ insL c j ↔ z = firstC c ∨ z ∈ carsTo c.rs j := by
  have h := putL_ok (carsTo c.rs j) [firstC c] (by simp)
  exact ⟨h.1, fun z => by
    show z ∈ (carsTo c.rs j).foldl (fun a x => insM x a) [firstC c] ↔ _
    rw [h.2 z]; simp⟩
theorem insL_len (c : ChartM) (j : Nat) (h : j ≤ c.rs.length) : (insL c j).length ≤ j + 1 := by
  have := putL_len (carsTo c.rs j) [firstC c]
  rw [carsTo_length h] at this
  unfold insL
  simp at this
  omega
theorem insL_end (c : ChartM) (h : 0 < c.rs.length) : insL c c.rs.length = putL (carsTo c.rs c.rs.length) := by
  have e : carsTo c.rs c.rs.length = firstC c :: ((c.rs.drop 1).map fun r => r.c) := by
    unfold carsTo firstC
    rw [rowI_eq h, List.take_length]
    obtain ⟨n, rs⟩ := c
    cases rs with
    | nil => simp at h
    | cons r rs => simp
  unfold insL putL
  rw [e, List.foldl_cons, List.foldl_cons]
  simp [insM]
theorem insL_step (c : ChartM) {j : Nat} (h : j < c.rs.length) (hh : (rowI c.rs j).c ∈ insL c j) : insL c (j + 1) = insL c j := by
  rw [insL_succ c h, insM_has (insL_ok c j).1 hh]
theorem cmp_some (c : ChartM) : ∀ j, j ≤ c.rs.length → ∀ x, ((cmpTo c j).f x).isSome = true ↔ x ∈ insL c j
  | 0, _, x => by
    rw [(insL_ok c 0).2 x]
    show (putF (fun _ => none) (firstC c) (2 * c.n) x).isSome = true ↔ _
    unfold putF carsTo
    by_cases e : x = firstC c <;> simp [e]
  | j + 1, h, x => by
    rw [insL_succ c (by omega), insM_mem]
    show (putF (cmpTo c j).f (rowI c.rs j).c _ x).isSome = true ↔ _
    rw [← cmp_some c j (by omega) x]
    unfold putF
    by_cases e : x = (rowI c.rs j).c <;> simp [e]
/-- what a chart's validity says of its rows -/
structure RowFit (st : List Int) (r : RowM) : Prop where
  code : rowCodeM r.d r.c r.xs = 0
  taken : sumF takenK r.xs = st.length
  made : sumF madeK r.xs = (saL st r.xs).length
  lo : 1 ≤ st.length
  hi : st.length ≤ 8
theorem rowFit_of {st : List Int} {r : RowM} (h : okR st r = true) (h1 : 1 ≤ st.length) (h8 : st.length ≤ 8) : RowFit st r ∧ 1 ≤ (saL st r.xs).length ∧ (saL st r.xs).length ≤ 8 := by
  unfold okR at h
  simp only [Bool.and_eq_true, decide_eq_true_eq] at h
  obtain ⟨hb, hs, -⟩ := h
  obtain ⟨hf, he⟩ := saC_fits hs
  have hl8 := saC_le8 hs
  have ht := hf.sum
  have hm : ((aftTo st r.xs r.xs.length).length : Int) = sumF madeK r.xs := by
    rw [aftTo_length (Nat.le_refl _), posM_int, List.take_length]
  have hne : 1 ≤ sumF madeK r.xs := by
    cases hx : r.xs with
    | nil => rw [hx] at ht; simp [sumF] at ht; omega
    | cons x xs =>
      have := madeK_bd x
      have h2 := sumF_bd madeK 0 4 (by omega) (fun x => by have := madeK_bd x; omega) xs
      simp only [sumF]
      omega
  have hc : rowCodeM r.d r.c r.xs = 0 := rowCode_ok hb (by
    unfold laidB
    rw [inB_yes (by omega), inB_yes (by omega)]
    rfl)
  rw [he]
  exact ⟨⟨hc, ht, by rw [he]; exact hm.symm, h1, h8⟩, by omega, hl8⟩
theorem okC_at {n : Int} {rs : List RowM} {j m : Nat} (h : okC n rs m = true) (hj : j < m) : okR (atS n rs j) (rowI rs j) = true := by
  unfold okC at h
  exact List.all_eq_true.1 h j (by simpa using hj)
structure ChartOk (c : ChartM) : Prop where
  n : 1 ≤ c.n ∧ c.n ≤ 8
  rows : 1 ≤ c.rs.length ∧ c.rs.length ≤ 8
  fit : ∀ j, j < c.rs.length → RowFit (atS c.n c.rs j) (rowI c.rs j)
theorem chartOk_of {c : ChartM} (h : chartB c = true) : ChartOk c := by
  unfold chartB sizeB at h
  simp only [Bool.and_eq_true] at h
  obtain ⟨⟨h1, h2⟩, h3⟩ := h
  have hn := of_decide_eq_true h1
  have hr := of_decide_eq_true h2
  have key : ∀ j, j ≤ c.rs.length → 1 ≤ (atS c.n c.rs j).length ∧ (atS c.n c.rs j).length ≤ 8 := by
    intro j
    induction j with
    | zero => intro _; show 1 ≤ (List.replicate c.n.toNat (1 : Int)).length ∧ _; rw [List.length_replicate]; refine ⟨by omega, ?_⟩; show (List.replicate c.n.toNat (1 : Int)).length ≤ 8; rw [List.length_replicate]; omega
    | succ j ih => intro hj; have h9 := ih (by omega); exact (rowFit_of (okC_at h3 (show j < c.rs.length by omega)) h9.1 h9.2).2
  exact ⟨hn, by omega, fun j hj => (rowFit_of (okC_at h3 hj) (key j (by omega)).1 (key j (by omega)).2).1⟩
theorem ChartOk.first {c : ChartM} (h : ChartOk c) : 1 ≤ firstC c ∧ firstC c ≤ 4 := (laid_of (h.fit 0 h.rows.1).code).car
theorem inAt_bd (d : Int) : -3 ≤ inAt d ∧ inAt d ≤ 27 := by unfold inAt; split <;> omega
theorem cmp_bd {c : ChartM} (h : ChartOk c) : ∀ j, j ≤ c.rs.length → ∀ x y, (cmpTo c j).f x = some y → -3 ≤ y ∧ y ≤ 27
  | 0, _, x, y, hy => by
    have hn := h.n
    change putF (fun _ => none) (firstC c) (2 * c.n) x = some y at hy
    unfold putF at hy
    split at hy
    · injection hy with hy; omega
    · cases hy
  | j + 1, hj, x, y, hy => by
    have ih := cmp_bd h j (by omega)
    change putF (cmpTo c j).f (rowI c.rs j).c _ x = some y at hy
    unfold putF at hy
    split at hy
    · injection hy with hy
      have hl := laid_of (h.fit j (by omega)).code
      have ha : -3 ≤ carAtC (cmpTo c j) (rowI c.rs j) ∧ carAtC (cmpTo c j) (rowI c.rs j) ≤ 27 := by
        unfold carAtC
        cases hg : (cmpTo c j).f (rowI c.rs j).c with
        | none => exact inAt_bd _
        | some z => exact ih _ z hg
      rw [← hy]
      exact (rowTo_bd hl ([], _) ha _ (Nat.le_refl _)).1
    · exact ih x y hy
theorem car_bd {c : ChartM} (h : ChartOk c) {j : Nat} (hj : j < c.rs.length) : -3 ≤ carAtC (cmpTo c j) (rowI c.rs j) ∧ carAtC (cmpTo c j) (rowI c.rs j) ≤ 27 := by
  unfold carAtC
  cases hg : (cmpTo c j).f (rowI c.rs j).c with
  | none => exact inAt_bd _
  | some z => exact cmp_bd h j (by omega) _ z hg
theorem opsC_len {c : ChartM} (h : ChartOk c) {j : Nat} (hj : j < c.rs.length) : (opsC (cmpTo c j) (rowI c.rs j)).length ≤ 5000 := by
  have hf := (h.fit j hj).code
  have h1 := preM_len (laid_of hf).len
  have h2 := rowTo_len hf _ (car_bd h hj)
  unfold opsC
  rw [List.length_append]
  omega
theorem partC_len (s : CmpS) (r : RowM) : (partC s r).length ≤ 1 := by unfold partC; split <;> simp
theorem ask_ok {c : ChartM} (h : ChartOk c) {j : Nat} (hj : j < c.rs.length) : askM (rowI c.rs j) (atS c.n c.rs j).length (carAtC (cmpTo c j) (rowI c.rs j)) = 0 :=
  askM_0 (h.fit j hj).code (h.fit j hj).taken (car_bd h hj)
theorem rowOut_ok {c : ChartM} (h : ChartOk c) {j : Nat} (hj : j < c.rs.length) : rowOut (rowI c.rs j) (atS c.n c.rs j).length (carAtC (cmpTo c j) (rowI c.rs j)) = opsC (cmpTo c j) (rowI c.rs j) := by
  unfold rowOut; rw [if_pos (ask_ok h hj)]; rfl
theorem carOut_ok {c : ChartM} (h : ChartOk c) {j : Nat} (hj : j < c.rs.length) : carOut (rowI c.rs j) (atS c.n c.rs j).length (carAtC (cmpTo c j) (rowI c.rs j)) = (rowTo (rowI c.rs j) ([], carAtC (cmpTo c j) (rowI c.rs j)) (rowI c.rs j).xs.length).2 := by
  unfold carOut; rw [if_pos (ask_ok h hj)]
theorem plan_length (c : ChartM) : ∀ j, (cmpTo c j).plan.length = j
  | 0 => rfl
  | j + 1 => by show ((cmpTo c j).plan ++ [_]).length = _; rw [List.length_append, plan_length c j]; rfl
theorem parts_length (c : ChartM) : ∀ j, (cmpTo c j).parts.length = j + 1
  | 0 => rfl
  | j + 1 => by show ((cmpTo c j).parts ++ [_]).length = _; rw [List.length_append, parts_length c j]; rfl
theorem parts_len {c : ChartM} (h : ChartOk c) : ∀ j, j ≤ c.rs.length → ∀ p ∈ (cmpTo c j).parts, p.length ≤ 5001
  | 0, _, p, hp => by
    change p ∈ [inOp 1 (firstC c) :: castM c.n.toNat (firstC c)] at hp
    obtain rfl : p = _ := by simpa using hp
    have := h.n
    simp only [List.length_cons, castM_length]
    omega
  | j + 1, hj, p, hp => by
    change p ∈ (cmpTo c j).parts ++ [partC (cmpTo c j) (rowI c.rs j) ++ opsC (cmpTo c j) (rowI c.rs j)] at hp
    rcases List.mem_append.1 hp with hp | hp
    · exact parts_len h j (by omega) p hp
    · obtain rfl : p = _ := by simpa using hp
      have h1 := partC_len (cmpTo c j) (rowI c.rs j)
      have h2 := opsC_len h (show j < c.rs.length by omega)
      rw [List.length_append]
      omega
theorem partsM_len {c : ChartM} (h : ChartOk c) : (partsM c).length = c.rs.length + 2 ∧ ∀ p ∈ partsM c, p.length ≤ 5001 := by
  unfold partsM
  refine ⟨by rw [List.length_append, parts_length]; rfl, fun p hp => ?_⟩
  rcases List.mem_append.1 hp with hp | hp
  · exact parts_len h _ (Nat.le_refl _) p hp
  · obtain rfl : p = _ := by simpa using hp
    unfold endC
    rw [outsTo_length (Nat.le_refl _)]
    have h1 := putL_length (carsTo c.rs c.rs.length)
    rw [carsTo_length (Nat.le_refl _)] at h1
    have := h.rows
    omega
end Go.Proofs.YtnjfhpgmogopnaaGreat
