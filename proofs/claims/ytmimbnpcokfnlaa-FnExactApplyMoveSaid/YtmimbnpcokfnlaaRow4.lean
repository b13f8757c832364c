/- The columns that the stitches of a row take and make. No condition but room. -/
import Derived.Test.YtmimbnpcokfnlaaRow3
import Derived.Test.YtmimbnpcokfnlaaOwnS
namespace Go.Proofs.Ytmimbnpcokfnlaa
open Go.ChangeShapes Go.WideShapes Go.ChangeAt Go.RowKit
theorem countM_succ (a : Int) (j : Nat) : countM a ((j : Int) + 1) = countM a j ++ [a + j] := by
  unfold countM
  rw [show ((j : Int) + 1).toNat = j + 1 by omega, List.range_succ]
  simp
theorem countM_len (a : Int) (j : Nat) : (countM a j).length = j := by rw [countM_length]; omega
theorem RowAt.open_ {w : World} {S : Nat → Prop} {b o : Nat} {r : RowM} (h : RowAt w S b o r) : ∃ A c, w.cell? ⟨b, o, none⟩ = some (.int .i64 r.d) ∧ w.cell? ⟨b, o + 1, none⟩ = some (.int .i64 r.c) ∧ w.cell? ⟨b, o + 2, none⟩ = some (.slice A r.xs.length c) ∧ Ints w S (.slice A r.xs.length c) r.xs ∧ r.xs.length ≤ c ∧ c ≤ 9223372036854775807 := by
  obtain ⟨A, c, h1, h2, h3, h4, h5, h6, _⟩ := h
  exact ⟨A, c, h1, h2, h3, h4, h5, h6⟩
set_option maxHeartbeats 1000000 in
theorem l20Ask_any (w : World) (S : Nat → Prop) (b o : Nat) (r : RowM) (h : RowAt w S b o r) :
    Calls Try.prog 173 #[.pointer (some ⟨b, o, none⟩)] w fun e w' => e = .returned (.int .i64 (rowCodeM r.d r.c r.xs)) ∧ Up w w' := by
  obtain ⟨A, c, f0, f1, f2, h4, h5, h6⟩ := h.open_
  have H := Lib.hid h
  have HI := Lib.hid h4
  have U0 := Lib.hid (Chg.refl Nowhere w)
  clear h h4
  cases hr : rowB r.d r.c r.xs with
  | false =>
    have HB := Lib.hid (rowCode_bad hr)
    have HR := Lib.hid hr
    clear hr
    go_enter Try.func173, Try.ntmps173
    go_wp2_with fail
    refine (l15Row_any _ S _ _ r H.out).mono ?_
    rintro e w' ⟨rfl, rfl⟩
    rw [HR.out]
    go_wp2
    go_ret
    exact ⟨ret_int HB.out.symm, (Chg.trans U0.out (by repeat (first | exact Chg.refl _ _ | apply Chg.drew | apply Chg.drewN | refine Chg.alloc ?_ _)))⟩
  | true =>
    have HS := Lib.hid (rowB_dir hr).2.2
    cases ht : inB (sumF takenK r.xs) 1 8 with
    | false =>
      have HB := Lib.hid (rowCode_unlaid hr (laidB_1 ht))
      have HR := Lib.hid hr
      have HT := Lib.hid ht
      clear hr ht
      go_enter Try.func173, Try.ntmps173
      go_wp2_with fail
      refine (l15Row_any _ S _ _ r H.out).mono ?_
      rintro e w' ⟨rfl, rfl⟩
      rw [HR.out]
      go_wp2_with fail
      refine (sTakenBy_yes _ S _ r.xs (HI.out.up (by repeat (first | exact Chg.refl _ _ | apply Chg.drew | apply Chg.drewN | refine Chg.alloc ?_ _))) HS.out).mono ?_
      rintro e w1 ⟨rfl, g1⟩
      have G1 := Lib.hid g1
      have hz1 := G1.out.size
      clear g1
      have U_2 := Lib.hid (Chg.trans U0.out (Chg.trans (by repeat (first | exact Chg.refl _ _ | apply Chg.drew | apply Chg.drewN | refine Chg.alloc ?_ _)) G1.out))
      clear U0
      have I_3 := Lib.hid (HI.out.up (Chg.trans (by repeat (first | exact Chg.refl _ _ | apply Chg.drew | apply Chg.drewN | refine Chg.alloc ?_ _)) G1.out))
      clear HI
      have f0_4 := Chg.cell (Chg.trans (by repeat (first | exact Chg.refl _ _ | apply Chg.drew | apply Chg.drewN | refine Chg.alloc ?_ _)) G1.out) f0 id
      clear f0
      have f1_5 := Chg.cell (Chg.trans (by repeat (first | exact Chg.refl _ _ | apply Chg.drew | apply Chg.drewN | refine Chg.alloc ?_ _)) G1.out) f1 id
      clear f1
      have f2_6 := Chg.cell (Chg.trans (by repeat (first | exact Chg.refl _ _ | apply Chg.drew | apply Chg.drewN | refine Chg.alloc ?_ _)) G1.out) f2 id
      clear f2
      clear G1
      go_wp2_with fail
      refine (l00In_any _ _ _ _).mono ?_
      rintro e w' ⟨rfl, rfl⟩
      rw [HT.out]
      go_wp2
      go_ret
      exact ⟨ret_int HB.out.symm, (Chg.trans U_2.out (by repeat (first | exact Chg.refl _ _ | apply Chg.drew | apply Chg.drewN | refine Chg.alloc ?_ _)))⟩
    | true =>
      have hl2 := laidB_2 ht
      cases hm : inB (sumF madeK r.xs) 1 8 with
      | false =>
        rw [hm] at hl2
        have HB := Lib.hid (rowCode_unlaid hr hl2)
        have HR := Lib.hid hr
        have HT := Lib.hid ht
        have HM := Lib.hid hm
        clear hr ht hm hl2
        go_enter Try.func173, Try.ntmps173
        go_wp2_with fail
        refine (l15Row_any _ S _ _ r H.out).mono ?_
        rintro e w' ⟨rfl, rfl⟩
        rw [HR.out]
        go_wp2_with fail
        refine (sTakenBy_yes _ S _ r.xs (HI.out.up (by repeat (first | exact Chg.refl _ _ | apply Chg.drew | apply Chg.drewN | refine Chg.alloc ?_ _))) HS.out).mono ?_
        rintro e w7 ⟨rfl, g1⟩
        have G1 := Lib.hid g1
        have hz7 := G1.out.size
        clear g1
        have U_8 := Lib.hid (Chg.trans U0.out (Chg.trans (by repeat (first | exact Chg.refl _ _ | apply Chg.drew | apply Chg.drewN | refine Chg.alloc ?_ _)) G1.out))
        clear U0
        have I_9 := Lib.hid (HI.out.up (Chg.trans (by repeat (first | exact Chg.refl _ _ | apply Chg.drew | apply Chg.drewN | refine Chg.alloc ?_ _)) G1.out))
        clear HI
        have f0_10 := Chg.cell (Chg.trans (by repeat (first | exact Chg.refl _ _ | apply Chg.drew | apply Chg.drewN | refine Chg.alloc ?_ _)) G1.out) f0 id
        clear f0
        have f1_11 := Chg.cell (Chg.trans (by repeat (first | exact Chg.refl _ _ | apply Chg.drew | apply Chg.drewN | refine Chg.alloc ?_ _)) G1.out) f1 id
        clear f1
        have f2_12 := Chg.cell (Chg.trans (by repeat (first | exact Chg.refl _ _ | apply Chg.drew | apply Chg.drewN | refine Chg.alloc ?_ _)) G1.out) f2 id
        clear f2
        clear G1
        go_wp2_with fail
        refine (l00In_any _ _ _ _).mono ?_
        rintro e w' ⟨rfl, rfl⟩
        rw [HT.out]
        go_wp2_with fail
        refine (sMadeBy_yes _ S _ r.xs (I_9.out.up (by repeat (first | exact Chg.refl _ _ | apply Chg.drew | apply Chg.drewN | refine Chg.alloc ?_ _))) HS.out).mono ?_
        rintro e w13 ⟨rfl, g1⟩
        have G1 := Lib.hid g1
        have hz13 := G1.out.size
        clear g1
        have U_14 := Lib.hid (Chg.trans U_8.out (Chg.trans (by repeat (first | exact Chg.refl _ _ | apply Chg.drew | apply Chg.drewN | refine Chg.alloc ?_ _)) G1.out))
        clear U_8
        have I_15 := Lib.hid (I_9.out.up (Chg.trans (by repeat (first | exact Chg.refl _ _ | apply Chg.drew | apply Chg.drewN | refine Chg.alloc ?_ _)) G1.out))
        clear I_9
        have f0_16 := Chg.cell (Chg.trans (by repeat (first | exact Chg.refl _ _ | apply Chg.drew | apply Chg.drewN | refine Chg.alloc ?_ _)) G1.out) f0_10 id
        clear f0_10
        have f1_17 := Chg.cell (Chg.trans (by repeat (first | exact Chg.refl _ _ | apply Chg.drew | apply Chg.drewN | refine Chg.alloc ?_ _)) G1.out) f1_11 id
        clear f1_11
        have f2_18 := Chg.cell (Chg.trans (by repeat (first | exact Chg.refl _ _ | apply Chg.drew | apply Chg.drewN | refine Chg.alloc ?_ _)) G1.out) f2_12 id
        clear f2_12
        clear G1
        go_wp2_with fail
        refine (l00In_any _ _ _ _).mono ?_
        rintro e w' ⟨rfl, rfl⟩
        rw [HM.out]
        go_wp2
        go_ret
        exact ⟨ret_int HB.out.symm, (Chg.trans U_14.out (by repeat (first | exact Chg.refl _ _ | apply Chg.drew | apply Chg.drewN | refine Chg.alloc ?_ _)))⟩
      | true =>
        rw [hm] at hl2
        have HB := Lib.hid (rowCode_ok hr hl2)
        have HR := Lib.hid hr
        have HT := Lib.hid ht
        have HM := Lib.hid hm
        clear hr ht hm hl2
        go_enter Try.func173, Try.ntmps173
        go_wp2_with fail
        refine (l15Row_any _ S _ _ r H.out).mono ?_
        rintro e w' ⟨rfl, rfl⟩
        rw [HR.out]
        go_wp2_with fail
        refine (sTakenBy_yes _ S _ r.xs (HI.out.up (by repeat (first | exact Chg.refl _ _ | apply Chg.drew | apply Chg.drewN | refine Chg.alloc ?_ _))) HS.out).mono ?_
        rintro e w19 ⟨rfl, g1⟩
        have G1 := Lib.hid g1
        have hz19 := G1.out.size
        clear g1
        have U_20 := Lib.hid (Chg.trans U0.out (Chg.trans (by repeat (first | exact Chg.refl _ _ | apply Chg.drew | apply Chg.drewN | refine Chg.alloc ?_ _)) G1.out))
        clear U0
        have I_21 := Lib.hid (HI.out.up (Chg.trans (by repeat (first | exact Chg.refl _ _ | apply Chg.drew | apply Chg.drewN | refine Chg.alloc ?_ _)) G1.out))
        clear HI
        have f0_22 := Chg.cell (Chg.trans (by repeat (first | exact Chg.refl _ _ | apply Chg.drew | apply Chg.drewN | refine Chg.alloc ?_ _)) G1.out) f0 id
        clear f0
        have f1_23 := Chg.cell (Chg.trans (by repeat (first | exact Chg.refl _ _ | apply Chg.drew | apply Chg.drewN | refine Chg.alloc ?_ _)) G1.out) f1 id
        clear f1
        have f2_24 := Chg.cell (Chg.trans (by repeat (first | exact Chg.refl _ _ | apply Chg.drew | apply Chg.drewN | refine Chg.alloc ?_ _)) G1.out) f2 id
        clear f2
        clear G1
        go_wp2_with fail
        refine (l00In_any _ _ _ _).mono ?_
        rintro e w' ⟨rfl, rfl⟩
        rw [HT.out]
        go_wp2_with fail
        refine (sMadeBy_yes _ S _ r.xs (I_21.out.up (by repeat (first | exact Chg.refl _ _ | apply Chg.drew | apply Chg.drewN | refine Chg.alloc ?_ _))) HS.out).mono ?_
        rintro e w25 ⟨rfl, g1⟩
        have G1 := Lib.hid g1
        have hz25 := G1.out.size
        clear g1
        have U_26 := Lib.hid (Chg.trans U_20.out (Chg.trans (by repeat (first | exact Chg.refl _ _ | apply Chg.drew | apply Chg.drewN | refine Chg.alloc ?_ _)) G1.out))
        clear U_20
        have I_27 := Lib.hid (I_21.out.up (Chg.trans (by repeat (first | exact Chg.refl _ _ | apply Chg.drew | apply Chg.drewN | refine Chg.alloc ?_ _)) G1.out))
        clear I_21
        have f0_28 := Chg.cell (Chg.trans (by repeat (first | exact Chg.refl _ _ | apply Chg.drew | apply Chg.drewN | refine Chg.alloc ?_ _)) G1.out) f0_22 id
        clear f0_22
        have f1_29 := Chg.cell (Chg.trans (by repeat (first | exact Chg.refl _ _ | apply Chg.drew | apply Chg.drewN | refine Chg.alloc ?_ _)) G1.out) f1_23 id
        clear f1_23
        have f2_30 := Chg.cell (Chg.trans (by repeat (first | exact Chg.refl _ _ | apply Chg.drew | apply Chg.drewN | refine Chg.alloc ?_ _)) G1.out) f2_24 id
        clear f2_24
        clear G1
        go_wp2_with fail
        refine (l00In_any _ _ _ _).mono ?_
        rintro e w' ⟨rfl, rfl⟩
        rw [HM.out]
        go_wp2
        go_ret
        exact ⟨ret_int HB.out.symm, (Chg.trans U_26.out (by repeat (first | exact Chg.refl _ _ | apply Chg.drew | apply Chg.drewN | refine Chg.alloc ?_ _)))⟩
set_option maxHeartbeats 1000000 in
theorem l20Count_any (w : World) (a n : Int) (ha : 0 ≤ a ∧ a ≤ 1000) (hn : 0 ≤ n ∧ n ≤ 1000) :
    Calls Try.prog 221 #[.int .i64 a, .int .i64 n] w fun e w' => ∃ v, e = .returned v ∧ Ints w' (New w.heap.size w'.heap.size) v (countM a n) ∧ Up w w' := by
  obtain ⟨m, rfl⟩ := Int.eq_ofNat_of_zero_le hn.1
  have hm : m ≤ 1000 := by omega
  obtain ⟨ha0, ha1⟩ := ha
  clear hn
  go_enter Try.func221, Try.ntmps221
  go_wp2
  go_loopw [5, 6] (fun v i wr => ∃ j : Nat, j ≤ m ∧ i = .int .i64 j ∧ Hid (OwnI wr w.heap.size v (countM a j)) ∧ Hid (Up w wr)) (fun _ i _ => m - (intOf i).toNat)
  case atStart => exact ⟨0, by omega, rfl, OwnI.made w _ (Nat.le_refl _), (Chg.refl _ _).alloc _⟩
  case round =>
    obtain ⟨j, hj, rfl, ho, hg⟩ := hrel
    by_cases hlt : j < m
    · have HI := Lib.hid (show I64 (a + j) by unfold I64; omega)
      have HL := Lib.hid (show (countM a j).length ≤ 1099511627776 by rw [countM_len]; omega)
      have hsz := hg.out.size
      go_wp2_with (first | (at_builtin; refine wp_append_int rfl _ _ rfl w.heap.size _ (countM a j) rfl (ho.out.alloc _) _ (a + j) rfl (cell_new _ _ _ _) HI.out HL.out ?_ ?_; (simp; omega); intro v' w1 ho1 _ hg1; have HO := Lib.hid ho1; have HG := Lib.hid hg1; clear ho1 hg1))
      go_roundw
      case rel => exact ⟨j + 1, by omega, by go_num, by rw [show ((j + 1 : Nat) : Int) = (j : Int) + 1 by omega, countM_succ]; exact HO.out, Chg.new (hg.out.alloc _) HG.out (fun i hi => by omega)⟩
      case measure => simp [intOf]; omega
    · obtain rfl : j = m := by omega
      go_wp2
      go_ret
      exact ⟨_, rfl, ho.out.ints, hg.out⟩
set_option maxHeartbeats 2000000 in
theorem l20Sources_any (w : World) (S : Nat → Prop) (b o : Nat) (r : RowM) (h : RowAt w S b o r) (hs : stB r.xs = true) :
    Calls Try.prog 218 #[.pointer (some ⟨b, o, none⟩)] w fun e w' => ∃ v, e = .returned v ∧ IntSS w' (New w.heap.size w'.heap.size) v (listsM takenK 0 r.xs) ∧ Up w w' := by
  obtain ⟨A, c, -, -, f2, h4, h5, h6⟩ := h.open_
  have HI := Lib.hid h4
  have hl := stB_len hs
  have HK := Lib.hid (stB_kind hs)
  clear h h4 hs
  go_enter Try.func218, Try.ntmps218
  go_wp2
  go_loopw [3, 4, 5, 6] (fun v a i _ wr => ∃ j : Nat, j ≤ r.xs.length ∧ i = .int .i64 j ∧ a = .int .i64 (sumF takenK (r.xs.take j)) ∧ Hid (OwnSS wr w.heap.size v (listsM takenK 0 (r.xs.take j))) ∧ Hid (Up w wr)) (fun _ _ i _ _ => r.xs.length - (intOf i).toNat)
  case atStart => exact ⟨0, by omega, rfl, rfl, OwnSS.made w _ (Nat.le_refl _), (Chg.refl _ _).alloc _⟩
  case round =>
    obtain ⟨j, hj, rfl, rfl, ho, hg⟩ := hrel
    have g2 := Chg.cell hg.out f2 id
    by_cases hlt : j < r.xs.length
    · obtain ⟨b1, o1, rfl, -, hc⟩ := HI.out.ix hlt
      have f1 := Chg.cell hg.out (hc j hlt) id
      rw [ix_eq hlt] at f1
      have HT := Lib.hid (sumF_take takenK hlt)
      have HX := Lib.hid (listsM_take takenK 0 hlt)
      have HV := Lib.hid (takenOf_ok (HK.out _ (List.getElem_mem hlt)))
      have HLL := Lib.hid (show (listsM takenK 0 (r.xs.take j)).length ≤ 1099511627 by rw [listsM_length, List.length_take]; omega)
      have hb1 := takenK_bd r.xs[j]
      have hb2 := sumF_bd takenK 0 4 (by omega) (fun x => by have := takenK_bd x; omega) (r.xs.take j)
      rw [List.length_take, Nat.min_eq_left hj] at hb2
      have hsz := hg.out.size
      clear hc
      have G_1 := Lib.hid (Chg.refl Nowhere wr)
      go_wp2_with fail
      refine (sColumnsTaken_any _ _).mono ?_
      rintro e w2 ⟨rfl, g1⟩
      have G1 := Lib.hid g1
      have hz2 := G1.out.size
      clear g1
      have U_3 := Lib.hid (Chg.trans hg.out (Chg.trans (by repeat (first | exact Chg.refl _ _ | apply Chg.drew | apply Chg.drewN | refine Chg.alloc ?_ _)) G1.out))
      clear hg
      have G_4 := Lib.hid (Chg.trans G_1.out (Chg.trans (by repeat (first | exact Chg.refl _ _ | apply Chg.drew | apply Chg.drewN | refine Chg.alloc ?_ _)) G1.out))
      clear G_1
      clear G1
      rw [HV.out]
      go_wp2_with fail
      refine (l20Count_any _ _ _ ⟨by omega, by omega⟩ ⟨by omega, by omega⟩).mono ?_
      rintro e w5 ⟨v5, rfl, k1, g1⟩
      obtain ⟨A5, c5, rfl, hl5, hc5, -⟩ := k1.shape
      have K1 := Lib.hid k1
      clear k1
      have G1 := Lib.hid g1
      have hz5 := G1.out.size
      clear g1
      have U_6 := Lib.hid (Chg.trans U_3.out (Chg.trans (by repeat (first | exact Chg.refl _ _ | apply Chg.drew | apply Chg.drewN | refine Chg.alloc ?_ _)) G1.out))
      clear U_3
      have G_7 := Lib.hid (Chg.trans G_4.out (Chg.trans (by repeat (first | exact Chg.refl _ _ | apply Chg.drew | apply Chg.drewN | refine Chg.alloc ?_ _)) G1.out))
      clear G_4
      clear G1
      have K_8 := Lib.hid (K1.out)
      clear K1
      have hgs := G_7.out.size
      have HKK := Lib.hid (show Ints (w5.alloc (.cells #[.slice A5 (countM (sumF takenK (r.xs.take j)) (takenK r.xs[j])).length c5] 22)) (New wr.heap.size (w5.alloc (.cells #[.slice A5 (countM (sumF takenK (r.xs.take j)) (takenK r.xs[j])).length c5] 22)).heap.size) _ _ from (K_8.out.up ((Chg.refl Nowhere _).alloc _)).mono (fun b _ hb => ⟨by have := hb.1; omega, by have := hb.2; simp; omega⟩))
      go_wp2_with (first | (at_builtin; refine wp_append_ss rfl _ _ rfl w.heap.size wr _ (listsM takenK 0 (r.xs.take j)) rfl ho.out (Chg.trans G_7.out (by repeat (first | exact Chg.refl _ _ | apply Chg.drew | apply Chg.drewN | refine Chg.alloc ?_ _))) _ _ (countM (sumF takenK (r.xs.take j)) (takenK r.xs[j])) rfl (cell_new _ _ _ _) HKK.out HLL.out hsz ?_; intro v' w9 ho1 hg1; have HO := Lib.hid ho1; have HG := Lib.hid hg1; clear ho1 hg1))
      go_roundw
      case rel => exact ⟨j + 1, by omega, by go_num, by rw [HT.out], by rw [HX.out, Int.zero_add]; exact HO.out, Chg.new (Chg.trans U_6.out (by repeat (first | exact Chg.refl _ _ | apply Chg.drew | apply Chg.drewN | refine Chg.alloc ?_ _))) HG.out (fun i hi => by omega)⟩
      case measure => simp [intOf]; omega
    · obtain rfl : j = r.xs.length := by omega
      have HX := Lib.hid (show listsM takenK 0 (r.xs.take r.xs.length) = listsM takenK 0 r.xs by rw [List.take_length])
      go_wp2
      go_ret
      exact ⟨_, rfl, by have := ho.out.ss; rw [HX.out] at this; exact this, hg.out⟩
set_option maxHeartbeats 2000000 in
theorem l20Results_any (w : World) (S : Nat → Prop) (b o : Nat) (r : RowM) (h : RowAt w S b o r) (hs : stB r.xs = true) :
    Calls Try.prog 180 #[.pointer (some ⟨b, o, none⟩)] w fun e w' => ∃ v, e = .returned v ∧ IntSS w' (New w.heap.size w'.heap.size) v (listsM madeK 0 r.xs) ∧ Up w w' := by
  obtain ⟨A, c, -, -, f2, h4, h5, h6⟩ := h.open_
  have HI := Lib.hid h4
  have hl := stB_len hs
  have HK := Lib.hid (stB_kind hs)
  clear h h4 hs
  go_enter Try.func180, Try.ntmps180
  go_wp2
  go_loopw [3, 4, 5, 6] (fun v a i _ wr => ∃ j : Nat, j ≤ r.xs.length ∧ i = .int .i64 j ∧ a = .int .i64 (sumF madeK (r.xs.take j)) ∧ Hid (OwnSS wr w.heap.size v (listsM madeK 0 (r.xs.take j))) ∧ Hid (Up w wr)) (fun _ _ i _ _ => r.xs.length - (intOf i).toNat)
  case atStart => exact ⟨0, by omega, rfl, rfl, OwnSS.made w _ (Nat.le_refl _), (Chg.refl _ _).alloc _⟩
  case round =>
    obtain ⟨j, hj, rfl, rfl, ho, hg⟩ := hrel
    have g2 := Chg.cell hg.out f2 id
    by_cases hlt : j < r.xs.length
    · obtain ⟨b1, o1, rfl, -, hc⟩ := HI.out.ix hlt
      have f1 := Chg.cell hg.out (hc j hlt) id
      rw [ix_eq hlt] at f1
      have HT := Lib.hid (sumF_take madeK hlt)
      have HX := Lib.hid (listsM_take madeK 0 hlt)
      have HV := Lib.hid (madeOf_ok (HK.out _ (List.getElem_mem hlt)))
      have HLL := Lib.hid (show (listsM madeK 0 (r.xs.take j)).length ≤ 1099511627 by rw [listsM_length, List.length_take]; omega)
      have hb1 := madeK_bd r.xs[j]
      have hb2 := sumF_bd madeK 0 4 (by omega) (fun x => by have := madeK_bd x; omega) (r.xs.take j)
      rw [List.length_take, Nat.min_eq_left hj] at hb2
      have hsz := hg.out.size
      clear hc
      have G_1 := Lib.hid (Chg.refl Nowhere wr)
      go_wp2_with fail
      refine (sColumnsMade_any _ _).mono ?_
      rintro e w2 ⟨rfl, g1⟩
      have G1 := Lib.hid g1
      have hz2 := G1.out.size
      clear g1
      have U_3 := Lib.hid (Chg.trans hg.out (Chg.trans (by repeat (first | exact Chg.refl _ _ | apply Chg.drew | apply Chg.drewN | refine Chg.alloc ?_ _)) G1.out))
      clear hg
      have G_4 := Lib.hid (Chg.trans G_1.out (Chg.trans (by repeat (first | exact Chg.refl _ _ | apply Chg.drew | apply Chg.drewN | refine Chg.alloc ?_ _)) G1.out))
      clear G_1
      clear G1
      rw [HV.out]
      go_wp2_with fail
      refine (l20Count_any _ _ _ ⟨by omega, by omega⟩ ⟨by omega, by omega⟩).mono ?_
      rintro e w5 ⟨v5, rfl, k1, g1⟩
      obtain ⟨A5, c5, rfl, hl5, hc5, -⟩ := k1.shape
      have K1 := Lib.hid k1
      clear k1
      have G1 := Lib.hid g1
      have hz5 := G1.out.size
      clear g1
      have U_6 := Lib.hid (Chg.trans U_3.out (Chg.trans (by repeat (first | exact Chg.refl _ _ | apply Chg.drew | apply Chg.drewN | refine Chg.alloc ?_ _)) G1.out))
      clear U_3
      have G_7 := Lib.hid (Chg.trans G_4.out (Chg.trans (by repeat (first | exact Chg.refl _ _ | apply Chg.drew | apply Chg.drewN | refine Chg.alloc ?_ _)) G1.out))
      clear G_4
      clear G1
      have K_8 := Lib.hid (K1.out)
      clear K1
      have hgs := G_7.out.size
      have HKK := Lib.hid (show Ints (w5.alloc (.cells #[.slice A5 (countM (sumF madeK (r.xs.take j)) (madeK r.xs[j])).length c5] 22)) (New wr.heap.size (w5.alloc (.cells #[.slice A5 (countM (sumF madeK (r.xs.take j)) (madeK r.xs[j])).length c5] 22)).heap.size) _ _ from (K_8.out.up ((Chg.refl Nowhere _).alloc _)).mono (fun b _ hb => ⟨by have := hb.1; omega, by have := hb.2; simp; omega⟩))
      go_wp2_with (first | (at_builtin; refine wp_append_ss rfl _ _ rfl w.heap.size wr _ (listsM madeK 0 (r.xs.take j)) rfl ho.out (Chg.trans G_7.out (by repeat (first | exact Chg.refl _ _ | apply Chg.drew | apply Chg.drewN | refine Chg.alloc ?_ _))) _ _ (countM (sumF madeK (r.xs.take j)) (madeK r.xs[j])) rfl (cell_new _ _ _ _) HKK.out HLL.out hsz ?_; intro v' w9 ho1 hg1; have HO := Lib.hid ho1; have HG := Lib.hid hg1; clear ho1 hg1))
      go_roundw
      case rel => exact ⟨j + 1, by omega, by go_num, by rw [HT.out], by rw [HX.out, Int.zero_add]; exact HO.out, Chg.new (Chg.trans U_6.out (by repeat (first | exact Chg.refl _ _ | apply Chg.drew | apply Chg.drewN | refine Chg.alloc ?_ _))) HG.out (fun i hi => by omega)⟩
      case measure => simp [intOf]; omega
    · obtain rfl : j = r.xs.length := by omega
      have HX := Lib.hid (show listsM madeK 0 (r.xs.take r.xs.length) = listsM madeK 0 r.xs by rw [List.take_length])
      go_wp2
      go_ret
      exact ⟨_, rfl, by have := ho.out.ss; rw [HX.out] at this; exact this, hg.out⟩
end Go.Proofs.Ytmimbnpcokfnlaa
