/- The program's columns that stitches take and make; RowSources and RowResults on both sides. No condition but room. -/
import Derived.Test.YtnjfhpgmogopnaaRow4
import Derived.Test.YtnjfhpgmogopnaaPlan2
namespace Go.Proofs.Ytnjfhpgmogopnaa
open Go.ChangeShapes Go.WideShapes Go.ChangeAt Go.RowKit
theorem openRow {w : World} {S : Nat → Prop} {v : Value} {r : RowM} (h : RowV w S v r) : ∃ A c, v = .agg #[.int .i64 r.d, .int .i64 r.c, .slice A r.xs.length c] ∧ Ints w S (.slice A r.xs.length c) r.xs ∧ r.xs.length ≤ c ∧ c ≤ 9223372036854775807 := by
  obtain ⟨A, c, h1, h2, h3, h4, _⟩ := h.shape
  exact ⟨A, c, h1, h2, h3, h4⟩
set_option maxHeartbeats 4000000 in
theorem lists_taken (w : World) (S : Nat → Prop) (v : Value) (r : RowM) (h : RowV w S v r) (hs : stB r.xs = true) :
    Calls Try.prog 198 #[v, .func (.func 199) #[] #[]] w fun e w' => ∃ v, e = .returned v ∧ IntSS w' (New w.heap.size w'.heap.size) v (listsM takenK 0 r.xs) ∧ Up w w' := by
  obtain ⟨A, c, rfl, h4, h5, h6⟩ := openRow h
  have HI := Lib.hid h4
  have hl := stB_len hs
  have HK := Lib.hid (stB_kind hs)
  clear h h4 hs
  go_enter Try.func198, Try.ntmps198
  go_wp2
  go_loopw [5, 6, 8, 9, 14] (fun v a _ _ i wr => ∃ j : Nat, j ≤ r.xs.length ∧ i = .int .i64 j ∧ a = .int .i64 (sumF takenK (r.xs.take j)) ∧ Hid (OwnSS wr w.heap.size v (listsM takenK 0 (r.xs.take j))) ∧ Hid (Up w wr)) (fun _ _ _ _ i _ => r.xs.length - (intOf i).toNat)
  case atStart => exact ⟨0, by omega, rfl, rfl, by have := OwnSS.made (w.alloc (.cells #[.int .i64 r.d, .int .i64 r.c, .slice A r.xs.length c] 87)) w.heap.size (by simp); simpa [Hid, listsM] using this, ((Chg.refl _ _).alloc _).alloc _⟩
  case round =>
    obtain ⟨j, hj, rfl, rfl, ho, hg⟩ := hrel
    by_cases hlt : j < r.xs.length
    · obtain ⟨b1, o1, rfl, -, hc⟩ := HI.out.ix hlt
      have f1 := Chg.cell hg.out (hc j hlt) id
      rw [ix_eq hlt] at f1
      have HT := Lib.hid (sumF_take takenK hlt)
      have HX := Lib.hid (listsM_take takenK 0 hlt)
      have hv := takenOf_ok (HK.out _ (List.getElem_mem hlt))
      have HLL := Lib.hid (show (listsM takenK 0 (r.xs.take j)).length ≤ 1099511627 by rw [listsM_length, List.length_take]; omega)
      have hb1 := takenK_bd r.xs[j]
      obtain ⟨n, hn⟩ := Int.eq_ofNat_of_zero_le (show 0 ≤ takenK r.xs[j] by omega)
      rw [hn] at hv hb1
      have HN := Lib.hid hn
      have HV := Lib.hid hv
      have hb2 := sumF_bd takenK 0 4 (by omega) (fun x => by have := takenK_bd x; omega) (r.xs.take j)
      rw [List.length_take, Nat.min_eq_left hj] at hb2
      have hsz := hg.out.size
      generalize hsv : sumF takenK (r.xs.take j) = sv at *
      have HSV := Lib.hid hsv
      clear hc hn hv hsv
      obtain ⟨wo, hwo⟩ : ∃ wo : World, wo = wr := ⟨_, rfl⟩
      have HO0 := Lib.hid (show OwnSS wo _ _ _ by rw [hwo]; exact ho.out)
      have HG0 := Lib.hid (show Up wo wr by rw [hwo]; exact Chg.refl _ _)
      have hwz : wo.heap.size = wr.heap.size := by rw [hwo]
      have hwz2 : w.heap.size ≤ wo.heap.size := by rw [hwo]; exact hsz
      have HM := Lib.hid (OwnI.made wr wo.heap.size (by omega))
      have HGW := Lib.hid (show Up w wo by rw [hwo]; exact hg.out)
      clear hwo ho
      go_wp2_with fail
      refine (ColumnsTaken_any _ _).mono ?_
      rintro e w' ⟨rfl, rfl⟩
      rw [HV.out]
      go_wp2
      go_loopw [6, 9, 22] (fun a l t wq => ∃ q : Nat, q ≤ n ∧ t = .int .i64 q ∧ a = .int .i64 (sv + q) ∧ Hid (OwnI wq wo.heap.size l (countM sv q)) ∧ Hid (Up wo wq)) (fun _ _ t _ => n - (intOf t).toNat)
      case atStart => exact ⟨0, by omega, rfl, by simp, HM.out, HG0.out.trans ((Chg.refl _ _).alloc _)⟩
      clear HM f1
      case round =>
        obtain ⟨q, hq, rfl, rfl, ho2, hg2⟩ := hrel
        by_cases hlt2 : q < n
        · have HI2 := Lib.hid (show I64 (sv + q) by unfold I64; omega)
          have HL := Lib.hid (show (countM sv q).length ≤ 1099511627776 by rw [countM_len]; omega)
          have hsz2 := hg2.out.size
          go_wp2_with (first | (at_builtin; refine wp_append_int rfl _ _ rfl wo.heap.size _ (countM sv q) rfl (ho2.out.alloc _) _ (sv + q) rfl (cell_new _ _ _ _) HI2.out HL.out ?_ ?_; (simp; omega); intro v' w1 ho1 _ hg1; have HO := Lib.hid ho1; have HG := Lib.hid hg1; clear ho1 hg1))
          go_roundw
          case rel => exact ⟨q + 1, by omega, by go_num, by simp only [Value.int.injEq, true_and]; omega, by rw [show ((q + 1 : Nat) : Int) = (q : Int) + 1 by omega, countM_succ]; exact HO.out, Chg.new (hg2.out.alloc _) HG.out (fun i hi => by omega)⟩
          case measure => simp [intOf]; omega
        · obtain rfl : q = n := by omega
          obtain ⟨A2, c2, rfl, hl2, hc2, -⟩ := ho2.out.ints.shape
          have hsz2 := hg2.out.size
          have HKK := Lib.hid (show Ints (wr.alloc (.cells #[.slice A2 (countM sv q).length c2] 37)) (New wo.heap.size (wr.alloc (.cells #[.slice A2 (countM sv q).length c2] 37)).heap.size) _ _ from (ho2.out.ints.up ((Chg.refl Nowhere _).alloc _)).mono (fun b _ hb => ⟨hb.1, by have := hb.2; simp; omega⟩))
          go_wp2_with (first | (at_builtin; refine wp_append_ss rfl _ _ rfl w.heap.size wo _ (listsM takenK 0 (r.xs.take j)) rfl HO0.out (Chg.trans hg2.out (by repeat (first | exact Chg.refl _ _ | apply Chg.drew | apply Chg.drewN | refine Chg.alloc ?_ _))) _ _ (countM sv q) rfl (cell_new _ _ _ _) HKK.out HLL.out hwz2 ?_; intro v' w9 ho1 hg1; have HO := Lib.hid ho1; have HG := Lib.hid hg1; clear ho1 hg1))
          go_roundw
          case rel => exact ⟨j + 1, by omega, by go_num, by rw [HT.out, HN.out], by rw [HX.out, Int.zero_add, HN.out]; exact HO.out, Chg.new (Chg.trans HGW.out (Chg.trans hg2.out (by repeat (first | exact Chg.refl _ _ | apply Chg.drew | apply Chg.drewN | refine Chg.alloc ?_ _)))) HG.out (fun i hi => by omega)⟩
          case measure => simp [intOf]; omega
    · obtain rfl : j = r.xs.length := by omega
      have HX := Lib.hid (show listsM takenK 0 (r.xs.take r.xs.length) = listsM takenK 0 r.xs by rw [List.take_length])
      go_wp2
      go_ret
      exact ⟨_, rfl, by have := ho.out.ss; rw [HX.out] at this; exact this, hg.out⟩
set_option maxHeartbeats 4000000 in
theorem lists_made (w : World) (S : Nat → Prop) (v : Value) (r : RowM) (h : RowV w S v r) (hs : stB r.xs = true) :
    Calls Try.prog 198 #[v, .func (.func 200) #[] #[]] w fun e w' => ∃ v, e = .returned v ∧ IntSS w' (New w.heap.size w'.heap.size) v (listsM madeK 0 r.xs) ∧ Up w w' := by
  obtain ⟨A, c, rfl, h4, h5, h6⟩ := openRow h
  have HI := Lib.hid h4
  have hl := stB_len hs
  have HK := Lib.hid (stB_kind hs)
  clear h h4 hs
  go_enter Try.func198, Try.ntmps198
  go_wp2
  go_loopw [5, 6, 8, 9, 14] (fun v a _ _ i wr => ∃ j : Nat, j ≤ r.xs.length ∧ i = .int .i64 j ∧ a = .int .i64 (sumF madeK (r.xs.take j)) ∧ Hid (OwnSS wr w.heap.size v (listsM madeK 0 (r.xs.take j))) ∧ Hid (Up w wr)) (fun _ _ _ _ i _ => r.xs.length - (intOf i).toNat)
  case atStart => exact ⟨0, by omega, rfl, rfl, by have := OwnSS.made (w.alloc (.cells #[.int .i64 r.d, .int .i64 r.c, .slice A r.xs.length c] 87)) w.heap.size (by simp); simpa [Hid, listsM] using this, ((Chg.refl _ _).alloc _).alloc _⟩
  case round =>
    obtain ⟨j, hj, rfl, rfl, ho, hg⟩ := hrel
    by_cases hlt : j < r.xs.length
    · obtain ⟨b1, o1, rfl, -, hc⟩ := HI.out.ix hlt
      have f1 := Chg.cell hg.out (hc j hlt) id
      rw [ix_eq hlt] at f1
      have HT := Lib.hid (sumF_take madeK hlt)
      have HX := Lib.hid (listsM_take madeK 0 hlt)
      have hv := madeOf_ok (HK.out _ (List.getElem_mem hlt))
      have HLL := Lib.hid (show (listsM madeK 0 (r.xs.take j)).length ≤ 1099511627 by rw [listsM_length, List.length_take]; omega)
      have hb1 := madeK_bd r.xs[j]
      obtain ⟨n, hn⟩ := Int.eq_ofNat_of_zero_le (show 0 ≤ madeK r.xs[j] by omega)
      rw [hn] at hv hb1
      have HN := Lib.hid hn
      have HV := Lib.hid hv
      have hb2 := sumF_bd madeK 0 4 (by omega) (fun x => by have := madeK_bd x; omega) (r.xs.take j)
      rw [List.length_take, Nat.min_eq_left hj] at hb2
      have hsz := hg.out.size
      generalize hsv : sumF madeK (r.xs.take j) = sv at *
      have HSV := Lib.hid hsv
      clear hc hn hv hsv
      obtain ⟨wo, hwo⟩ : ∃ wo : World, wo = wr := ⟨_, rfl⟩
      have HO0 := Lib.hid (show OwnSS wo _ _ _ by rw [hwo]; exact ho.out)
      have HG0 := Lib.hid (show Up wo wr by rw [hwo]; exact Chg.refl _ _)
      have hwz : wo.heap.size = wr.heap.size := by rw [hwo]
      have hwz2 : w.heap.size ≤ wo.heap.size := by rw [hwo]; exact hsz
      have HM := Lib.hid (OwnI.made wr wo.heap.size (by omega))
      have HGW := Lib.hid (show Up w wo by rw [hwo]; exact hg.out)
      clear hwo ho
      go_wp2_with fail
      refine (ColumnsMade_any _ _).mono ?_
      rintro e w' ⟨rfl, rfl⟩
      rw [HV.out]
      go_wp2
      go_loopw [6, 9, 22] (fun a l t wq => ∃ q : Nat, q ≤ n ∧ t = .int .i64 q ∧ a = .int .i64 (sv + q) ∧ Hid (OwnI wq wo.heap.size l (countM sv q)) ∧ Hid (Up wo wq)) (fun _ _ t _ => n - (intOf t).toNat)
      case atStart => exact ⟨0, by omega, rfl, by simp, HM.out, HG0.out.trans ((Chg.refl _ _).alloc _)⟩
      clear HM f1
      case round =>
        obtain ⟨q, hq, rfl, rfl, ho2, hg2⟩ := hrel
        by_cases hlt2 : q < n
        · have HI2 := Lib.hid (show I64 (sv + q) by unfold I64; omega)
          have HL := Lib.hid (show (countM sv q).length ≤ 1099511627776 by rw [countM_len]; omega)
          have hsz2 := hg2.out.size
          go_wp2_with (first | (at_builtin; refine wp_append_int rfl _ _ rfl wo.heap.size _ (countM sv q) rfl (ho2.out.alloc _) _ (sv + q) rfl (cell_new _ _ _ _) HI2.out HL.out ?_ ?_; (simp; omega); intro v' w1 ho1 _ hg1; have HO := Lib.hid ho1; have HG := Lib.hid hg1; clear ho1 hg1))
          go_roundw
          case rel => exact ⟨q + 1, by omega, by go_num, by simp only [Value.int.injEq, true_and]; omega, by rw [show ((q + 1 : Nat) : Int) = (q : Int) + 1 by omega, countM_succ]; exact HO.out, Chg.new (hg2.out.alloc _) HG.out (fun i hi => by omega)⟩
          case measure => simp [intOf]; omega
        · obtain rfl : q = n := by omega
          obtain ⟨A2, c2, rfl, hl2, hc2, -⟩ := ho2.out.ints.shape
          have hsz2 := hg2.out.size
          have HKK := Lib.hid (show Ints (wr.alloc (.cells #[.slice A2 (countM sv q).length c2] 37)) (New wo.heap.size (wr.alloc (.cells #[.slice A2 (countM sv q).length c2] 37)).heap.size) _ _ from (ho2.out.ints.up ((Chg.refl Nowhere _).alloc _)).mono (fun b _ hb => ⟨hb.1, by have := hb.2; simp; omega⟩))
          go_wp2_with (first | (at_builtin; refine wp_append_ss rfl _ _ rfl w.heap.size wo _ (listsM madeK 0 (r.xs.take j)) rfl HO0.out (Chg.trans hg2.out (by repeat (first | exact Chg.refl _ _ | apply Chg.drew | apply Chg.drewN | refine Chg.alloc ?_ _))) _ _ (countM sv q) rfl (cell_new _ _ _ _) HKK.out HLL.out hwz2 ?_; intro v' w9 ho1 hg1; have HO := Lib.hid ho1; have HG := Lib.hid hg1; clear ho1 hg1))
          go_roundw
          case rel => exact ⟨j + 1, by omega, by go_num, by rw [HT.out, HN.out], by rw [HX.out, Int.zero_add, HN.out]; exact HO.out, Chg.new (Chg.trans HGW.out (Chg.trans hg2.out (by repeat (first | exact Chg.refl _ _ | apply Chg.drew | apply Chg.drewN | refine Chg.alloc ?_ _)))) HG.out (fun i hi => by omega)⟩
          case measure => simp [intOf]; omega
    · obtain rfl : j = r.xs.length := by omega
      have HX := Lib.hid (show listsM madeK 0 (r.xs.take r.xs.length) = listsM madeK 0 r.xs by rw [List.take_length])
      go_wp2
      go_ret
      exact ⟨_, rfl, by have := ho.out.ss; rw [HX.out] at this; exact this, hg.out⟩
def sourcesOut (r : RowM) : List (List Int) := if rowCodeM r.d r.c r.xs = 0 then listsM takenK 0 r.xs else []
theorem laid_st_sources {r : RowM} (h : rowCodeM r.d r.c r.xs = 0) : stB r.xs = true := by
  obtain ⟨_, _, h3, h4, _, _⟩ := laid_of h
  unfold stB
  rw [Bool.and_eq_true]
  exact ⟨List.all_eq_true.2 h4, decide_eq_true h3⟩
set_option maxHeartbeats 1000000 in
theorem sources_any (w : World) (S : Nat → Prop) (v : Value) (r : RowM) (h : RowV w S v r) (hs : stB r.xs = true) :
    Calls Try.prog 126 #[v] w fun e w' => ∃ v, e = .returned v ∧ IntSS w' (New w.heap.size w'.heap.size) v (listsM takenK 0 r.xs) ∧ Up w w' := by
  obtain ⟨A, c, rfl, h4, h5, h6⟩ := openRow h
  have HI := Lib.hid h
  have U0 := Lib.hid (Chg.refl Nowhere w)
  have HS := Lib.hid hs
  clear h h4 hs
  have U_1 := Lib.hid (Chg.trans U0.out ((Chg.refl Nowhere w).alloc (.cells #[.int .i64 r.d, .int .i64 r.c, .slice A r.xs.length c] 87)))
  clear U0
  have I_2 := Lib.hid (HI.out.up ((Chg.refl Nowhere w).alloc (.cells #[.int .i64 r.d, .int .i64 r.c, .slice A r.xs.length c] 87)))
  clear HI
  have q0_3 := (show (w.alloc (.cells #[.int .i64 r.d, .int .i64 r.c, .slice A r.xs.length c] 87)).cell? ⟨w.heap.size, 0, none⟩ = some (.int .i64 r.d) from cell_new _ _ _ _)
  have q1_4 := (show (w.alloc (.cells #[.int .i64 r.d, .int .i64 r.c, .slice A r.xs.length c] 87)).cell? ⟨w.heap.size, 1, none⟩ = some (.int .i64 r.c) from cell_new _ _ _ _)
  have q2_5 := (show (w.alloc (.cells #[.int .i64 r.d, .int .i64 r.c, .slice A r.xs.length c] 87)).cell? ⟨w.heap.size, 2, none⟩ = some (.slice A r.xs.length c) from cell_new _ _ _ _)
  have hbx6 : w.heap.size < (w.alloc (.cells #[.int .i64 r.d, .int .i64 r.c, .slice A r.xs.length c] 87)).heap.size := by simp
  go_enter Try.func126, Try.ntmps126
  go_wp2_with fail
  refine (lists_taken _ S _ r (I_2.out.up (by repeat (first | exact Chg.refl _ _ | apply Chg.drew | apply Chg.drewN | refine Chg.alloc ?_ _))) HS.out).mono ?_
  rintro e w7 ⟨v7, rfl, k1, g1⟩
  obtain ⟨A7, c7, rfl, hl7, hc7, -⟩ := k1.shape
  have K1 := Lib.hid k1
  clear k1
  have G1 := Lib.hid g1
  have hz7 := G1.out.size
  clear g1
  have U_8 := Lib.hid (Chg.trans U_1.out (Chg.trans (by repeat (first | exact Chg.refl _ _ | apply Chg.drew | apply Chg.drewN | refine Chg.alloc ?_ _)) G1.out))
  clear U_1
  have I_9 := Lib.hid (I_2.out.up (Chg.trans (by repeat (first | exact Chg.refl _ _ | apply Chg.drew | apply Chg.drewN | refine Chg.alloc ?_ _)) G1.out))
  clear I_2
  have q0_10 := Chg.cell (Chg.trans (by repeat (first | exact Chg.refl _ _ | apply Chg.drew | apply Chg.drewN | refine Chg.alloc ?_ _)) G1.out) q0_3 id
  clear q0_3
  have q1_11 := Chg.cell (Chg.trans (by repeat (first | exact Chg.refl _ _ | apply Chg.drew | apply Chg.drewN | refine Chg.alloc ?_ _)) G1.out) q1_4 id
  clear q1_4
  have q2_12 := Chg.cell (Chg.trans (by repeat (first | exact Chg.refl _ _ | apply Chg.drew | apply Chg.drewN | refine Chg.alloc ?_ _)) G1.out) q2_5 id
  clear q2_5
  clear G1
  have K_13 := Lib.hid (K1.out)
  clear K1
  go_wp2
  go_ret
  exact ⟨_, rfl, K_13.out.mono (fun b hb => ⟨Nat.le_trans (by simp) hb.1, hb.2⟩), (Chg.trans U_8.out (by repeat (first | exact Chg.refl _ _ | apply Chg.drew | apply Chg.drewN | refine Chg.alloc ?_ _)))⟩
set_option maxHeartbeats 1000000 in
theorem RowSources_any (w : World) (S : Nat → Prop) (v : Value) (r : RowM) (h : RowV w S v r) :
    Calls Try.prog 51 #[v] w fun e w' => ∃ v, e = .returned (.tuple #[v, .int .i64 (rowCodeM r.d r.c r.xs)]) ∧ IntSS w' (New w.heap.size w'.heap.size) v (sourcesOut r) ∧ Up w w' := by
  obtain ⟨A, c, rfl, h4, h5, h6⟩ := openRow h
  have U0 := Lib.hid (Chg.refl Nowhere w)
  have HI := Lib.hid h
  have HI4 := Lib.hid h4
  clear h4
  clear h
  by_cases hz : rowCodeM r.d r.c r.xs = 0
  · have HO := Lib.hid (show sourcesOut r = listsM takenK 0 r.xs from if_pos hz)
    have HS := Lib.hid (laid_st_sources hz)
    have HZ := Lib.hid hz
    clear hz
    have U_1 := Lib.hid (Chg.trans U0.out ((Chg.refl Nowhere w).alloc (.cells #[.int .i64 r.d, .int .i64 r.c, .slice A r.xs.length c] 87)))
    clear U0
    have I_2 := Lib.hid (HI.out.up ((Chg.refl Nowhere w).alloc (.cells #[.int .i64 r.d, .int .i64 r.c, .slice A r.xs.length c] 87)))
    clear HI
    have q0_3 := (show (w.alloc (.cells #[.int .i64 r.d, .int .i64 r.c, .slice A r.xs.length c] 87)).cell? ⟨w.heap.size, 0, none⟩ = some (.int .i64 r.d) from cell_new _ _ _ _)
    have q1_4 := (show (w.alloc (.cells #[.int .i64 r.d, .int .i64 r.c, .slice A r.xs.length c] 87)).cell? ⟨w.heap.size, 1, none⟩ = some (.int .i64 r.c) from cell_new _ _ _ _)
    have q2_5 := (show (w.alloc (.cells #[.int .i64 r.d, .int .i64 r.c, .slice A r.xs.length c] 87)).cell? ⟨w.heap.size, 2, none⟩ = some (.slice A r.xs.length c) from cell_new _ _ _ _)
    have hbx6 : w.heap.size < (w.alloc (.cells #[.int .i64 r.d, .int .i64 r.c, .slice A r.xs.length c] 87)).heap.size := by simp
    go_enter Try.func51, Try.ntmps51
    go_wp2_with fail
    refine (rowCode_any _ S _ r (I_2.out.up (by repeat (first | exact Chg.refl _ _ | apply Chg.drew | apply Chg.drewN | refine Chg.alloc ?_ _)))).mono ?_
    rintro e w7 ⟨rfl, g1⟩
    have G1 := Lib.hid g1
    have hz7 := G1.out.size
    clear g1
    have U_8 := Lib.hid (Chg.trans U_1.out (Chg.trans (by repeat (first | exact Chg.refl _ _ | apply Chg.drew | apply Chg.drewN | refine Chg.alloc ?_ _)) G1.out))
    clear U_1
    have I_9 := Lib.hid (I_2.out.up (Chg.trans (by repeat (first | exact Chg.refl _ _ | apply Chg.drew | apply Chg.drewN | refine Chg.alloc ?_ _)) G1.out))
    clear I_2
    have q0_10 := Chg.cell (Chg.trans (by repeat (first | exact Chg.refl _ _ | apply Chg.drew | apply Chg.drewN | refine Chg.alloc ?_ _)) G1.out) q0_3 id
    clear q0_3
    have q1_11 := Chg.cell (Chg.trans (by repeat (first | exact Chg.refl _ _ | apply Chg.drew | apply Chg.drewN | refine Chg.alloc ?_ _)) G1.out) q1_4 id
    clear q1_4
    have q2_12 := Chg.cell (Chg.trans (by repeat (first | exact Chg.refl _ _ | apply Chg.drew | apply Chg.drewN | refine Chg.alloc ?_ _)) G1.out) q2_5 id
    clear q2_5
    clear G1
    rw [HZ.out]
    go_wp2_with fail
    refine (sources_any _ S _ r (I_9.out.up (by repeat (first | exact Chg.refl _ _ | apply Chg.drew | apply Chg.drewN | refine Chg.alloc ?_ _))) HS.out).mono ?_
    rintro e w13 ⟨v13, rfl, k1, g1⟩
    obtain ⟨A13, c13, rfl, hl13, hc13, -⟩ := k1.shape
    have K1 := Lib.hid k1
    clear k1
    have G1 := Lib.hid g1
    have hz13 := G1.out.size
    clear g1
    have U_14 := Lib.hid (Chg.trans U_8.out (Chg.trans (by repeat (first | exact Chg.refl _ _ | apply Chg.drew | apply Chg.drewN | refine Chg.alloc ?_ _)) G1.out))
    clear U_8
    have I_15 := Lib.hid (I_9.out.up (Chg.trans (by repeat (first | exact Chg.refl _ _ | apply Chg.drew | apply Chg.drewN | refine Chg.alloc ?_ _)) G1.out))
    clear I_9
    have q0_16 := Chg.cell (Chg.trans (by repeat (first | exact Chg.refl _ _ | apply Chg.drew | apply Chg.drewN | refine Chg.alloc ?_ _)) G1.out) q0_10 id
    clear q0_10
    have q1_17 := Chg.cell (Chg.trans (by repeat (first | exact Chg.refl _ _ | apply Chg.drew | apply Chg.drewN | refine Chg.alloc ?_ _)) G1.out) q1_11 id
    clear q1_11
    have q2_18 := Chg.cell (Chg.trans (by repeat (first | exact Chg.refl _ _ | apply Chg.drew | apply Chg.drewN | refine Chg.alloc ?_ _)) G1.out) q2_12 id
    clear q2_12
    clear G1
    have K_19 := Lib.hid (K1.out)
    clear K1
    go_wp2
    go_ret2
    exact ⟨_, ret_mi HZ.out.symm, by rw [HO.out]; exact K_19.out.mono (fun b hb => ⟨by have := hb.1; simp at *; omega, hb.2⟩), (Chg.trans U_14.out (by repeat (first | exact Chg.refl _ _ | apply Chg.drew | apply Chg.drewN | refine Chg.alloc ?_ _)))⟩
  · have HO := Lib.hid (show sourcesOut r = [] from if_neg hz)
    have hz2 : (rowCodeM r.d r.c r.xs != 0) = true := by simpa using hz
    clear hz
    have U_20 := Lib.hid (Chg.trans U0.out ((Chg.refl Nowhere w).alloc (.cells #[.int .i64 r.d, .int .i64 r.c, .slice A r.xs.length c] 87)))
    clear U0
    have I_21 := Lib.hid (HI.out.up ((Chg.refl Nowhere w).alloc (.cells #[.int .i64 r.d, .int .i64 r.c, .slice A r.xs.length c] 87)))
    clear HI
    have q0_22 := (show (w.alloc (.cells #[.int .i64 r.d, .int .i64 r.c, .slice A r.xs.length c] 87)).cell? ⟨w.heap.size, 0, none⟩ = some (.int .i64 r.d) from cell_new _ _ _ _)
    have q1_23 := (show (w.alloc (.cells #[.int .i64 r.d, .int .i64 r.c, .slice A r.xs.length c] 87)).cell? ⟨w.heap.size, 1, none⟩ = some (.int .i64 r.c) from cell_new _ _ _ _)
    have q2_24 := (show (w.alloc (.cells #[.int .i64 r.d, .int .i64 r.c, .slice A r.xs.length c] 87)).cell? ⟨w.heap.size, 2, none⟩ = some (.slice A r.xs.length c) from cell_new _ _ _ _)
    have hbx25 : w.heap.size < (w.alloc (.cells #[.int .i64 r.d, .int .i64 r.c, .slice A r.xs.length c] 87)).heap.size := by simp
    go_enter Try.func51, Try.ntmps51
    go_wp2_with fail
    refine (rowCode_any _ S _ r (I_21.out.up (by repeat (first | exact Chg.refl _ _ | apply Chg.drew | apply Chg.drewN | refine Chg.alloc ?_ _)))).mono ?_
    rintro e w26 ⟨rfl, g1⟩
    have G1 := Lib.hid g1
    have hz26 := G1.out.size
    clear g1
    have U_27 := Lib.hid (Chg.trans U_20.out (Chg.trans (by repeat (first | exact Chg.refl _ _ | apply Chg.drew | apply Chg.drewN | refine Chg.alloc ?_ _)) G1.out))
    clear U_20
    have I_28 := Lib.hid (I_21.out.up (Chg.trans (by repeat (first | exact Chg.refl _ _ | apply Chg.drew | apply Chg.drewN | refine Chg.alloc ?_ _)) G1.out))
    clear I_21
    have q0_29 := Chg.cell (Chg.trans (by repeat (first | exact Chg.refl _ _ | apply Chg.drew | apply Chg.drewN | refine Chg.alloc ?_ _)) G1.out) q0_22 id
    clear q0_22
    have q1_30 := Chg.cell (Chg.trans (by repeat (first | exact Chg.refl _ _ | apply Chg.drew | apply Chg.drewN | refine Chg.alloc ?_ _)) G1.out) q1_23 id
    clear q1_23
    have q2_31 := Chg.cell (Chg.trans (by repeat (first | exact Chg.refl _ _ | apply Chg.drew | apply Chg.drewN | refine Chg.alloc ?_ _)) G1.out) q2_24 id
    clear q2_24
    clear G1
    go_wp2
    go_ret2
    exact ⟨_, rfl, by rw [HO.out]; exact IntSS.nil _ _ _ _ (by omega), (Chg.trans U_27.out (by repeat (first | exact Chg.refl _ _ | apply Chg.drew | apply Chg.drewN | refine Chg.alloc ?_ _)))⟩
def resultsOut (r : RowM) : List (List Int) := if rowCodeM r.d r.c r.xs = 0 then listsM madeK 0 r.xs else []
theorem laid_st_results {r : RowM} (h : rowCodeM r.d r.c r.xs = 0) : stB r.xs = true := by
  obtain ⟨_, _, h3, h4, _, _⟩ := laid_of h
  unfold stB
  rw [Bool.and_eq_true]
  exact ⟨List.all_eq_true.2 h4, decide_eq_true h3⟩
set_option maxHeartbeats 1000000 in
theorem results_any (w : World) (S : Nat → Prop) (v : Value) (r : RowM) (h : RowV w S v r) (hs : stB r.xs = true) :
    Calls Try.prog 127 #[v] w fun e w' => ∃ v, e = .returned v ∧ IntSS w' (New w.heap.size w'.heap.size) v (listsM madeK 0 r.xs) ∧ Up w w' := by
  obtain ⟨A, c, rfl, h4, h5, h6⟩ := openRow h
  have HI := Lib.hid h
  have U0 := Lib.hid (Chg.refl Nowhere w)
  have HS := Lib.hid hs
  clear h h4 hs
  have U_1 := Lib.hid (Chg.trans U0.out ((Chg.refl Nowhere w).alloc (.cells #[.int .i64 r.d, .int .i64 r.c, .slice A r.xs.length c] 87)))
  clear U0
  have I_2 := Lib.hid (HI.out.up ((Chg.refl Nowhere w).alloc (.cells #[.int .i64 r.d, .int .i64 r.c, .slice A r.xs.length c] 87)))
  clear HI
  have q0_3 := (show (w.alloc (.cells #[.int .i64 r.d, .int .i64 r.c, .slice A r.xs.length c] 87)).cell? ⟨w.heap.size, 0, none⟩ = some (.int .i64 r.d) from cell_new _ _ _ _)
  have q1_4 := (show (w.alloc (.cells #[.int .i64 r.d, .int .i64 r.c, .slice A r.xs.length c] 87)).cell? ⟨w.heap.size, 1, none⟩ = some (.int .i64 r.c) from cell_new _ _ _ _)
  have q2_5 := (show (w.alloc (.cells #[.int .i64 r.d, .int .i64 r.c, .slice A r.xs.length c] 87)).cell? ⟨w.heap.size, 2, none⟩ = some (.slice A r.xs.length c) from cell_new _ _ _ _)
  have hbx6 : w.heap.size < (w.alloc (.cells #[.int .i64 r.d, .int .i64 r.c, .slice A r.xs.length c] 87)).heap.size := by simp
  go_enter Try.func127, Try.ntmps127
  go_wp2_with fail
  refine (lists_made _ S _ r (I_2.out.up (by repeat (first | exact Chg.refl _ _ | apply Chg.drew | apply Chg.drewN | refine Chg.alloc ?_ _))) HS.out).mono ?_
  rintro e w7 ⟨v7, rfl, k1, g1⟩
  obtain ⟨A7, c7, rfl, hl7, hc7, -⟩ := k1.shape
  have K1 := Lib.hid k1
  clear k1
  have G1 := Lib.hid g1
  have hz7 := G1.out.size
  clear g1
  have U_8 := Lib.hid (Chg.trans U_1.out (Chg.trans (by repeat (first | exact Chg.refl _ _ | apply Chg.drew | apply Chg.drewN | refine Chg.alloc ?_ _)) G1.out))
  clear U_1
  have I_9 := Lib.hid (I_2.out.up (Chg.trans (by repeat (first | exact Chg.refl _ _ | apply Chg.drew | apply Chg.drewN | refine Chg.alloc ?_ _)) G1.out))
  clear I_2
  have q0_10 := Chg.cell (Chg.trans (by repeat (first | exact Chg.refl _ _ | apply Chg.drew | apply Chg.drewN | refine Chg.alloc ?_ _)) G1.out) q0_3 id
  clear q0_3
  have q1_11 := Chg.cell (Chg.trans (by repeat (first | exact Chg.refl _ _ | apply Chg.drew | apply Chg.drewN | refine Chg.alloc ?_ _)) G1.out) q1_4 id
  clear q1_4
  have q2_12 := Chg.cell (Chg.trans (by repeat (first | exact Chg.refl _ _ | apply Chg.drew | apply Chg.drewN | refine Chg.alloc ?_ _)) G1.out) q2_5 id
  clear q2_5
  clear G1
  have K_13 := Lib.hid (K1.out)
  clear K1
  go_wp2
  go_ret
  exact ⟨_, rfl, K_13.out.mono (fun b hb => ⟨Nat.le_trans (by simp) hb.1, hb.2⟩), (Chg.trans U_8.out (by repeat (first | exact Chg.refl _ _ | apply Chg.drew | apply Chg.drewN | refine Chg.alloc ?_ _)))⟩
set_option maxHeartbeats 1000000 in
theorem RowResults_any (w : World) (S : Nat → Prop) (v : Value) (r : RowM) (h : RowV w S v r) :
    Calls Try.prog 52 #[v] w fun e w' => ∃ v, e = .returned (.tuple #[v, .int .i64 (rowCodeM r.d r.c r.xs)]) ∧ IntSS w' (New w.heap.size w'.heap.size) v (resultsOut r) ∧ Up w w' := by
  obtain ⟨A, c, rfl, h4, h5, h6⟩ := openRow h
  have U0 := Lib.hid (Chg.refl Nowhere w)
  have HI := Lib.hid h
  have HI4 := Lib.hid h4
  clear h4
  clear h
  by_cases hz : rowCodeM r.d r.c r.xs = 0
  · have HO := Lib.hid (show resultsOut r = listsM madeK 0 r.xs from if_pos hz)
    have HS := Lib.hid (laid_st_results hz)
    have HZ := Lib.hid hz
    clear hz
    have U_1 := Lib.hid (Chg.trans U0.out ((Chg.refl Nowhere w).alloc (.cells #[.int .i64 r.d, .int .i64 r.c, .slice A r.xs.length c] 87)))
    clear U0
    have I_2 := Lib.hid (HI.out.up ((Chg.refl Nowhere w).alloc (.cells #[.int .i64 r.d, .int .i64 r.c, .slice A r.xs.length c] 87)))
    clear HI
    have q0_3 := (show (w.alloc (.cells #[.int .i64 r.d, .int .i64 r.c, .slice A r.xs.length c] 87)).cell? ⟨w.heap.size, 0, none⟩ = some (.int .i64 r.d) from cell_new _ _ _ _)
    have q1_4 := (show (w.alloc (.cells #[.int .i64 r.d, .int .i64 r.c, .slice A r.xs.length c] 87)).cell? ⟨w.heap.size, 1, none⟩ = some (.int .i64 r.c) from cell_new _ _ _ _)
    have q2_5 := (show (w.alloc (.cells #[.int .i64 r.d, .int .i64 r.c, .slice A r.xs.length c] 87)).cell? ⟨w.heap.size, 2, none⟩ = some (.slice A r.xs.length c) from cell_new _ _ _ _)
    have hbx6 : w.heap.size < (w.alloc (.cells #[.int .i64 r.d, .int .i64 r.c, .slice A r.xs.length c] 87)).heap.size := by simp
    go_enter Try.func52, Try.ntmps52
    go_wp2_with fail
    refine (rowCode_any _ S _ r (I_2.out.up (by repeat (first | exact Chg.refl _ _ | apply Chg.drew | apply Chg.drewN | refine Chg.alloc ?_ _)))).mono ?_
    rintro e w7 ⟨rfl, g1⟩
    have G1 := Lib.hid g1
    have hz7 := G1.out.size
    clear g1
    have U_8 := Lib.hid (Chg.trans U_1.out (Chg.trans (by repeat (first | exact Chg.refl _ _ | apply Chg.drew | apply Chg.drewN | refine Chg.alloc ?_ _)) G1.out))
    clear U_1
    have I_9 := Lib.hid (I_2.out.up (Chg.trans (by repeat (first | exact Chg.refl _ _ | apply Chg.drew | apply Chg.drewN | refine Chg.alloc ?_ _)) G1.out))
    clear I_2
    have q0_10 := Chg.cell (Chg.trans (by repeat (first | exact Chg.refl _ _ | apply Chg.drew | apply Chg.drewN | refine Chg.alloc ?_ _)) G1.out) q0_3 id
    clear q0_3
    have q1_11 := Chg.cell (Chg.trans (by repeat (first | exact Chg.refl _ _ | apply Chg.drew | apply Chg.drewN | refine Chg.alloc ?_ _)) G1.out) q1_4 id
    clear q1_4
    have q2_12 := Chg.cell (Chg.trans (by repeat (first | exact Chg.refl _ _ | apply Chg.drew | apply Chg.drewN | refine Chg.alloc ?_ _)) G1.out) q2_5 id
    clear q2_5
    clear G1
    rw [HZ.out]
    go_wp2_with fail
    refine (results_any _ S _ r (I_9.out.up (by repeat (first | exact Chg.refl _ _ | apply Chg.drew | apply Chg.drewN | refine Chg.alloc ?_ _))) HS.out).mono ?_
    rintro e w13 ⟨v13, rfl, k1, g1⟩
    obtain ⟨A13, c13, rfl, hl13, hc13, -⟩ := k1.shape
    have K1 := Lib.hid k1
    clear k1
    have G1 := Lib.hid g1
    have hz13 := G1.out.size
    clear g1
    have U_14 := Lib.hid (Chg.trans U_8.out (Chg.trans (by repeat (first | exact Chg.refl _ _ | apply Chg.drew | apply Chg.drewN | refine Chg.alloc ?_ _)) G1.out))
    clear U_8
    have I_15 := Lib.hid (I_9.out.up (Chg.trans (by repeat (first | exact Chg.refl _ _ | apply Chg.drew | apply Chg.drewN | refine Chg.alloc ?_ _)) G1.out))
    clear I_9
    have q0_16 := Chg.cell (Chg.trans (by repeat (first | exact Chg.refl _ _ | apply Chg.drew | apply Chg.drewN | refine Chg.alloc ?_ _)) G1.out) q0_10 id
    clear q0_10
    have q1_17 := Chg.cell (Chg.trans (by repeat (first | exact Chg.refl _ _ | apply Chg.drew | apply Chg.drewN | refine Chg.alloc ?_ _)) G1.out) q1_11 id
    clear q1_11
    have q2_18 := Chg.cell (Chg.trans (by repeat (first | exact Chg.refl _ _ | apply Chg.drew | apply Chg.drewN | refine Chg.alloc ?_ _)) G1.out) q2_12 id
    clear q2_12
    clear G1
    have K_19 := Lib.hid (K1.out)
    clear K1
    go_wp2
    go_ret2
    exact ⟨_, ret_mi HZ.out.symm, by rw [HO.out]; exact K_19.out.mono (fun b hb => ⟨by have := hb.1; simp at *; omega, hb.2⟩), (Chg.trans U_14.out (by repeat (first | exact Chg.refl _ _ | apply Chg.drew | apply Chg.drewN | refine Chg.alloc ?_ _)))⟩
  · have HO := Lib.hid (show resultsOut r = [] from if_neg hz)
    have hz2 : (rowCodeM r.d r.c r.xs != 0) = true := by simpa using hz
    clear hz
    have U_20 := Lib.hid (Chg.trans U0.out ((Chg.refl Nowhere w).alloc (.cells #[.int .i64 r.d, .int .i64 r.c, .slice A r.xs.length c] 87)))
    clear U0
    have I_21 := Lib.hid (HI.out.up ((Chg.refl Nowhere w).alloc (.cells #[.int .i64 r.d, .int .i64 r.c, .slice A r.xs.length c] 87)))
    clear HI
    have q0_22 := (show (w.alloc (.cells #[.int .i64 r.d, .int .i64 r.c, .slice A r.xs.length c] 87)).cell? ⟨w.heap.size, 0, none⟩ = some (.int .i64 r.d) from cell_new _ _ _ _)
    have q1_23 := (show (w.alloc (.cells #[.int .i64 r.d, .int .i64 r.c, .slice A r.xs.length c] 87)).cell? ⟨w.heap.size, 1, none⟩ = some (.int .i64 r.c) from cell_new _ _ _ _)
    have q2_24 := (show (w.alloc (.cells #[.int .i64 r.d, .int .i64 r.c, .slice A r.xs.length c] 87)).cell? ⟨w.heap.size, 2, none⟩ = some (.slice A r.xs.length c) from cell_new _ _ _ _)
    have hbx25 : w.heap.size < (w.alloc (.cells #[.int .i64 r.d, .int .i64 r.c, .slice A r.xs.length c] 87)).heap.size := by simp
    go_enter Try.func52, Try.ntmps52
    go_wp2_with fail
    refine (rowCode_any _ S _ r (I_21.out.up (by repeat (first | exact Chg.refl _ _ | apply Chg.drew | apply Chg.drewN | refine Chg.alloc ?_ _)))).mono ?_
    rintro e w26 ⟨rfl, g1⟩
    have G1 := Lib.hid g1
    have hz26 := G1.out.size
    clear g1
    have U_27 := Lib.hid (Chg.trans U_20.out (Chg.trans (by repeat (first | exact Chg.refl _ _ | apply Chg.drew | apply Chg.drewN | refine Chg.alloc ?_ _)) G1.out))
    clear U_20
    have I_28 := Lib.hid (I_21.out.up (Chg.trans (by repeat (first | exact Chg.refl _ _ | apply Chg.drew | apply Chg.drewN | refine Chg.alloc ?_ _)) G1.out))
    clear I_21
    have q0_29 := Chg.cell (Chg.trans (by repeat (first | exact Chg.refl _ _ | apply Chg.drew | apply Chg.drewN | refine Chg.alloc ?_ _)) G1.out) q0_22 id
    clear q0_22
    have q1_30 := Chg.cell (Chg.trans (by repeat (first | exact Chg.refl _ _ | apply Chg.drew | apply Chg.drewN | refine Chg.alloc ?_ _)) G1.out) q1_23 id
    clear q1_23
    have q2_31 := Chg.cell (Chg.trans (by repeat (first | exact Chg.refl _ _ | apply Chg.drew | apply Chg.drewN | refine Chg.alloc ?_ _)) G1.out) q2_24 id
    clear q2_24
    clear G1
    go_wp2
    go_ret2
    exact ⟨_, rfl, by rw [HO.out]; exact IntSS.nil _ _ _ _ (by omega), (Chg.trans U_27.out (by repeat (first | exact Chg.refl _ _ | apply Chg.drew | apply Chg.drewN | refine Chg.alloc ?_ _)))⟩
end Go.Proofs.Ytnjfhpgmogopnaa
