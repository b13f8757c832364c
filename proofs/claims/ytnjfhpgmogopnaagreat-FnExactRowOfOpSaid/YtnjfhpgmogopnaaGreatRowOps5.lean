/- The reference's operations of the stitches of a row to one side: the walk. No condition but room. -/
import Derived.Test.YtnjfhpgmogopnaaGreatRowOps2
namespace Go.Proofs.YtnjfhpgmogopnaaGreat
open Go.ChangeShapes Go.WideShapes Go.ChangeAt Go.RowKit
theorem stT_7r (r : RowM) (s : List OpM × Int) (t q : Nat) {j : Nat} {k : Int} (hj : ordI r.d r.xs.length t = j) (hk : ix r.xs j = k) (h : k = 7) : stT r s t q = rowTo r s (t + 1) := by
  subst hj hk
  have hs : ∀ (cs : List Int) (z : List OpM × Int), cs.foldl (stepC r.d r.c (ix r.xs (ordI r.d r.xs.length t))) z = z := fun cs => by
    induction cs with
    | nil => intro z; rfl
    | cons c cs ih => intro z; rw [List.foldl_cons, stepC_skip _ h]; exact ih z
  unfold stT
  rw [hs]
  exact (hs (colsOf r (ordI r.d r.xs.length t)) (rowTo r s t)).symm
set_option maxRecDepth 100000 in
set_option maxHeartbeats 16000000 in
theorem l23Stitches_r (w : World) (S : Nat → Prop) (pb po : Nat) (c : Int) (xs : List Int) (at0 : Int) (h : RowAt w S pb po ⟨1, c, xs⟩) (hr : rowCodeM 1 c xs = 0) (ha : -3 ≤ at0 ∧ at0 ≤ 27) :
    Calls Tryz.prog 69 #[.pointer (some ⟨pb, po, none⟩), .int .i64 at0] w fun e w' => ∃ v', e = .returned (.tuple #[v', .int .i64 (rowTo ⟨1, c, xs⟩ ([], at0) xs.length).2]) ∧ Ops w' (New w.heap.size w'.heap.size) v' (rowTo ⟨1, c, xs⟩ ([], at0) xs.length).1 ∧ Up w w' := by
  obtain ⟨A, cc, f0, f1, f2, h4, h5, h6⟩ := h.open_
  dsimp only at f0 f1 f2 h4 h5 h6
  have HA := Lib.hid h
  have HI4 := Lib.hid h4
  have U0 := Lib.hid (Chg.refl Nowhere w)
  have HR := Lib.hid (show LaidRow 1 c xs from laid_of hr)
  have HS := Lib.hid (show stB xs = true from laid_st_results (r := ⟨1, c, xs⟩) hr)
  have hn := HR.out.len
  have hcar := HR.out.car
  have M0 := Lib.hid (OwnO.made w w.heap.size (Nat.le_refl _))
  have F0 := f0
  have F1 := f1
  have F2 := f2
  have JA := HI4
  clear h h4 hr
  go_enter Tryz.func69, Tryz.ntmps69
  go_wp2_with fail
  refine (l20Results_any _ S _ _ ⟨1, c, xs⟩ (HA.out.up (by repeat (first | exact Chg.refl _ _ | apply Chg.drew | apply Chg.drewN | refine Chg.alloc ?_ _))) HS.out).mono ?_
  rintro e w1 ⟨v1, rfl, k1, g1⟩
  obtain ⟨A1, c1, rfl, hl1, hc1, -⟩ := k1.shape
  have K1 := Lib.hid k1
  clear k1
  have G1 := Lib.hid g1
  have hz1 := G1.out.size
  clear g1
  have U_2 := Lib.hid (Chg.trans U0.out (Chg.trans (by repeat (first | exact Chg.refl _ _ | apply Chg.drew | apply Chg.drewN | refine Chg.alloc ?_ _)) G1.out))
  clear U0
  have A_3 := Lib.hid (HA.out.up (Chg.trans (by repeat (first | exact Chg.refl _ _ | apply Chg.drew | apply Chg.drewN | refine Chg.alloc ?_ _)) G1.out))
  clear HA
  have O_4 := Lib.hid (M0.out.up (Chg.trans (by repeat (first | exact Chg.refl _ _ | apply Chg.drew | apply Chg.drewN | refine Chg.alloc ?_ _)) G1.out))
  clear M0
  have J_5 := Lib.hid (HI4.out.up (Chg.trans (by repeat (first | exact Chg.refl _ _ | apply Chg.drew | apply Chg.drewN | refine Chg.alloc ?_ _)) G1.out))
  clear HI4
  have f0_6 := Chg.cell (Chg.trans (by repeat (first | exact Chg.refl _ _ | apply Chg.drew | apply Chg.drewN | refine Chg.alloc ?_ _)) G1.out) f0 id
  clear f0
  have f1_7 := Chg.cell (Chg.trans (by repeat (first | exact Chg.refl _ _ | apply Chg.drew | apply Chg.drewN | refine Chg.alloc ?_ _)) G1.out) f1 id
  clear f1
  have f2_8 := Chg.cell (Chg.trans (by repeat (first | exact Chg.refl _ _ | apply Chg.drew | apply Chg.drewN | refine Chg.alloc ?_ _)) G1.out) f2 id
  clear f2
  clear G1
  have SS_9 := Lib.hid (K1.out)
  clear K1
  have hlo : w.heap.size + 1 ≤ w1.heap.size := by have := hz1; simp at this; omega
  have HSS := Lib.hid (SSPart.of (show IntSS w1 (New (w.heap.size + 1) w1.heap.size) _ _ from SS_9.out.mono (fun b hb => ⟨by have := hb.1; simp at this; exact this, hb.2⟩)) (fun _ => True))
  clear SS_9
  go_wp2_with fail
  refine (l17Order_any _ S _ _ ⟨1, c, xs⟩ (A_3.out.up (by repeat (first | exact Chg.refl _ _ | apply Chg.drew | apply Chg.drewN | refine Chg.alloc ?_ _))) (.inl rfl) hn).mono ?_
  rintro e w10 ⟨v10, rfl, k1, g1⟩
  obtain ⟨A10, c10, rfl, hl10, hc10, -⟩ := k1.shape
  have K1 := Lib.hid k1
  clear k1
  have G1 := Lib.hid g1
  have hz10 := G1.out.size
  clear g1
  have U_11 := Lib.hid (Chg.trans U_2.out (Chg.trans (by repeat (first | exact Chg.refl _ _ | apply Chg.drew | apply Chg.drewN | refine Chg.alloc ?_ _)) G1.out))
  clear U_2
  have A_12 := Lib.hid (A_3.out.up (Chg.trans (by repeat (first | exact Chg.refl _ _ | apply Chg.drew | apply Chg.drewN | refine Chg.alloc ?_ _)) G1.out))
  clear A_3
  have O_13 := Lib.hid (O_4.out.up (Chg.trans (by repeat (first | exact Chg.refl _ _ | apply Chg.drew | apply Chg.drewN | refine Chg.alloc ?_ _)) G1.out))
  clear O_4
  have J_14 := Lib.hid (J_5.out.up (Chg.trans (by repeat (first | exact Chg.refl _ _ | apply Chg.drew | apply Chg.drewN | refine Chg.alloc ?_ _)) G1.out))
  clear J_5
  have f0_15 := Chg.cell (Chg.trans (by repeat (first | exact Chg.refl _ _ | apply Chg.drew | apply Chg.drewN | refine Chg.alloc ?_ _)) G1.out) f0_6 id
  clear f0_6
  have f1_16 := Chg.cell (Chg.trans (by repeat (first | exact Chg.refl _ _ | apply Chg.drew | apply Chg.drewN | refine Chg.alloc ?_ _)) G1.out) f1_7 id
  clear f1_7
  have f2_17 := Chg.cell (Chg.trans (by repeat (first | exact Chg.refl _ _ | apply Chg.drew | apply Chg.drewN | refine Chg.alloc ?_ _)) G1.out) f2_8 id
  clear f2_8
  have SS_18 := Lib.hid (HSS.out.up (Chg.trans (by repeat (first | exact Chg.refl _ _ | apply Chg.drew | apply Chg.drewN | refine Chg.alloc ?_ _)) G1.out))
  clear HSS
  clear G1
  have D_19 := Lib.hid (K1.out)
  clear K1
  clear A_12
  dsimp only at hl1 hl10
  have HOL := Lib.hid (ordM_length 1 xs.length)
  have HLM := Lib.hid (listsM_length madeK 0 xs)
  have HK0 := Lib.hid (show RowO w (w.heap.size + 1) w1.heap.size w10.heap.size w10 (.slice (some ⟨w.heap.size, 0, none⟩) 0 0) [] (.slice A1 (listsM madeK 0 xs).length c1) (fun _ => True) (listsM madeK 0 xs) (.slice A10 (ordM 1 xs.length).length c10) (ordM 1 xs.length) from ⟨O_13.out, fun g hg => .inl (by simp [Value.ownBlock] at hg; omega), SS_18.out, D_19.out, U_11.out, by omega, ⟨hlo, by simpa using hz10⟩, Nat.le_refl _⟩)
  go_wp2
  go_loopw [1, 6, 9, 10, 11, 12, 13, 14] (fun a v i _ _ _ _ _ wr => ∃ t : Nat, t ≤ xs.length ∧ i = .int .i64 t ∧ a = .int .i64 (rowTo ⟨1, c, xs⟩ ([], at0) t).2 ∧ Hid (RowO w (w.heap.size + 1) w1.heap.size w10.heap.size wr v (rowTo ⟨1, c, xs⟩ ([], at0) t).1 (.slice A1 (listsM madeK 0 xs).length c1) (fun _ => True) (listsM madeK 0 xs) (.slice A10 (ordM 1 xs.length).length c10) (ordM 1 xs.length))) (fun _ _ i _ _ _ _ _ _ => xs.length - (intOf i).toNat)
  case atStart => exact ⟨0, by omega, rfl, rfl, HK0.out⟩
  clear HK0
  case round =>
    obtain ⟨t, ht, rfl, rfl, hk⟩ := hrel
    by_cases hlt : t < xs.length
    rotate_left
    · obtain rfl : t = xs.length := by omega
      have hjl : ¬ ((xs.length : Int) < (ordM 1 xs.length).length) := by rw [HOL.out]; omega
      go_wp2
      go_ret2
      exact ⟨_, rfl, hk.out.o.ops, hk.out.g⟩
    have hto : t < (ordM 1 xs.length).length := by rw [HOL.out]; exact hlt
    have htoi : (t : Int) < (ordM 1 xs.length).length := by omega
    obtain ⟨ob, oo, oA, -, oc⟩ := hk.out.d.ix hto
    subst oA
    have fo := oc t hto
    rw [ix_eq hto, ordI_val hlt hto] at fo
    clear oc
    obtain ⟨j, hjj⟩ : ∃ j, ordI 1 xs.length t = j := ⟨_, rfl⟩
    have hj : j < xs.length := by rw [← hjj]; exact ordI_lt hlt
    rw [hjj] at fo
    have HJJ := Lib.hid hjj
    have hj2 : j < (listsM madeK 0 xs).length := by rw [HLM.out]; exact hj
    have hj2i : (j : Int) < (listsM madeK 0 xs).length := by omega
    have hji : (j : Int) < xs.length := by omega
    obtain ⟨b, o, c', B, ci, Qj, he, g3, k3, h31, h32, hQ, -⟩ := hk.out.s.at_ hj2 trivial
    obtain ⟨rfl, rfl⟩ : A1 = some ⟨b, o, none⟩ ∧ c1 = c' := by simpa using he
    clear he hjj
    have hG2 := listsM_get madeK 0 xs j hj
    rw [Int.zero_add] at hG2
    rw [hG2] at g3 k3 h31
    clear hG2
    obtain ⟨M, hM⟩ : ∃ M, countM (sumF madeK (xs.take j)) (madeK xs[j]) = M := ⟨_, rfl⟩
    rw [hM] at g3 k3 h31
    obtain ⟨L, hL⟩ : ∃ L, colsOf ⟨1, c, xs⟩ j = L := ⟨_, rfl⟩
    have HL := Lib.hid hL
    have HC := Lib.hid (show ∀ c ∈ L, 0 ≤ c ∧ c ≤ 7 from (by rw [← hL]; exact colsOf_in (r := ⟨1, c, xs⟩) HR.out hj))
    obtain rfl : M = L := by rw [← hL, ← hM]; unfold colsOf; rw [if_pos rfl]; dsimp only; rw [ix_eq hj]
    clear hL hM
    obtain ⟨sb, so, sA, hsb, sc⟩ := JA.out.ix hj
    subst sA
    have SC := Lib.hid (sc j hj)
    rw [ix_eq hj] at SC
    clear sc
    have fs := Chg.cell hk.out.g SC.out id
    have fc := Chg.cell hk.out.g F2 id
    have HK3 := Lib.hid (k3.mono (T := New (w.heap.size + 1) w1.heap.size) (fun b _ hb => hQ b hb))
    clear k3 hQ
    go_wp2
    go_quiet (fail)
    go_wp2
    go_loopw [1, 6, 12, 13, 14] (fun a v i _ _ wr => ∃ q : Nat, q ≤ M.length ∧ i = .int .i64 q ∧ a = .int .i64 (stT ⟨1, c, xs⟩ ([], at0) t q).2 ∧ Hid (RowO w (w.heap.size + 1) w1.heap.size w10.heap.size wr v (stT ⟨1, c, xs⟩ ([], at0) t q).1 (.slice (some ⟨b, o, none⟩) (listsM madeK 0 xs).length c1) (fun _ => True) (listsM madeK 0 xs) (.slice (some ⟨ob, oo, none⟩) (ordM 1 xs.length).length c10) (ordM 1 xs.length)) ∧ Hid (Ints wr (New (w.heap.size + 1) w1.heap.size) (.slice B M.length ci) M)) (fun _ _ i _ _ _ => M.length - (intOf i).toNat)
    case atStart => exact ⟨0, by omega, rfl, by rw [stT_zero], by rw [stT_zero]; exact hk.out.up (by repeat (first | exact Chg.refl _ _ | apply Chg.drew | apply Chg.drewN | refine Chg.alloc ?_ _)), HK3.out.up (by repeat (first | exact Chg.refl _ _ | apply Chg.drew | apply Chg.drewN | refine Chg.alloc ?_ _))⟩
    clear HK3 hk g3 fo fs fc
    case round =>
      obtain ⟨q, hq, rfl, rfl, hk, hL1⟩ := hrel
      have hxj := ix_eq hj
      by_cases hlq : q < M.length
      rotate_left
      · obtain rfl : q = M.length := by omega
        have HX := Lib.hid (show (stT ⟨1, c, xs⟩ ([], at0) t M.length) = rowTo ⟨1, c, xs⟩ ([], at0) (t + 1) from stT_all ⟨1, c, xs⟩ ([], at0) t HJJ.out HL.out rfl)
        go_wp2
        go_roundw
        case rel => exact ⟨t + 1, by omega, by go_num, by rw [HX.out], by rw [← HX.out]; exact hk.out.up (by repeat (first | exact Chg.refl _ _ | apply Chg.drew | apply Chg.drewN | refine Chg.alloc ?_ _))⟩
        case measure => simp [intOf]; omega
      by_cases h7 : xs[j] = 7
      · have h7d : (xs[j] != 7) = false := by simpa using h7
        have HX := Lib.hid (show (stT ⟨1, c, xs⟩ ([], at0) t q) = rowTo ⟨1, c, xs⟩ ([], at0) (t + 1) from stT_7r ⟨1, c, xs⟩ ([], at0) t q HJJ.out hxj h7)
        go_wp2
        go_roundw
        case rel => exact ⟨t + 1, by omega, by go_num, by rw [HX.out], by rw [← HX.out]; exact hk.out.up (by repeat (first | exact Chg.refl _ _ | apply Chg.drew | apply Chg.drewN | refine Chg.alloc ?_ _))⟩
        case measure => simp [intOf]; omega
      have h7d : (xs[j] != 7) = true := by simpa using h7
      obtain ⟨zb, zo, zA, -, zc⟩ := hL1.out.ix hlq
      subst zA
      have zf := zc q hlq
      rw [ix_eq hlq] at zf
      have hcb := HC.out M[q] (List.getElem_mem hlq)
      clear zc
      have hlq2 : q < M.length := hlq
      have HST := Lib.hid (show (-3 ≤ (stT ⟨1, c, xs⟩ ([], at0) t q).2 ∧ (stT ⟨1, c, xs⟩ ([], at0) t q).2 ≤ 27) ∧ (stT ⟨1, c, xs⟩ ([], at0) t q).1.length ≤ ([] : List OpM).length + 16 * t + 16 from stT_bd (r := ⟨1, c, xs⟩) HR.out ([], at0) ha t hlt q)
      have hkb : 1 ≤ xs[j] ∧ xs[j] ≤ 11 := by have := HR.out.kind xs[j] (List.getElem_mem hj); unfold kindB at this; simpa [inB] using this
      have HGO := Lib.hid (show (stT ⟨1, c, xs⟩ ([], at0) t (q + 1)) = ((stT ⟨1, c, xs⟩ ([], at0) t q).1 ++ (carryM (stT ⟨1, c, xs⟩ ([], at0) t q).2 (2 * M[q] + 1) 1 c ++ stitchM xs[j] (2 * M[q] + 1) 1 c), 2 * M[q] + 1 + (1 + 1) / 2) from stT_go ⟨1, c, xs⟩ ([], at0) t q HJJ.out HL.out hxj h7 hlq2)
      have HL1 := Lib.hid (show (stT ⟨1, c, xs⟩ ([], at0) t q).1.length + (carryM (stT ⟨1, c, xs⟩ ([], at0) t q).2 (2 * M[q] + 1) 1 c).length ≤ 1099511627776 by have := HST.out; have := carryM_len (stT ⟨1, c, xs⟩ ([], at0) t q).2 (2 * M[q] + 1) 1 c; simp only [List.length_nil] at *; omega)
      have HL2 := Lib.hid (show ((stT ⟨1, c, xs⟩ ([], at0) t q).1 ++ carryM (stT ⟨1, c, xs⟩ ([], at0) t q).2 (2 * M[q] + 1) 1 c).length + (stitchM xs[j] (2 * M[q] + 1) 1 c).length ≤ 1099511627776 by have := HST.out; have := carryM_len (stT ⟨1, c, xs⟩ ([], at0) t q).2 (2 * M[q] + 1) 1 c; have := stitchM_len xs[j] (2 * M[q] + 1) 1 c; rw [List.length_append]; simp only [List.length_nil] at *; omega)
      have hsz := hk.out.g.size
      clear h7 hxj
      have fa := Chg.cell hk.out.g F0 id
      have fb := Chg.cell hk.out.g F1 id
      have hpb := cell_lt F0
      go_wp2_with fail
      refine (l20Needle_any _ _ ⟨by omega, by omega⟩).mono ?_
      rintro e w' ⟨rfl, rfl⟩
      clear zf
      go_wp2
      have hpba := hk.out.g.size
      go_region_held3 (fun w' => w'.cell? ⟨pb, po, none⟩ = some (.int .i64 1) ∧ w'.cell? ⟨pb, po + 1, none⟩ = some (.int .i64 c))
        (first | (exact ⟨fa, fb⟩) | (obtain ⟨q0, q1⟩ : (World.cell? _ _ = _ ∧ World.cell? _ _ = _) := (by assumption); exact ⟨Chg.cell g1 q0 id, Chg.cell g1 q1 id⟩) | (obtain ⟨q0, q1⟩ : (World.cell? _ _ = _ ∧ World.cell? _ _ = _) := (by assumption); exact ⟨Chg.cell hg1 q0 (by simp only []; omega), Chg.cell hg1 q1 (by simp only []; omega)⟩))
        (first | (go_at_call 103; refine (l23Carry_any _ (stT ⟨1, c, xs⟩ ([], at0) t q).2 (2 * M[q] + 1) 1 c (by have := HST.out; omega) (by omega) (.inl rfl) hcar).mono ?_; rintro e w5 ⟨v5, rfl, k1, g1⟩; obtain ⟨A5, c5, rfl, hl5, hc5, -⟩ := k1.shape; have K5 := Lib.hid k1; have G5 := Lib.hid (Chg.trans (show Up wr _ from (by repeat (first | exact Chg.refl _ _ | apply Chg.drew | apply Chg.drewN | refine Chg.alloc ?_ _))) g1); have HKa := Lib.hid (hk.out.up G5.out); have HIa := Lib.hid (hL1.out.up G5.out); have hsz5 := HKa.out.g.size; clear k1) | (refine step_appendOps2 (by rfl) _ _ (by rfl) w.heap.size _ ((stT ⟨1, c, xs⟩ ([], at0) t q).1) (by rfl) HKa.out.o _ _ (carryM (stT ⟨1, c, xs⟩ ([], at0) t q).2 (2 * M[q] + 1) 1 c) (by rfl) K5.out HL1.out ?_ ?_; (first | omega | (simp; omega)); intro v6 w6a ho1 ho2 ho3 hg1; have HK2 := Lib.hid (HKa.out.app ho1 ho2 ho3); have HI2 := Lib.hid (HKa.out.ints ho2 HIa.out); clear ho1 ho2 ho3))
      clear fa fb hg1 g1 HKa HIa K5 G5 hsz5 hl5 hc5
      have fa := Chg.cell HK2.out.g F0 id
      have fb := Chg.cell HK2.out.g F1 id
      clear hk hL1
      go_wp2
      have hpbb := HK2.out.g.size
      go_region_held3 (fun w' => w'.cell? ⟨pb, po, none⟩ = some (.int .i64 1) ∧ w'.cell? ⟨pb, po + 1, none⟩ = some (.int .i64 c))
        (first | (exact ⟨fa, fb⟩) | (obtain ⟨q0, q1⟩ : (World.cell? _ _ = _ ∧ World.cell? _ _ = _) := (by assumption); exact ⟨Chg.cell g1 q0 id, Chg.cell g1 q1 id⟩) | (obtain ⟨q0, q1⟩ : (World.cell? _ _ = _ ∧ World.cell? _ _ = _) := (by assumption); exact ⟨Chg.cell hg1 q0 (by simp only []; omega), Chg.cell hg1 q1 (by simp only []; omega)⟩))
        (first | (go_at_call 104; refine (l23Stitch_any _ xs[j] (2 * M[q] + 1) 1 c hkb (by omega) (.inl rfl) hcar).mono ?_; rintro e w5 ⟨v5, rfl, k1, g1⟩; obtain ⟨A5, c5, rfl, hl5, hc5, -⟩ := k1.shape; have K5 := Lib.hid k1; have G5 := Lib.hid (Chg.trans (show Up w6a _ from (by repeat (first | exact Chg.refl _ _ | apply Chg.drew | apply Chg.drewN | refine Chg.alloc ?_ _))) g1); have HKa := Lib.hid (HK2.out.up G5.out); have HIa := Lib.hid (HI2.out.up G5.out); have hsz5 := HKa.out.g.size; clear k1) | (refine step_appendOps2 (by rfl) _ _ (by rfl) w.heap.size _ ((stT ⟨1, c, xs⟩ ([], at0) t q).1 ++ carryM (stT ⟨1, c, xs⟩ ([], at0) t q).2 (2 * M[q] + 1) 1 c) (by rfl) HKa.out.o _ _ (stitchM xs[j] (2 * M[q] + 1) 1 c) (by rfl) K5.out HL2.out ?_ ?_; (first | omega | (simp; omega)); intro v6 w6b ho1 ho2 ho3 hg1; have HK4 := Lib.hid (HKa.out.app ho1 ho2 ho3); have HI4 := Lib.hid (HKa.out.ints ho2 HIa.out); clear ho1 ho2 ho3))
      clear fa fb hg1 g1 HKa HIa K5 G5 hsz5 hl5 hc5
      have fa := Chg.cell HK4.out.g F0 id
      have fb := Chg.cell HK4.out.g F1 id
      go_wp2
      go_roundw
      case rel => exact ⟨q + 1, by omega, by go_num, by rw [HGO.out]; go_num, by rw [HGO.out]; simpa only [List.append_assoc] using HK4, HI4⟩
      case measure => simp [intOf]; omega
end Go.Proofs.YtnjfhpgmogopnaaGreat
