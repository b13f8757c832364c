/- The order of a row's stitches on both sides; the first of each run of needles. No condition but room. -/
import Derived.Test.YtmimbnpcokfnlaaRev
import Derived.Test.YtmimbnpcokfnlaaRow8
namespace Go.Proofs.Ytmimbnpcokfnlaa
open Go.ChangeShapes Go.WideShapes Go.ChangeAt Go.RowKit
def ordM (d : Int) (n : Nat) : List Int := if d = 1 then countM 0 n else (countM 0 n).reverse
theorem ordM_length (d : Int) (n : Nat) : (ordM d n).length = n := by unfold ordM; split <;> simp [countM]
theorem ordM_get (d : Int) (n : Nat) (t : Nat) (h : t < (ordM d n).length) : (ordM d n)[t] = if d = 1 then (t : Int) else (n : Int) - 1 - t := by
  have hl := ordM_length d n
  unfold ordM at *
  split
  · simp [countM]
  · rename_i hd
    simp only [if_neg hd] at h
    simp [countM] at h ⊢
    omega
/-- the first j of them -/
def ordTo (d : Int) (n j : Nat) : List Int := (List.range j).map fun i : Nat => if d = 1 then (i : Int) else (n : Int) - 1 - i
theorem ordTo_succ (d : Int) (n j : Nat) : ordTo d n (j + 1) = ordTo d n j ++ [if d = 1 then (j : Int) else (n : Int) - 1 - j] := by simp [ordTo, List.range_succ]
theorem ordTo_all (d : Int) (n : Nat) : ordTo d n n = ordM d n := by
  refine List.ext_getElem (by simp [ordTo, ordM_length]) fun i h1 h2 => ?_
  rw [ordM_get]
  simp [ordTo]
theorem ordTo_len (d : Int) (n j : Nat) : (ordTo d n j).length = j := by simp [ordTo]
theorem info22 : (Try.prog.info? 2).map (fun i => (i.zero, i.size, i.bytes)) = some (some (.int .i64 0), 1, 8) := by kernel_rfl
set_option maxHeartbeats 2000000 in
theorem identity_any (w : World) (n : Nat) (hn : n ≤ 1000) :
    Calls Try.prog 229 #[.int .i64 n] w fun e w' => ∃ u, e = .returned u ∧ Ints w' (New w.heap.size w'.heap.size) u (countM 0 n) ∧ Up w w' := by
  obtain ⟨i0, hi, hz0, hz1, hz2⟩ := info_parts info22
  have hmk : ∀ u : World, (Instr.makeSlice 22 (.int .i64 (n : Int)) (.int .i64 (n : Int))).run Try.prog u =
      .ok (.slice (some ⟨u.heap.size, 0, none⟩) n n) (u.alloc (.cells (madeCells #[.int .i64 0] n) 2)) := fun u => by
    have h := run_make (P := Try.prog) u 22 2 i0 (.int .i64 0) Try.underlying22 hi hz0 .i64 .i64 (n : Int) (n : Int) (by omega) (Int.le_refl _) (by rw [hz2]; omega) (by omega)
    simpa [hz1, Value.cells] using h
  go_enter Try.func229, Try.ntmps229
  go_wp2
  have Hi := Lib.hid hmk
  clear hmk hi hz0 hz1 hz2
  go_loopw [4, 9] (fun _ i wr => ∃ j : Nat, j ≤ n ∧ i = .int .i64 j ∧ Hid (Up w wr) ∧ w.heap.size < wr.heap.size ∧
      Hid (∀ t (_ : t < n), wr.cell? ⟨w.heap.size, t, none⟩ = some (.int .i64 (if t < j then (t : Int) else 0)) ∧ wr.frozen? ⟨w.heap.size, t, none⟩ = false)) (fun _ i _ => n - (intOf i).toNat)
  case atStart => exact ⟨0, by omega, rfl, (Chg.refl _ _).alloc _, by simp, fun t ht => ⟨by rw [cell_new, madeInts_get _ _ ht]; simp, frozen_new _ _ _ _⟩⟩
  case round =>
    obtain ⟨j, hj, rfl, hg, hsz, hcs⟩ := hrel
    by_cases hlt : j < n
    · have hdj := (hcs.out j hlt).1
      have hfj := (hcs.out j hlt).2
      rw [if_neg (by omega)] at hdj
      go_wp2
      go_roundw
      case rel =>
        refine ⟨j + 1, by omega, by go_num, Chg.setCell hg.out (.inr (Nat.le_refl _)) _, by simpa [World.setCell] using hsz, fun t ht => ?_⟩
        obtain ⟨h1, h2⟩ := hcs.out t ht
        by_cases e : t = j
        · subst e
          rw [if_pos (by omega)]
          exact ⟨World.cell?_setCell_same _ _ _ hdj, by simpa using hfj⟩
        · rw [World.cell?_setCell_other _ _ _ _ (fun h => e (by injection h with _ h _; exact h.symm))]
          refine ⟨?_, by simpa using h2⟩
          rw [h1]
          by_cases ht2 : t < j
          · rw [if_pos ht2, if_pos (by omega)]
          · rw [if_neg ht2, if_neg (by omega)]
      case measure => simp [intOf]; omega
    · obtain rfl : j = n := by omega
      go_wp2
      go_ret
      refine ⟨_, rfl, ?_, hg⟩
      have hI := Ints.of_cells (w := wr) (S := New w.heap.size wr.heap.size) (g := w.heap.size) (c := j) (xs := countM 0 j) ⟨Nat.le_refl _, hsz⟩ hsz (by rw [countM_len]; exact Nat.le_refl _) (by omega) (fun x hx => by
        obtain ⟨i, hi, rfl⟩ := List.mem_map.1 hx
        have := List.mem_range.1 hi
        unfold I64; omega) (fun t ht => by
        have ht' : t < j := by rwa [countM_len] at ht
        obtain ⟨h1, h2⟩ := hcs.out t ht'
        rw [if_pos ht'] at h1
        rw [countM_get, Int.zero_add]
        exact ⟨h1, h2⟩)
      rw [countM_len] at hI
      exact hI
set_option maxHeartbeats 2000000 in
theorem order_any (w : World) (S : Nat → Prop) (v : Value) (r : RowM) (h : RowV w S v r) (hd : r.d = 1 ∨ r.d = -1) (hl : r.xs.length ≤ 16) :
    Calls Try.prog 190 #[v] w fun e w' => ∃ v', e = .returned v' ∧ Ints w' (New w.heap.size w'.heap.size) v' (ordM r.d r.xs.length) ∧ Up w w' := by
  obtain ⟨A, c, rfl, h4, h5, h6⟩ := openRow h
  have HI := Lib.hid h4
  have U0 := Lib.hid (Chg.refl Nowhere w)
  clear h h4
  rcases hd with hd | hd
  · have HO := Lib.hid (show ordM r.d r.xs.length = countM 0 r.xs.length from if_pos hd)
    have hdd : (r.d == -1) = false := by rw [hd]; rfl
    clear hd
    have U_1 := Lib.hid (Chg.trans U0.out ((Chg.refl Nowhere w).alloc (.cells #[.int .i64 r.d, .int .i64 r.c, .slice A r.xs.length c] 66)))
    clear U0
    have q0_2 := (show (w.alloc (.cells #[.int .i64 r.d, .int .i64 r.c, .slice A r.xs.length c] 66)).cell? ⟨w.heap.size, 0, none⟩ = some (.int .i64 r.d) from cell_new _ _ _ _)
    have q1_3 := (show (w.alloc (.cells #[.int .i64 r.d, .int .i64 r.c, .slice A r.xs.length c] 66)).cell? ⟨w.heap.size, 1, none⟩ = some (.int .i64 r.c) from cell_new _ _ _ _)
    have q2_4 := (show (w.alloc (.cells #[.int .i64 r.d, .int .i64 r.c, .slice A r.xs.length c] 66)).cell? ⟨w.heap.size, 2, none⟩ = some (.slice A r.xs.length c) from cell_new _ _ _ _)
    have hbx5 : w.heap.size < (w.alloc (.cells #[.int .i64 r.d, .int .i64 r.c, .slice A r.xs.length c] 66)).heap.size := by simp
    have hw1 := U_1.out.size
    go_enter Try.func190, Try.ntmps190
    go_wp2_with fail
    refine (identity_any _ r.xs.length (by omega)).mono ?_
    rintro e w6 ⟨v6, rfl, k1, g1⟩
    obtain ⟨A6, c6, rfl, hl6, hc6, -⟩ := k1.shape
    have K1 := Lib.hid k1
    clear k1
    have G1 := Lib.hid g1
    have hz6 := G1.out.size
    clear g1
    have U_7 := Lib.hid (Chg.trans U_1.out (Chg.trans (by repeat (first | exact Chg.refl _ _ | apply Chg.drew | apply Chg.drewN | refine Chg.alloc ?_ _)) G1.out))
    clear U_1
    have q0_8 := Chg.cell (Chg.trans (by repeat (first | exact Chg.refl _ _ | apply Chg.drew | apply Chg.drewN | refine Chg.alloc ?_ _)) G1.out) q0_2 id
    clear q0_2
    have q1_9 := Chg.cell (Chg.trans (by repeat (first | exact Chg.refl _ _ | apply Chg.drew | apply Chg.drewN | refine Chg.alloc ?_ _)) G1.out) q1_3 id
    clear q1_3
    have q2_10 := Chg.cell (Chg.trans (by repeat (first | exact Chg.refl _ _ | apply Chg.drew | apply Chg.drewN | refine Chg.alloc ?_ _)) G1.out) q2_4 id
    clear q2_4
    clear G1
    have K_11 := Lib.hid (K1.out)
    clear K1
    go_wp2
    go_ret
    exact ⟨_, rfl, by rw [HO.out]; exact K_11.out.mono (fun b _ hb => ⟨by have := hb.1; simp at *; omega, hb.2⟩), (Chg.trans U_7.out (by repeat (first | exact Chg.refl _ _ | apply Chg.drew | apply Chg.drewN | refine Chg.alloc ?_ _)))⟩
  · have HO := Lib.hid (show ordM r.d r.xs.length = (countM 0 r.xs.length).reverse from if_neg (by omega))
    have hdd : (r.d == -1) = true := by rw [hd]; rfl
    clear hd
    have U_12 := Lib.hid (Chg.trans U0.out ((Chg.refl Nowhere w).alloc (.cells #[.int .i64 r.d, .int .i64 r.c, .slice A r.xs.length c] 66)))
    clear U0
    have q0_13 := (show (w.alloc (.cells #[.int .i64 r.d, .int .i64 r.c, .slice A r.xs.length c] 66)).cell? ⟨w.heap.size, 0, none⟩ = some (.int .i64 r.d) from cell_new _ _ _ _)
    have q1_14 := (show (w.alloc (.cells #[.int .i64 r.d, .int .i64 r.c, .slice A r.xs.length c] 66)).cell? ⟨w.heap.size, 1, none⟩ = some (.int .i64 r.c) from cell_new _ _ _ _)
    have q2_15 := (show (w.alloc (.cells #[.int .i64 r.d, .int .i64 r.c, .slice A r.xs.length c] 66)).cell? ⟨w.heap.size, 2, none⟩ = some (.slice A r.xs.length c) from cell_new _ _ _ _)
    have hbx16 : w.heap.size < (w.alloc (.cells #[.int .i64 r.d, .int .i64 r.c, .slice A r.xs.length c] 66)).heap.size := by simp
    have hw1 := U_12.out.size
    go_enter Try.func190, Try.ntmps190
    go_wp2_with fail
    refine (identity_any _ r.xs.length (by omega)).mono ?_
    rintro e w17 ⟨v17, rfl, k1, g1⟩
    obtain ⟨A17, c17, rfl, hl17, hc17, -⟩ := k1.shape
    have K1 := Lib.hid k1
    clear k1
    have G1 := Lib.hid g1
    have hz17 := G1.out.size
    clear g1
    have U_18 := Lib.hid (Chg.trans U_12.out (Chg.trans (by repeat (first | exact Chg.refl _ _ | apply Chg.drew | apply Chg.drewN | refine Chg.alloc ?_ _)) G1.out))
    clear U_12
    have q0_19 := Chg.cell (Chg.trans (by repeat (first | exact Chg.refl _ _ | apply Chg.drew | apply Chg.drewN | refine Chg.alloc ?_ _)) G1.out) q0_13 id
    clear q0_13
    have q1_20 := Chg.cell (Chg.trans (by repeat (first | exact Chg.refl _ _ | apply Chg.drew | apply Chg.drewN | refine Chg.alloc ?_ _)) G1.out) q1_14 id
    clear q1_14
    have q2_21 := Chg.cell (Chg.trans (by repeat (first | exact Chg.refl _ _ | apply Chg.drew | apply Chg.drewN | refine Chg.alloc ?_ _)) G1.out) q2_15 id
    clear q2_15
    clear G1
    have K_22 := Lib.hid (K1.out)
    clear K1
    go_wp2_with fail
    refine (reverse_any _ _ _ _ (K_22.out.up (by repeat (first | exact Chg.refl _ _ | apply Chg.drew | apply Chg.drewN | refine Chg.alloc ?_ _)))).mono ?_
    rintro e w9 ⟨rfl, g1, k1⟩
    have G1 := Lib.hid g1
    have K1 := Lib.hid k1
    have hz9 := g1.size
    clear g1 k1
    go_wp2
    go_ret
    exact ⟨_, rfl, by rw [HO.out]; have := K1.out; exact this.mono (fun b _ hb => ⟨by have := hb.1; simp at *; omega, by have := hb.2; omega⟩), Chg.new (Chg.trans U_18.out (by repeat (first | exact Chg.refl _ _ | apply Chg.drew | apply Chg.drewN | refine Chg.alloc ?_ _))) G1.out (fun i hi hx => by have := hx.1; simp at *; omega)⟩
set_option maxHeartbeats 2000000 in
theorem l17Order_any (w : World) (S : Nat → Prop) (b o : Nat) (r : RowM) (h : RowAt w S b o r) (hd : r.d = 1 ∨ r.d = -1) (hl : r.xs.length ≤ 16) :
    Calls Try.prog 181 #[.pointer (some ⟨b, o, none⟩)] w fun e w' => ∃ v', e = .returned v' ∧ Ints w' (New w.heap.size w'.heap.size) v' (ordM r.d r.xs.length) ∧ Up w w' := by
  obtain ⟨A, c, f0, -, f2, h4, h5, h6⟩ := h.open_
  have hbb : b < w.heap.size := World.block_lt_of_cell? w _ f0
  clear h h4
  have HO := Lib.hid (ordTo_all r.d r.xs.length)
  have hs : ∃ q : Int → Nat → Int, ∀ j : Nat, q r.d j = (if r.d = 1 then (j : Int) else (r.xs.length : Int) - 1 - j) := ⟨fun d j => if d = 1 then (j : Int) else (r.xs.length : Int) - 1 - j, fun _ => rfl⟩
  rcases hd with hd | hd
  · have HS := Lib.hid (fun j => (ordTo_succ r.d r.xs.length j).trans (by rw [if_pos hd] : _ = ordTo r.d r.xs.length j ++ [(j : Int)]))
    have hdd : (r.d == 1) = true := by rw [hd]; rfl
    clear hd hs
    go_enter Try.func181, Try.ntmps181
    go_wp2
    go_loopw [3, 5] (fun v i wr => ∃ j : Nat, j ≤ r.xs.length ∧ i = .int .i64 j ∧ Hid (OwnI wr w.heap.size v (ordTo r.d r.xs.length j)) ∧ Hid (Up w wr)) (fun _ i _ => r.xs.length - (intOf i).toNat)
    case atStart => exact ⟨0, by omega, rfl, OwnI.made w _ (Nat.le_refl _), (Chg.refl _ _).alloc _⟩
    case round =>
      obtain ⟨j, hj, rfl, ho, hg⟩ := hrel
      have g0 := Chg.cell hg.out f0 id
      by_cases hlt : j < r.xs.length
      · have HI2 := Lib.hid (show I64 (j : Int) by unfold I64; omega)
        have HL := Lib.hid (show (ordTo r.d r.xs.length j).length ≤ 1099511627776 by rw [ordTo_len]; omega)
        have hsz := hg.out.size
        go_wp2_with (first | (at_builtin; refine wp_append_int rfl _ _ rfl w.heap.size _ (ordTo r.d r.xs.length j) rfl (ho.out.alloc _) _ (j : Int) rfl (cell_new _ _ _ _) HI2.out HL.out ?_ ?_; (simp; omega); intro v' w1 ho1 _ hg1; have HOO := Lib.hid ho1; have HG := Lib.hid hg1; clear ho1 hg1))
        go_roundw
        case rel => exact ⟨j + 1, by omega, by go_num, by rw [HS.out]; exact HOO.out, Chg.new (hg.out.alloc _) HG.out (fun i hi => by omega)⟩
        case measure => simp [intOf]; omega
      · obtain rfl : j = r.xs.length := by omega
        go_wp2
        go_ret
        exact ⟨_, rfl, by rw [← HO.out]; exact ho.out.ints, hg.out⟩
  · have HS := Lib.hid (fun j => (ordTo_succ r.d r.xs.length j).trans (by rw [if_neg (by omega)] : _ = ordTo r.d r.xs.length j ++ [(r.xs.length : Int) - 1 - j]))
    have hdd : (r.d == 1) = false := by rw [hd]; rfl
    clear hd hs
    go_enter Try.func181, Try.ntmps181
    go_wp2
    go_loopw [3, 5] (fun v i wr => ∃ j : Nat, j ≤ r.xs.length ∧ i = .int .i64 j ∧ Hid (OwnI wr w.heap.size v (ordTo r.d r.xs.length j)) ∧ Hid (Up w wr)) (fun _ i _ => r.xs.length - (intOf i).toNat)
    case atStart => exact ⟨0, by omega, rfl, OwnI.made w _ (Nat.le_refl _), (Chg.refl _ _).alloc _⟩
    case round =>
      obtain ⟨j, hj, rfl, ho, hg⟩ := hrel
      have g0 := Chg.cell hg.out f0 id
      by_cases hlt : j < r.xs.length
      · have HI2 := Lib.hid (show I64 ((r.xs.length : Int) - 1 - j) by unfold I64; omega)
        have HL := Lib.hid (show (ordTo r.d r.xs.length j).length ≤ 1099511627776 by rw [ordTo_len]; omega)
        have hsz := hg.out.size
        go_wp2_with (first | (at_builtin; refine wp_append_int rfl _ _ rfl w.heap.size _ (ordTo r.d r.xs.length j) rfl (ho.out.alloc _) _ ((r.xs.length : Int) - 1 - j) rfl (cell_new _ _ _ _) HI2.out HL.out ?_ ?_; (simp; omega); intro v' w1 ho1 _ hg1; have HOO := Lib.hid ho1; have HG := Lib.hid hg1; clear ho1 hg1))
        go_roundw
        case rel => exact ⟨j + 1, by omega, by go_num, by rw [HS.out]; exact HOO.out, Chg.new (hg.out.alloc _) HG.out (fun i hi => by omega)⟩
        case measure => simp [intOf]; omega
      · obtain rfl : j = r.xs.length := by omega
        go_wp2
        go_ret
        exact ⟨_, rfl, by rw [← HO.out]; exact ho.out.ints, hg.out⟩
set_option maxRecDepth 100000 in
set_option maxHeartbeats 4000000 in
theorem once_any (w : World) (S S2 : Nat → Prop) (v u : Value) (xs ys : List Int) (h : Ints w S v xs) (h2 : Ints w S2 u ys) (hl : ys.length = xs.length) (hx : xs.length ≤ 1000) :
    Calls Try.prog 187 #[v, u] w fun e w' => ∃ v1 v2, e = .returned (.tuple #[v1, v2]) ∧ Ints w' (New w.heap.size w'.heap.size) v1 (onceL xs xs xs.length) ∧ Ints w' (New w.heap.size w'.heap.size) v2 (onceL xs ys xs.length) ∧ Up w w' := by
  obtain ⟨A, c, rfl, hlc, hcm, -⟩ := h.shape
  obtain ⟨A2, c2, rfl, hlc2, hcm2, -⟩ := h2.shape
  have hxi : ∀ i, i < xs.length → I64 (ix xs i) := fun i hi => by obtain ⟨_, _, _, _, _, hq, _⟩ := h; rw [ix_eq hi]; exact hq _ (List.getElem_mem hi)
  have hyi : ∀ i, i < xs.length → I64 (ix ys i) := fun i hi => by obtain ⟨_, _, _, _, _, hq, _⟩ := h2; rw [ix_eq (by omega)]; exact hq _ (List.getElem_mem (by omega))
  have HXI := Lib.hid hxi
  have HYI := Lib.hid hyi
  have H := Lib.hid h
  have H2 := Lib.hid h2
  have HL := Lib.hid hl
  have hyl : xs.length ≤ ys.length ∧ ys.length ≤ xs.length := by omega
  have M1 := Lib.hid ((OwnI.made w w.heap.size (Nat.le_refl _)).alloc (.cells #[] 2))
  have M2 := Lib.hid (OwnI.made (w.alloc (.cells #[] 2)) w.heap.size (by simp))
  clear h h2 hl hxi hyi
  go_enter Try.func187, Try.ntmps187
  go_wp2
  go_loopw [6, 7, 8, 9, 14] (fun v1 v2 _ _ i wr => ∃ j : Nat, j ≤ xs.length ∧ i = .int .i64 j ∧ Hid (T3 wr w.heap.size 0 0 v1 v2 (.slice none 0 0) (onceL xs xs j) (onceL xs ys j) [] (.slice none 0 0) (.slice none 0 0) [] []) ∧ Hid (Up w wr)) (fun _ _ _ _ i _ => xs.length - (intOf i).toNat)
  case atStart => exact ⟨0, by omega, rfl, ⟨by simpa [onceL, keepTo] using M1.out, by simpa [onceL, keepTo] using M2.out, OwnI.nil _ _, fun g h => by simp [Value.ownBlock] at *; omega, fun g h => by simp [Value.ownBlock] at *, fun g h => by simp [Value.ownBlock] at *, fun g h => .inr (by omega), fun g h => .inr (by omega), fun g h => by simp [Value.ownBlock] at h, IntSS.nil _ _ _ _ (by omega), IntSS.nil _ _ _ _ (by omega), Nat.zero_le _⟩, ((Chg.refl _ _).alloc _).alloc _⟩
  clear M1 M2
  case round =>
    obtain ⟨j, hj, rfl, ho, hg⟩ := hrel
    by_cases hlt : j < xs.length
    · obtain ⟨b1, o1, rfl, hb1, hc⟩ := H.out.ix hlt
      obtain ⟨b2, o2, rfl, hb2, hd⟩ := H2.out.ix (i := j) (by omega)
      have f1 := Chg.cell hg.out (hc j hlt) id
      have hsz := hg.out.size
      have hjl : (j : Int) < ys.length := by omega
      have HV := Lib.hid (HXI.out j hlt)
      have HW := Lib.hid (HYI.out j hlt)
      have HC2 := Lib.hid (hd j (by omega))
      have HL1 := Lib.hid (show (onceL xs xs j).length ≤ 1099511627776 by have := onceL_length xs xs j; omega)
      have HL2 := Lib.hid (show (onceL xs ys j).length ≤ 1099511627776 by have := onceL_length xs ys j; omega)
      have hcase : (j = 0) ∨ (0 < j ∧ ix xs j ≠ ix xs (j - 1)) ∨ (0 < j ∧ ix xs j = ix xs (j - 1)) := by omega
      have HC0 := Lib.hid (fun (h0 : 0 < j) => Chg.cell hg.out (hc (j - 1) (by omega)) id)
      clear hc hd
      rcases hcase with h0 | ⟨h0, hne⟩ | ⟨h0, hne⟩
      · have HK := Lib.hid (show keepB xs j = true by unfold keepB; rw [decide_eq_true h0]; rfl)
        have HE := Lib.hid (onceL_yes (ys := xs) HK.out)
        have HE2 := Lib.hid (onceL_yes (ys := ys) HK.out)
        subst h0
        have e1 : (((0 : Nat) : Int) == 0) = true := by rfl
        rw [Nat.add_zero] at f1
        have HC2 := Lib.hid (show w.cell? ⟨b2, o2, none⟩ = _ from HC2.out)
        have hy0 : 0 < ys.length ∧ 0 < xs.length := ⟨by omega, by omega⟩
        obtain ⟨hy0, hx0⟩ := hy0
        go_wp2_with (first | (at_builtin; refine wp_append_int2 (o := ⟨some 33, _, _, _, _, _⟩) rfl _ _ rfl w.heap.size _ (onceL xs xs (0)) rfl (ho.out.o1.alloc _) _ (ix xs (0)) rfl (cell_new _ _ _ _) HV.out HL1.out ?_ ?_; (simp; omega); intro v7 w7 ho1 ho2 ho3 hg1; have T_7 := Lib.hid (T3.app (ho.out.up ((Chg.refl Nowhere _).alloc _)) ho1 ho2 ho3); have U_7 := Lib.hid (Chg.new (hg.out.trans ((Chg.refl Nowhere _).alloc _)) hg1 (fun i hi => by omega)); have hs7 := U_7.out.size; have f7 := Chg.cell U_7.out HC2.out id; clear ho1 ho2 ho3 hg1) | (at_builtin; refine wp_append_int2 (o := ⟨some 40, _, _, _, _, _⟩) rfl _ _ rfl w.heap.size _ (onceL xs ys (0)) rfl (T_7.out.o2.alloc _) _ (ix ys (0)) rfl (cell_new _ _ _ _) HW.out HL2.out ?_ ?_; (simp; omega); intro v8 w8 ho1 ho2 ho3 hg1; have T_8 := Lib.hid (T3.app2 (T_7.out.up ((Chg.refl Nowhere _).alloc _)) ho1 ho2 ho3); have U_8 := Lib.hid (Chg.new (U_7.out.trans ((Chg.refl Nowhere _).alloc _)) hg1 (fun i hi => by omega)); clear ho1 ho2 ho3 hg1))
        go_roundw
        case rel => exact ⟨0 + 1, by omega, by go_num, by rw [HE.out, HE2.out]; exact T_8, U_8⟩
        case measure => simp [intOf]; omega
      · have HK := Lib.hid (show keepB xs j = true by unfold keepB; rw [bne_iff_ne.2 hne, Bool.or_true])
        have HE := Lib.hid (onceL_yes (ys := xs) HK.out)
        have HE2 := Lib.hid (onceL_yes (ys := ys) HK.out)
        have f0 := HC0.out h0
        have e1 : ((j : Int) == 0) = false := by rw [beq_eq_false_iff_ne]; omega
        have e2 : (ix xs j != ix xs (j - 1)) = true := bne_iff_ne.2 hne
        clear hne
        obtain ⟨m, rfl⟩ : ∃ m, j = m + 1 := ⟨j - 1, by omega⟩
        have f0' := f0
        rw [show m + 1 - 1 = m by omega] at f0' e2
        clear f0
        go_wp2_with (first | (at_builtin; refine wp_append_int2 (o := ⟨some 33, _, _, _, _, _⟩) rfl _ _ rfl w.heap.size _ (onceL xs xs (m + 1)) rfl (ho.out.o1.alloc _) _ (ix xs (m + 1)) rfl (cell_new _ _ _ _) HV.out HL1.out ?_ ?_; (simp; omega); intro v7 w7 ho1 ho2 ho3 hg1; have T_7 := Lib.hid (T3.app (ho.out.up ((Chg.refl Nowhere _).alloc _)) ho1 ho2 ho3); have U_7 := Lib.hid (Chg.new (hg.out.trans ((Chg.refl Nowhere _).alloc _)) hg1 (fun i hi => by omega)); have hs7 := U_7.out.size; have f7 := Chg.cell U_7.out HC2.out id; clear ho1 ho2 ho3 hg1) | (at_builtin; refine wp_append_int2 (o := ⟨some 40, _, _, _, _, _⟩) rfl _ _ rfl w.heap.size _ (onceL xs ys (m + 1)) rfl (T_7.out.o2.alloc _) _ (ix ys (m + 1)) rfl (cell_new _ _ _ _) HW.out HL2.out ?_ ?_; (simp; omega); intro v8 w8 ho1 ho2 ho3 hg1; have T_8 := Lib.hid (T3.app2 (T_7.out.up ((Chg.refl Nowhere _).alloc _)) ho1 ho2 ho3); have U_8 := Lib.hid (Chg.new (U_7.out.trans ((Chg.refl Nowhere _).alloc _)) hg1 (fun i hi => by omega)); clear ho1 ho2 ho3 hg1))
        go_roundw
        case rel => exact ⟨m + 1 + 1, by omega, by go_num, by rw [HE.out, HE2.out]; exact T_8, U_8⟩
        case measure => simp [intOf]; omega
      · have HK := Lib.hid (show keepB xs j = false by unfold keepB; rw [decide_eq_false (by omega), hne]; simp)
        have f0 := HC0.out h0
        have hji : (j : Int) - 1 = ((j - 1 : Nat) : Int) := by omega
        have e1 : ((j : Int) == 0) = false := by rw [beq_eq_false_iff_ne]; omega
        have e2 : (ix xs j != ix xs (j - 1)) = false := by rw [hne]; simp
        have HE := Lib.hid (onceL_no (ys := xs) HK.out)
        have HE2 := Lib.hid (onceL_no (ys := ys) HK.out)
        clear hne
        obtain ⟨m, rfl⟩ : ∃ m, j = m + 1 := ⟨j - 1, by omega⟩
        have f0' := f0
        rw [show m + 1 - 1 = m by omega] at f0' e2
        clear f0 hji
        go_wp2
        go_roundw
        case rel => exact ⟨m + 1 + 1, by omega, by go_num, by rw [HE.out, HE2.out]; exact ho, hg⟩
        case measure => simp [intOf]; omega
    · obtain rfl : j = xs.length := by omega
      go_wp2
      go_ret2
      exact ⟨_, _, rfl, ho.out.o1.ints, ho.out.o2.ints, hg.out⟩
end Go.Proofs.Ytmimbnpcokfnlaa
