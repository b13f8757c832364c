/- The order of a row's stitches on both sides; the first of each run of needles. No condition but room. -/
import Derived.Test.YtnjfhpgmogopnaaRev
import Derived.Test.YtnjfhpgmogopnaaRow8
namespace Go.Proofs.Ytnjfhpgmogopnaa
open Go.ChangeShapes Go.WideShapes Go.ChangeAt Go.RowKit
def ordM (d : Int) (n : Nat) : List Int := if d = 1 then countM 0 n else (countM 0 n).reverse
theorem ordM_length (d : Int) (n : Nat) : (ordM d n).length = n := by unfold ordM; split <;> simp [countM]
theorem ordM_get (d : Int) (n : Nat) (t : Nat) (h : t < (ordM d n).length) : (ordM d n)[t] = if d = 1 then (t : Int) else (n : Int) - 1 - t := by
  have hl := ordM_length d n
  unfold ordM at *
  split
  · simp [countM]
  · rename_i hd
    simp only [if_neg hd] at h
    simp [countM] at h ⊢
    omega
/-- the first j of them -/
def ordTo (d : Int) (n j : Nat) : List Int := (List.range j).map fun i : Nat => if d = 1 then (i : Int) else (n : Int) - 1 - i
theorem ordTo_succ (d : Int) (n j : Nat) : ordTo d n (j + 1) = ordTo d n j ++ [if d = 1 then (j : Int) else (n : Int) - 1 - j] := by simp [ordTo, List.range_succ]
theorem ordTo_all (d : Int) (n : Nat) : ordTo d n n = ordM d n := by
  refine List.ext_getElem (by simp [ordTo, ordM_length]) fun i h1 h2 => ?_
  rw [ordM_get]
  simp [ordTo]
theorem ordTo_len (d : Int) (n j : Nat) : (ordTo d n j).length = j := by simp [ordTo]
theorem info22 : (Try.prog.info? 2).map (fun i => (i.zero, i.size, i.bytes)) = some (some (.int .i64 0), 1, 8) := by kernel_rfl
set_option maxHeartbeats 2000000 in
theorem identity_any (w : World) (n : Nat) (hn : n ≤ 1000) :
    Calls Try.prog 171 #[.int .i64 n] w fun e w' => ∃ u, e = .returned u ∧ Ints w' (New w.heap.size w'.heap.size) u (countM 0 n) ∧ Up w w' := by
  obtain ⟨i0, hi, hz0, hz1, hz2⟩ := info_parts info22
  have hmk : ∀ u : World, (Instr.makeSlice 37 (.int .i64 (n : Int)) (.int .i64 (n : Int))).run Try.prog u =
      .ok (.slice (some ⟨u.heap.size, 0, none⟩) n n) (u.alloc (.cells (madeCells #[.int .i64 0] n) 2)) := fun u => by
    have h := run_make (P := Try.prog) u 37 2 i0 (.int .i64 0) Try.underlying37 hi hz0 .i64 .i64 (n : Int) (n : Int) (by omega) (Int.le_refl _) (by rw [hz2]; omega) (by omega)
    simpa [hz1, Value.cells] using h
  go_enter Try.func171, Try.ntmps171
  go_wp2
  have Hi := Lib.hid hmk
  clear hmk hi hz0 hz1 hz2
  go_loopw [4, 9] (fun _ i wr => ∃ j : Nat, j ≤ n ∧ i = .int .i64 j ∧ Hid (Up w wr) ∧ w.heap.size < wr.heap.size ∧
      Hid (∀ t (_ : t < n), wr.cell? ⟨w.heap.size, t, none⟩ = some (.int .i64 (if t < j then (t : Int) else 0)) ∧ wr.frozen? ⟨w.heap.size, t, none⟩ = false)) (fun _ i _ => n - (intOf i).toNat)
  case atStart => exact ⟨0, by omega, rfl, (Chg.refl _ _).alloc _, by simp, fun t ht => ⟨by rw [cell_new, madeInts_get _ _ ht]; simp, frozen_new _ _ _ _⟩⟩
  case round =>
    obtain ⟨j, hj, rfl, hg, hsz, hcs⟩ := hrel
    by_cases hlt : j < n
    · have hdj := (hcs.out j hlt).1
      have hfj := (hcs.out j hlt).2
      rw [if_neg (by omega)] at hdj
      go_wp2
      go_roundw
      case rel =>
        refine ⟨j + 1, by omega, by go_num, Chg.setCell hg.out (.inr (Nat.le_refl _)) _, by simpa [World.setCell] using hsz, fun t ht => ?_⟩
        obtain ⟨h1, h2⟩ := hcs.out t ht
        by_cases e : t = j
        · subst e
          rw [if_pos (by omega)]
          exact ⟨World.cell?_setCell_same _ _ _ hdj, by simpa using hfj⟩
        · rw [World.cell?_setCell_other _ _ _ _ (fun h => e (by injection h with _ h _; exact h.symm))]
          refine ⟨?_, by simpa using h2⟩
          rw [h1]
          by_cases ht2 : t < j
          · rw [if_pos ht2, if_pos (by omega)]
          · rw [if_neg ht2, if_neg (by omega)]
      case measure => simp [intOf]; omega
    · obtain rfl : j = n := by omega
      go_wp2
      go_ret
      refine ⟨_, rfl, ?_, hg⟩
      have hI := Ints.of_cells (w := wr) (S := New w.heap.size wr.heap.size) (g := w.heap.size) (c := j) (xs := countM 0 j) ⟨Nat.le_refl _, hsz⟩ hsz (by rw [countM_len]; exact Nat.le_refl _) (by omega) (fun x hx => by
        obtain ⟨i, hi, rfl⟩ := List.mem_map.1 hx
        have := List.mem_range.1 hi
        unfold I64; omega) (fun t ht => by
        have ht' : t < j := by rwa [countM_len] at ht
        obtain ⟨h1, h2⟩ := hcs.out t ht'
        rw [if_pos ht'] at h1
        rw [countM_get, Int.zero_add]
        exact ⟨h1, h2⟩)
      rw [countM_len] at hI
      exact hI
set_option maxHeartbeats 2000000 in
theorem order_any (w : World) (S : Nat → Prop) (v : Value) (r : RowM) (h : RowV w S v r) (hd : r.d = 1 ∨ r.d = -1) (hl : r.xs.length ≤ 16) :
    Calls Try.prog 255 #[v] w fun e w' => ∃ v', e = .returned v' ∧ Ints w' (New w.heap.size w'.heap.size) v' (ordM r.d r.xs.length) ∧ Up w w' := by
  obtain ⟨A, c, rfl, h4, h5, h6⟩ := openRow h
  have HI := Lib.hid h4
  have U0 := Lib.hid (Chg.refl Nowhere w)
  clear h h4
  rcases hd with hd | hd
  · have HO := Lib.hid (show ordM r.d r.xs.length = countM 0 r.xs.length from if_pos hd)
    have hdd : (r.d == -1) = false := by rw [hd]; rfl
    clear hd
    have U_1 := Lib.hid (Chg.trans U0.out ((Chg.refl Nowhere w).alloc (.cells #[.int .i64 r.d, .int .i64 r.c, .slice A r.xs.length c] 87)))
    clear U0
    have q0_2 := (show (w.alloc (.cells #[.int .i64 r.d, .int .i64 r.c, .slice A r.xs.length c] 87)).cell? ⟨w.heap.size, 0, none⟩ = some (.int .i64 r.d) from cell_new _ _ _ _)
    have q1_3 := (show (w.alloc (.cells #[.int .i64 r.d, .int .i64 r.c, .slice A r.xs.length c] 87)).cell? ⟨w.heap.size, 1, none⟩ = some (.int .i64 r.c) from cell_new _ _ _ _)
    have q2_4 := (show (w.alloc (.cells #[.int .i64 r.d, .int .i64 r.c, .slice A r.xs.length c] 87)).cell? ⟨w.heap.size, 2, none⟩ = some (.slice A r.xs.length c) from cell_new _ _ _ _)
    have hbx5 : w.heap.size < (w.alloc (.cells #[.int .i64 r.d, .int .i64 r.c, .slice A r.xs.length c] 87)).heap.size := by simp
    have hw1 := U_1.out.size
    go_enter Try.func255, Try.ntmps255
    go_wp2_with fail
    refine (identity_any _ r.xs.length (by omega)).mono ?_
    rintro e w6 ⟨v6, rfl, k1, g1⟩
    obtain ⟨A6, c6, rfl, hl6, hc6, -⟩ := k1.shape
    have K1 := Lib.hid k1
    clear k1
    have G1 := Lib.hid g1
    have hz6 := G1.out.size
    clear g1
    have U_7 := Lib.hid (Chg.trans U_1.out (Chg.trans (by repeat (first | exact Chg.refl _ _ | apply Chg.drew | apply Chg.drewN | refine Chg.alloc ?_ _)) G1.out))
    clear U_1
    have q0_8 := Chg.cell (Chg.trans (by repeat (first | exact Chg.refl _ _ | apply Chg.drew | apply Chg.drewN | refine Chg.alloc ?_ _)) G1.out) q0_2 id
    clear q0_2
    have q1_9 := Chg.cell (Chg.trans (by repeat (first | exact Chg.refl _ _ | apply Chg.drew | apply Chg.drewN | refine Chg.alloc ?_ _)) G1.out) q1_3 id
    clear q1_3
    have q2_10 := Chg.cell (Chg.trans (by repeat (first | exact Chg.refl _ _ | apply Chg.drew | apply Chg.drewN | refine Chg.alloc ?_ _)) G1.out) q2_4 id
    clear q2_4
    clear G1
    have K_11 := Lib.hid (K1.out)
    clear K1
    go_wp2
    go_ret
    exact ⟨_, rfl, by rw [HO.out]; exact K_11.out.mono (fun b _ hb => ⟨by have := hb.1; simp at *; omega, hb.2⟩), (Chg.trans U_7.out (by repeat (first | exact Chg.refl _ _ | apply Chg.drew | apply Chg.drewN | refine Chg.alloc ?_ _)))⟩
  · have HO := Lib.hid (show ordM r.d r.xs.length = (countM 0 r.xs.length).reverse from if_neg (by omega))
    have hdd : (r.d == -1) = true := by rw [hd]; rfl
    clear hd
    have U_12 := Lib.hid (Chg.trans U0.out ((Chg.refl Nowhere w).alloc (.cells #[.int .i64 r.d, .int .i64 r.c, .slice A r.xs.length c] 87)))
    clear U0
    have q0_13 := (show (w.alloc (.cells #[.int .i64 r.d, .int .i64 r.c, .slice A r.xs.length c] 87)).cell? ⟨w.heap.size, 0, none⟩ = some (.int .i64 r.d) from cell_new _ _ _ _)
    have q1_14 := (show (w.alloc (.cells #[.int .i64 r.d, .int .i64 r.c, .slice A r.xs.length c] 87)).cell? ⟨w.heap.size, 1, none⟩ = some (.int .i64 r.c) from cell_new _ _ _ _)
    have q2_15 := (show (w.alloc (.cells #[.int .i64 r.d, .int .i64 r.c, .slice A r.xs.length c] 87)).cell? ⟨w.heap.size, 2, none⟩ = some (.slice A r.xs.length c) from cell_new _ _ _ _)
    have hbx16 : w.heap.size < (w.alloc (.cells #[.int .i64 r.d, .int .i64 r.c, .slice A r.xs.length c] 87)).heap.size := by simp
    have hw1 := U_12.out.size
    go_enter Try.func255, Try.ntmps255
    go_wp2_with fail
    refine (identity_any _ r.xs.length (by omega)).mono ?_
    rintro e w17 ⟨v17, rfl, k1, g1⟩
    obtain ⟨A17, c17, rfl, hl17, hc17, -⟩ := k1.shape
    have K1 := Lib.hid k1
    clear k1
    have G1 := Lib.hid g1
    have hz17 := G1.out.size
    clear g1
    have U_18 := Lib.hid (Chg.trans U_12.out (Chg.trans (by repeat (first | exact Chg.refl _ _ | apply Chg.drew | apply Chg.drewN | refine Chg.alloc ?_ _)) G1.out))
    clear U_12
    have q0_19 := Chg.cell (Chg.trans (by repeat (first | exact Chg.refl _ _ | apply Chg.drew | apply Chg.drewN | refine Chg.alloc ?_ _)) G1.out) q0_13 id
    clear q0_13
    have q1_20 := Chg.cell (Chg.trans (by repeat (first | exact Chg.refl _ _ | apply Chg.drew | apply Chg.drewN | refine Chg.alloc ?_ _)) G1.out) q1_14 id
    clear q1_14
    have q2_21 := Chg.cell (Chg.trans (by repeat (first | exact Chg.refl _ _ | apply Chg.drew | apply Chg.drewN | refine Chg.alloc ?_ _)) G1.out) q2_15 id
    clear q2_15
    clear G1
    have K_22 := Lib.hid (K1.out)
    clear K1
    go_wp2_with fail
    refine (reverse_any _ _ _ _ (K_22.out.up (by repeat (first | exact Chg.refl _ _ | apply Chg.drew | apply Chg.drewN | refine Chg.alloc ?_ _)))).mono ?_
    rintro e w9 ⟨rfl, g1, k1⟩
    have G1 := Lib.hid g1
    have K1 := Lib.hid k1
    have hz9 := g1.size
    clear g1 k1
    go_wp2
    go_ret
    exact ⟨_, rfl, by rw [HO.out]; have := K1.out; exact this.mono (fun b _ hb => ⟨by have := hb.1; simp at *; omega, by have := hb.2; omega⟩), Chg.new (Chg.trans U_18.out (by repeat (first | exact Chg.refl _ _ | apply Chg.drew | apply Chg.drewN | refine Chg.alloc ?_ _))) G1.out (fun i hi hx => by have := hx.1; simp at *; omega)⟩
end Go.Proofs.Ytnjfhpgmogopnaa
