/- The laws' own copies of slices of records, and their sizes. No condition but room. -/
import Derived.Test.YtiiodfcbpmkodaaGreatMoves
import Derived.Test.YtiiodfcbpmkodaaGreatOwnO
import Derived.Test.YtiiodfcbpmkodaaGreatMove
set_option linter.unusedSimpArgs false
set_option linter.unusedVariables false
set_option maxRecDepth 100000
set_option maxHeartbeats 4000000
namespace Go.Proofs.YtiiodfcbpmkodaaGreat
open Go.ChangeShapes Go.WideShapes Go.ChangeAt Go.RowKit
/-- in the middle of copying: all cells of the row are there; the first ones bear what they should -/
def Copying (w : World) (b m n j : Nat) (cs : List Value) : Prop :=
  ∀ t, t < n * m → (∃ u, w.cell? ⟨b, t, none⟩ = some u) ∧ w.frozen? ⟨b, t, none⟩ = false ∧ (t < j * m → w.cell? ⟨b, t, none⟩ = cs[t]?)
theorem Copying.cell {w : World} {b m n j : Nat} {cs : List Value} (h : Copying w b m n j cs) (hj : j < n) (i : Nat) (hi : i < m) :
    ∃ u, w.cell? ⟨b, j * m + i, none⟩ = some u ∧ w.frozen? ⟨b, j * m + i, none⟩ = false := by
  have hlt : j * m + i < n * m := by
    have : (j + 1) * m ≤ n * m := Nat.mul_le_mul_right m hj
    rw [Nat.add_mul] at this
    omega
  obtain ⟨⟨u, h1⟩, h2, _⟩ := h (j * m + i) hlt
  exact ⟨u, h1, h2⟩
theorem Copying.next {w : World} {b m n j : Nat} {cs : List Value} (h : Copying w b m n j cs) (hj : j < n) {vs : List Value} (hl : vs.length = m) (hv : ∀ i (hi : i < vs.length), cs[j * m + i]? = some vs[i]) :
    Copying (w.setCells b (j * m) vs) b m n (j + 1) cs := by
  intro t ht
  have hfr := (h t ht).2.1
  refine ⟨?_, by rw [World.frozen?_setCells]; exact hfr, fun hlt => ?_⟩
  · by_cases hin : j * m ≤ t ∧ t < (j + 1) * m
    · rw [Nat.add_mul] at hin
      have := World.cell?_setCells_in b vs (j * m) w (fun i hi => by
        obtain ⟨u, hu, _⟩ := h.cell hj i (by omega)
        simp [hu]) (t - j * m) (by omega)
      rw [show j * m + (t - j * m) = t by omega] at this
      exact ⟨_, this⟩
    · rw [Nat.add_mul] at hin
      rw [World.cell?_setCells_out b vs _ w _ (fun _ _ => by simp only []; omega)]
      exact (h t ht).1
  · by_cases hin : j * m ≤ t
    · rw [Nat.add_mul] at hlt
      have := World.cell?_setCells_in b vs (j * m) w (fun i hi => by
        obtain ⟨u, hu, _⟩ := h.cell hj i (by omega)
        simp [hu]) (t - j * m) (by omega)
      rw [show j * m + (t - j * m) = t by omega] at this
      rw [this]
      have h2 := hv (t - j * m) (by omega)
      rw [show j * m + (t - j * m) = t by omega] at h2
      rw [h2]
    · rw [World.cell?_setCells_out b vs _ w _ (fun _ _ => by simp only []; omega)]
      exact (h t ht).2.2 (by omega)
theorem Copying.up {w w' : World} {b m n j : Nat} {cs : List Value} (h : Copying w b m n j cs) (g : Up w w') : Copying w' b m n j cs := fun t ht => by
  obtain ⟨⟨u, h1⟩, h2, h3⟩ := h t ht
  have hb : b < w.heap.size := World.block_lt_of_cell? w _ h1
  have hc := g.cell h1 id
  refine ⟨⟨u, hc⟩, ?_, fun hlt => ?_⟩
  · have hk := g.block b hb id
    simpa [World.frozen?, hk] using h2
  · rw [hc, ← h1]; exact h3 hlt
theorem Chg.setCellsNew {S : Nat → Prop} {a : World} {b : Nat} (hb : a.heap.size ≤ b) : ∀ (vs : List Value) (o : Nat) {w : World}, Chg S a w → Chg S a (w.setCells b o vs)
  | [], _, _, h => h
  | v :: r, o, _, h => Chg.setCellsNew hb r (o + 1) (h.setCell (.inr hb) v)
theorem Copying.done {w : World} {S : Nat → Prop} {b m n : Nat} {cs : List Value} (h : Copying w b m n n cs) (hS : S b) (hb : b < w.heap.size) (hl : cs.length = n * m) (hm : n ≤ 9223372036854775807) :
    Raw w S m (.slice (some ⟨b, 0, none⟩) n n) n cs :=
  ⟨hl, _, n, rfl, Nat.le_refl _, hm, fun _ => ⟨b, 0, rfl, hS, hb, fun t ht => by
    rw [Nat.zero_add]
    have := h t (by omega)
    exact ⟨(this.2.2 (by omega)).trans (List.getElem?_eq_getElem ht), this.2.1⟩⟩, by simp⟩
theorem Copying.start (w : World) (m n : Nat) (cs : List Value) (arr : Array Value) (e : TypeId) (hz : arr.size = n * m) : Copying (w.alloc (.cells arr e)) w.heap.size m n 0 cs := fun t ht =>
  ⟨⟨arr[t]'(by omega), by rw [cell_new]; exact Array.getElem?_eq_getElem (by omega)⟩, frozen_new _ _ _ _, fun h0 => by omega⟩
theorem szOps_ok (w : World) (S : Nat → Prop) (v : Value) (xs : List OpM) (k : Int) (hk : 0 ≤ k ∧ k ≤ 1048576) (hl : (xs.length : Int) ≤ k) (h : Ops w S v xs) :
    Calls Tryz.prog 5 #[v, .int .i64 k] w fun e w' => e = .returned (.int .i64 (k - xs.length)) ∧ w = w' := by
  obtain ⟨A, c, rfl, hlc, hcm, -⟩ := h.shape
  clear h
  have hd : decide (k - (xs.length : Int) < 0) = false := decide_eq_false (by omega)
  go_enter Tryz.func5, Tryz.ntmps5
  go_wp2
  go_ret
  exact ⟨rfl, rfl⟩
theorem szOps_no (w : World) (S : Nat → Prop) (v : Value) (xs : List OpM) (k : Int) (hk : 0 ≤ k ∧ k ≤ 1048576) (hl : k < (xs.length : Int)) (h : Ops w S v xs) :
    Calls Tryz.prog 5 #[v, .int .i64 k] w fun e w' => e = .returned (.int .i64 (-1)) ∧ w = w' := by
  obtain ⟨A, c, rfl, hlc, hcm, -⟩ := h.shape
  clear h
  have hd : decide (k - (xs.length : Int) < 0) = true := decide_eq_true (by omega)
  go_enter Tryz.func5, Tryz.ntmps5
  go_wp2
  go_ret
  exact ⟨rfl, rfl⟩
theorem toNeedle_any (w : World) (b a : Int) :
    Calls Tryz.prog 34 #[.agg #[.int .i64 b, .int .i64 a]] w fun e w' => e = .returned (.agg #[.int .i64 b, .int .i64 a]) ∧ ∃ o1 o2 o3, w' = ((w.alloc o1).alloc o2).alloc o3 := by
  go_enter Tryz.func34, Tryz.ntmps34
  go_wp2
  exact bodyPost_ret (v := .agg #[.int .i64 b, .int .i64 a]) (by simp [results, Tryz.results34, go_sem]) rfl ⟨rfl, _, _, _, rfl⟩
theorem toOp_any (w : World) (x : OpM) :
    Calls Tryz.prog 21 #[x.val] w fun e w' => e = .returned x.val ∧ Up w w' := by
  go_enter Tryz.func21, Tryz.ntmps21
  go_wp2_with fail
  refine (toNeedle_any _ x.fb x.fa).mono ?_
  rintro e w1 ⟨rfl, o1, o2, o3, rfl⟩
  go_wp2_with fail
  refine (toNeedle_any _ x.tb x.ta).mono ?_
  rintro e w1 ⟨rfl, o4, o5, o6, rfl⟩
  go_wp2
  exact bodyPost_ret (v := x.val) (by simp [results, Tryz.results21, go_sem]) rfl ⟨rfl, by repeat (first | exact Chg.refl _ _ | refine Chg.alloc ?_ _)⟩
theorem toOps (w : World) (S : Nat → Prop) (v : Value) (xs : List OpM) (hb : cntOps xs ≤ 8388608) (h : Ops w S v xs) :
    Calls Tryz.prog 7 #[v] w fun e w' => ∃ u, e = .returned u ∧ Ops w' (New w.heap.size w'.heap.size) u xs ∧ Up w w' := by
  unfold cntOps at hb
  obtain ⟨A, c, rfl, hlc, hcm, -⟩ := h.shape
  have H := Lib.hid h
  clear h
  obtain ⟨i0, hi, hz0, hz1, hz2⟩ := info_parts infoOp
  have hmk : ∀ u : World, (Instr.makeSlice 27 (.int .i64 (xs.length : Int)) (.int .i64 (xs.length : Int))).run Tryz.prog u =
      .ok (.slice (some ⟨u.heap.size, 0, none⟩) xs.length xs.length) (u.alloc (.cells (madeCells (OpM.mk 0 0 0 0 0 0 0 0).cells.toArray (xs.length * 8)) 44)) := fun u => by
    have h := run_make (P := Tryz.prog) u 27 44 i0 (OpM.mk 0 0 0 0 0 0 0 0).val Tryz.underlying27 hi hz0 .i64 .i64 (xs.length : Int) (xs.length : Int) (by omega) (Int.le_refl _) (by rw [hz2]; omega) (by omega)
    simpa [hz1, Value.cells, OpM.cells] using h
  go_enter Tryz.func7, Tryz.ntmps7
  go_wp2
  have Hi := Lib.hid hmk
  clear hmk hi hz0 hz1 hz2
  go_loopw [4] (fun i wr => ∃ j : Nat, j ≤ xs.length ∧ i = .int .i64 j ∧ Hid (Up w wr) ∧ w.heap.size < wr.heap.size ∧
      Hid (Copying wr w.heap.size 8 xs.length j (xs.flatMap OpM.cells))) (fun i _ => xs.length - (intOf i).toNat)
  case atStart => exact ⟨0, by omega, rfl, (Chg.refl _ _).alloc _, by simp, Copying.start _ _ _ _ _ _ (by simp [size_madeCells])⟩
  case round =>
    obtain ⟨j, hj, rfl, hg, hsz, hcs⟩ := hrel
    by_cases hlt : j < xs.length
    · obtain ⟨b, o, c', he, -, hbl, hc⟩ := (H.out.up hg.out).at_ hlt
      obtain ⟨rfl, rfl⟩ : A = some ⟨b, o, none⟩ ∧ c = c' := by simpa using he
      have f0 := (hc 0 _ rfl).1
      have f1 := (hc 1 _ rfl).1
      have f2 := (hc 2 _ rfl).1
      have f3 := (hc 3 _ rfl).1
      have f4 := (hc 4 _ rfl).1
      have f5 := (hc 5 _ rfl).1
      have f6 := (hc 6 _ rfl).1
      have f7 := (hc 7 _ rfl).1
      rw [Nat.add_zero] at f0
      clear hc he
      go_wp2_with fail
      refine (toOp_any _ xs[j]).mono ?_
      rintro e w2 ⟨rfl, g2⟩
      have hcs := Lib.hid (Copying.up hcs.out g2)
      have hg := Lib.hid (Chg.trans hg.out g2)
      have hsz := Nat.lt_of_lt_of_le hsz g2.size
      clear g2
      obtain ⟨u0, c0, q0⟩ := hcs.out.cell hlt 0 (by omega)
      obtain ⟨u1, c1, q1⟩ := hcs.out.cell hlt 1 (by omega)
      obtain ⟨u2, c2, q2⟩ := hcs.out.cell hlt 2 (by omega)
      obtain ⟨u3, c3, q3⟩ := hcs.out.cell hlt 3 (by omega)
      obtain ⟨u4, c4, q4⟩ := hcs.out.cell hlt 4 (by omega)
      obtain ⟨u5, c5, q5⟩ := hcs.out.cell hlt 5 (by omega)
      obtain ⟨u6, c6, q6⟩ := hcs.out.cell hlt 6 (by omega)
      obtain ⟨u7, c7, q7⟩ := hcs.out.cell hlt 7 (by omega)
      rw [Nat.add_zero] at c0 q0
      go_wp2
      go_roundw
      case rel =>
        refine ⟨j + 1, by omega, by go_num, Chg.setCellsNew (Nat.le_refl _) xs[j].cells (j * 8) hg.out, ?_, Copying.next hcs.out hlt (vs := xs[j].cells) rfl (fun i hi => ?_)⟩
        · simpa [World.setCell] using hsz
        · rw [flat_get OpM.cells 8 OpM.cells_length xs j hlt i hi]
          exact List.getElem?_eq_getElem hi
      case measure => simp [intOf]; omega
    · obtain rfl : j = xs.length := by omega
      go_wp2
      go_ret
      exact ⟨_, rfl, ⟨Copying.done hcs.out ⟨Nat.le_refl _, hsz⟩ hsz (flat_length OpM.cells 8 OpM.cells_length xs) (by omega), H.out.2⟩, hg.out⟩
end Go.Proofs.YtiiodfcbpmkodaaGreat
