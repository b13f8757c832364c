/- The laws' own copies of slices of events, and their sizes. No condition but room. -/
import Derived.Test.YtjgdcjhmfbefdaaCopy
import Derived.Test.YtjgdcjhmfbefdaaEvs
namespace Go.Proofs.Ytjgdcjhmfbefdaa
open Go.ChangeShapes Go.WideShapes Go.ChangeAt Go.RowKit
theorem szEvs_ok (w : World) (S : Nat → Prop) (v : Value) (xs : List EvM) (k : Int) (hk : 0 ≤ k ∧ k ≤ 1048576) (hl : (xs.length : Int) ≤ k) (h : Evs w S v xs) :
    Calls Try.prog 129 #[v, .int .i64 k] w fun e w' => e = .returned (.int .i64 (k - xs.length)) ∧ w = w' := by
  obtain ⟨A, c, rfl, hlc, hcm, -⟩ := h.shape
  clear h
  have hd : decide (k - (xs.length : Int) < 0) = false := decide_eq_false (by omega)
  go_enter Try.func129, Try.ntmps129
  go_wp2
  go_ret
  exact ⟨rfl, rfl⟩
theorem szEvs_no (w : World) (S : Nat → Prop) (v : Value) (xs : List EvM) (k : Int) (hk : 0 ≤ k ∧ k ≤ 1048576) (hl : k < (xs.length : Int)) (h : Evs w S v xs) :
    Calls Try.prog 129 #[v, .int .i64 k] w fun e w' => e = .returned (.int .i64 (-1)) ∧ w = w' := by
  obtain ⟨A, c, rfl, hlc, hcm, -⟩ := h.shape
  clear h
  have hd : decide (k - (xs.length : Int) < 0) = true := decide_eq_true (by omega)
  go_enter Try.func129, Try.ntmps129
  go_wp2
  go_ret
  exact ⟨rfl, rfl⟩
theorem toEvent_any (w : World) (x : EvM) :
    Calls Try.prog 196 #[x.val] w fun e w' => e = .returned x.val ∧ Up w w' := by
  go_enter Try.func196, Try.ntmps196
  go_wp2
  exact bodyPost_ret (v := x.val) (by simp [results, Try.results196, go_sem]) rfl ⟨rfl, by repeat (first | exact Chg.refl _ _ | refine Chg.alloc ?_ _)⟩
set_option maxRecDepth 100000 in
set_option maxHeartbeats 4000000 in
theorem toEvs (w : World) (S : Nat → Prop) (v : Value) (xs : List EvM) (hb : cntEvs xs ≤ 8388608) (h : Evs w S v xs) :
    Calls Try.prog 132 #[v] w fun e w' => ∃ u, e = .returned u ∧ Evs w' (New w.heap.size w'.heap.size) u xs ∧ Up w w' := by
  unfold cntEvs at hb
  obtain ⟨A, c, rfl, hlc, hcm, -⟩ := h.shape
  have H := Lib.hid h
  clear h
  obtain ⟨i0, hi, hz0, hz1, hz2⟩ := info_parts infoEvs
  have hmk : ∀ u : World, (Instr.makeSlice 49 (.int .i64 (xs.length : Int)) (.int .i64 (xs.length : Int))).run Try.prog u =
      .ok (.slice (some ⟨u.heap.size, 0, none⟩) xs.length xs.length) (u.alloc (.cells (madeCells (EvM.mk 0 0 0 0 0 0).cells.toArray (xs.length * 6)) 106)) := fun u => by
    have h := run_make (P := Try.prog) u 49 106 i0 (EvM.mk 0 0 0 0 0 0).val Try.underlying49 hi hz0 .i64 .i64 (xs.length : Int) (xs.length : Int) (by omega) (Int.le_refl _) (by rw [hz2]; omega) (by omega)
    simpa [hz1, Value.cells, EvM.cells] using h
  go_enter Try.func132, Try.ntmps132
  go_wp2
  have Hi := Lib.hid hmk
  clear hmk hi hz0 hz1 hz2
  go_loopw [4] (fun i wr => ∃ j : Nat, j ≤ xs.length ∧ i = .int .i64 j ∧ Hid (Up w wr) ∧ w.heap.size < wr.heap.size ∧
      Hid (Copying wr w.heap.size 6 xs.length j (xs.flatMap EvM.cells))) (fun i _ => xs.length - (intOf i).toNat)
  case atStart => exact ⟨0, by omega, rfl, (Chg.refl _ _).alloc _, by simp, Copying.start _ _ _ _ _ _ (by simp [size_madeCells])⟩
  case round =>
    obtain ⟨j, hj, rfl, hg, hsz, hcs⟩ := hrel
    by_cases hlt : j < xs.length
    · obtain ⟨b, o, c', he, -, hbl, hc⟩ := (H.out.up hg.out).at_ hlt
      obtain ⟨rfl, rfl⟩ : A = some ⟨b, o, none⟩ ∧ c = c' := by simpa using he
      have f0 := (hc 0 _ rfl).1
      have f1 := (hc 1 _ rfl).1
      have f2 := (hc 2 _ rfl).1
      have f3 := (hc 3 _ rfl).1
      have f4 := (hc 4 _ rfl).1
      have f5 := (hc 5 _ rfl).1
      rw [Nat.add_zero] at f0
      clear hc he
      go_wp2_with fail
      refine (toEvent_any _ xs[j]).mono ?_
      rintro e w2 ⟨rfl, g2⟩
      have hcs := Lib.hid (Copying.up hcs.out g2)
      have hg := Lib.hid (Chg.trans hg.out g2)
      have hsz := Nat.lt_of_lt_of_le hsz g2.size
      clear g2
      obtain ⟨u0, c0, q0⟩ := hcs.out.cell hlt 0 (by omega)
      obtain ⟨u1, c1, q1⟩ := hcs.out.cell hlt 1 (by omega)
      obtain ⟨u2, c2, q2⟩ := hcs.out.cell hlt 2 (by omega)
      obtain ⟨u3, c3, q3⟩ := hcs.out.cell hlt 3 (by omega)
      obtain ⟨u4, c4, q4⟩ := hcs.out.cell hlt 4 (by omega)
      obtain ⟨u5, c5, q5⟩ := hcs.out.cell hlt 5 (by omega)
      rw [Nat.add_zero] at c0 q0
      go_wp2
      go_roundw
      case rel =>
        refine ⟨j + 1, by omega, by go_num, Chg.setCellsNew (Nat.le_refl _) xs[j].cells (j * 6) hg.out, ?_, Copying.next hcs.out hlt (vs := xs[j].cells) rfl (fun i hi => ?_)⟩
        · simpa [World.setCell] using hsz
        · rw [flat_get EvM.cells 6 EvM.cells_length xs j hlt i hi]
          exact List.getElem?_eq_getElem hi
      case measure => simp [intOf]; omega
    · obtain rfl : j = xs.length := by omega
      go_wp2
      go_ret
      exact ⟨_, rfl, ⟨Copying.done hcs.out ⟨Nat.le_refl _, hsz⟩ hsz (flat_length EvM.cells 6 EvM.cells_length xs) (by omega), H.out.2⟩, hg.out⟩
end Go.Proofs.Ytjgdcjhmfbefdaa
