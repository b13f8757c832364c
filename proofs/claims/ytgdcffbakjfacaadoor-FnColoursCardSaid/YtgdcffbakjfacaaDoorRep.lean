/- slices.Repeat of a single 1. Condition: at most eight. -/
import Derived.Test.YtgdcffbakjfacaaDoorShelfR6
import Derived.Test.YtgdcffbakjfacaaDoorFC4
import Derived.Laws.CopyOwn
import Derived.Deep.RegionLaw
set_option linter.unusedSimpArgs false
set_option linter.unusedVariables false
set_option maxRecDepth 100000
set_option maxHeartbeats 200000
namespace Go.Proofs.YtgdcffbakjfacaaDoor
open Go.ChangeShapes Go.WideShapes Go.ChangeAt Go.RowKit
theorem madeCells_list (n : Nat) : madeCells #[.int .i64 0] n = (List.replicate n (Value.int .i64 0)).toArray := by
  apply Array.ext_getElem?
  intro t
  by_cases h : t < n
  · rw [madeInts_get n t h]; simp [h]
  · simp [madeCells, h]
def oneZ (k n : Nat) : List Value := List.replicate k (.int .i64 1) ++ List.replicate (n - k) (.int .i64 0)
theorem oneZ_length {k n : Nat} (h : k ≤ n) : (oneZ k n).length = n := by simp [oneZ]; omega
theorem oneZ_splice {k n m : Nat} (h : k + m ≤ n) : Go.splice (oneZ k n) k (List.replicate m (.int .i64 1)) = oneZ (k + m) n := by
  have e1 : (oneZ k n).take k = List.replicate k (.int .i64 1) := by unfold oneZ; exact List.take_left' (by simp)
  have e2 : (oneZ k n).drop (k + m) = List.replicate (n - (k + m)) (.int .i64 0) := by
    unfold oneZ
    rw [← List.drop_drop, List.drop_left' (by simp), List.drop_replicate]
    congr 1
    omega
  unfold Go.splice
  rw [List.length_replicate, e1, e2, ← List.append_assoc]
  simp [oneZ, List.replicate_append_replicate]
theorem repeat_any (w : World) (S : Nat → Prop) (v : Value) (h : Ints w S v [1]) (n : Nat) (hn : 1 ≤ n ∧ n ≤ 8) :
    Calls Tryd.prog 53 #[v, .int .i64 n] w fun e w' => ∃ v', e = .returned v' ∧ Ints w' (New w.heap.size w'.heap.size) v' (List.replicate n 1) ∧ Up w w' := by
  obtain ⟨A, c, rfl, hlc, hcm, -⟩ := h.shape
  obtain ⟨b, o, rfl, hbl, hcell⟩ := h.ix (i := 0) (by simp)
  have f0 : w.cell? ⟨b, o, none⟩ = some (.int .i64 1) := by have := hcell 0 (by simp); simpa [ix] using this
  have F0 := Lib.hid f0
  have HBL := Lib.hid hbl
  obtain ⟨i0, hi, hz0, hz1, hz2⟩ := info_parts info2
  have hmk : ∀ u : World, (Instr.makeSlice 31 (.int .i64 (n : Int)) (.int .i64 (n : Int))).run Tryd.prog u =
      .ok (.slice (some ⟨u.heap.size, 0, none⟩) n n) (u.alloc (.cells (madeCells #[.int .i64 0] n) 2)) := fun u => by
    have h := run_make (P := Tryd.prog) u 31 2 i0 (.int .i64 0) Tryd.underlying31 hi hz0 .i64 .i64 (n : Int) (n : Int) (by omega) (Int.le_refl _) (by rw [hz2]; omega) (by omega)
    simpa [hz1, Value.cells] using h
  have hsz1 : (Tryd.prog.info? 2).map (·.size) = some 1 := by rw [hi]; simp [hz1]
  have HSZ := Lib.hid hsz1
  have y1 : IntKind.u64.wrap (n : Int) = n := by unfold IntKind.wrap; simp [IntKind.signed, IntKind.bits]; omega
  have y2 : IntKind.i64.wrap (n : Int) = n := IntWalk.i64_in _ (by omega)
  have y3 : decide ((9223372036854775807 : Int) < n) = false := decide_eq_false (by omega)
  have hm : ∀ w : World, Calls Tryd.prog 67 #[.int .u64 1, .int .u64 n] w fun e w' => e = .returned (.tuple #[.int .u64 0, .int .u64 n]) ∧ w = w' := fun w => by
    have h := Tryd.bits_Mul 1 n (by omega) (by omega) w
    rw [show (1 * n / 18446744073709551616 : Nat) = 0 by omega, show (1 * n % 18446744073709551616 : Nat) = n by omega] at h
    exact h.mono fun e w' ⟨h1, h2⟩ => ⟨h1, h2.symm⟩
  have HM := Lib.hid hm
  have HMK := Lib.hid hmk
  clear h hcell f0 hbl hm hi hz0 hz1 hz2 hsz1
  go_enter Tryd.func53, Tryd.ntmps53
  go_wp2_with fail
  refine (HM.out _).mono ?_
  rintro e w' ⟨rfl, rfl⟩
  clear hmk
  have hmk := HMK.out
  have HH : Hid ((w.alloc (.cells (madeCells #[.int .i64 0] n) 2)).heap[w.heap.size]? = some (.cells (oneZ 0 n).toArray 2 (0, 0))) := Lib.hid (by rw [heap_alloc_new, madeCells_list]; simp [oneZ])
  go_wp2_with (refine wpList_copy_splice rfl _ _ 31 31 rfl 2 Tryd.underlying31 HSZ.out _ _ _ _ _ _ rfl rfl w.heap.size 0 (oneZ 0 n) 2 HH.out [.int .i64 1] (Nat.min_eq_left hn.1).symm (fun _ => ⟨rfl, _, rfl, fun j q hq => by (cases j with | zero => (simp at hq; subst hq; exact Chg.cell ((Chg.refl Nowhere w).alloc _) F0.out id) | succ j => simp at hq)⟩) (by rw [oneZ_length (by omega)]; simp; omega) (by simp [Value.oneCell']) w.heap.size w ((Below.refl _ w).alloc (Nat.le_refl _) _) (Nat.le_refl _) ?_; intro w1 hh1 hb1)
  go_loopw [8] (fun m wr => ∃ k : Nat, 1 ≤ k ∧ k ≤ n ∧ m = .int .i64 k ∧ Hid (wr.heap[w.heap.size]? = some (.cells (oneZ k n).toArray 2 (0, 0))) ∧ Hid (Below w.heap.size w wr)) (fun m _ => n - (intOf m).toNat)
  case atStart => exact ⟨1, by omega, by omega, rfl, by have h := hh1; rw [show Go.splice (oneZ 0 n) 0 [Value.int .i64 1] = oneZ 1 n from oneZ_splice (k := 0) (m := 1) (by omega)] at h; exact h, hb1⟩
  case round =>
    obtain ⟨k, hk1, hk2, rfl, hh, hb⟩ := hrel
    by_cases hlt : k < n
    · have hne : ¬ n = k := by omega
      have hks : (k : Int) ≤ n := by omega
      have hz : w.heap.size < wr.heap.size := (Array.getElem?_eq_some_iff.1 hh.out).1
      obtain ⟨m, HMN⟩ : ∃ m : Nat, Hid (m = min k (n - k)) := ⟨_, Lib.hid rfl⟩
      have hm1 : 1 ≤ m ∧ k + m ≤ n ∧ m ≤ k := by have := HMN.out; omega
      have y5 : IntKind.i64.wrap ((k : Int) + m) = ((k + m : Nat) : Int) := (IntWalk.i64_in _ (by omega)).trans (by omega)
      have hcs : ∀ j q, (List.replicate m (Value.int .i64 1))[j]? = some q → wr.cell? ((⟨w.heap.size, 0, none⟩ : Addr).add j) = some q := fun j q hq => by
        obtain ⟨hj, he⟩ := List.getElem?_eq_some_iff.1 hq
        have hj : j < m := by simpa using hj
        rw [add_zero]
        have e : (oneZ k n)[j]? = some (.int .i64 1) := by unfold oneZ; rw [List.getElem?_append, if_pos (by rw [List.length_replicate]; omega), List.getElem?_replicate, if_pos (by omega)]
        simp [World.cell?, hh.out, e] at he ⊢
        exact he
      have HCS := Lib.hid hcs
      have HMQ : Hid ((List.replicate m (Value.int .i64 1)).length = Nat.min k (n - k)) := Lib.hid (List.length_replicate.trans HMN.out)
      have HF : Hid (k + (List.replicate m (Value.int .i64 1)).length ≤ (oneZ k n).length) := Lib.hid (by rw [oneZ_length hk2, List.length_replicate]; omega)
      have HO : Hid (∀ q ∈ List.replicate m (Value.int .i64 1), q.oneCell' = true) := Lib.hid (fun q hq => by rw [List.eq_of_mem_replicate hq]; rfl)
      clear hcs
      go_wp2
      go_region_law (refine step_copy_splice rfl (.tmp 41) (.tmp 44) 31 31 rfl 2 Tryd.underlying31 HSZ.out (some ⟨w.heap.size, k, none⟩) (some ⟨w.heap.size, 0, none⟩) (n - k) (n - k) k n (by simp [Act.eval, Act.put]) (by simp [Act.eval, Act.put]) w.heap.size k (oneZ k n) 2 hh.out (List.replicate m (.int .i64 1)) HMQ.out (fun _ => ⟨rfl, _, rfl, HCS.out⟩) HF.out HO.out w.heap.size w (RowKit.Below.drew hb.out) (Nat.le_refl _) ?_; intro w2 hh2 hb2)
      simp [Act.put, goInt, y5]
      go_wp2
      go_roundw
      case rel => exact ⟨k + m, by omega, by omega, by first | rfl | go_num, by have h := hh2; rw [oneZ_splice (by omega)] at h; exact h, hb2⟩
      case measure => first | (simp [intOf]; omega) | (simp [intOf, y5]; omega)
    · obtain rfl : k = n := by omega
      go_wp2
      go_ret
      refine ⟨_, rfl, ?_, Chg.of_below hb.out⟩
      have hz : w.heap.size < wr.heap.size := (Array.getElem?_eq_some_iff.1 hh.out).1
      have e : oneZ k k = List.replicate k (.int .i64 1) := by simp [oneZ]
      rw [e] at hh
      have h0 := Ints.of_cells (w := wr) (S := New w.heap.size wr.heap.size) (g := w.heap.size) (c := k) (xs := List.replicate k 1) ⟨Nat.le_refl _, hz⟩ hz (by simp) (by omega) (fun x hx => by rw [List.eq_of_mem_replicate hx]; unfold I64; omega) (fun t ht => by
        have ht : t < k := by simpa using ht
        exact ⟨by simp [World.cell?, hh.out, ht], by simp [World.frozen?, hh.out]⟩)
      rw [List.length_replicate] at h0
      exact h0
end Go.Proofs.YtgdcffbakjfacaaDoor
