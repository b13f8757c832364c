/- Numbers of operations of all kinds, on both sides. No condition but room. -/
import Derived.Test.YtmimbnpcokfnlaaValid3
namespace Go.Proofs.Ytmimbnpcokfnlaa
open Go.ChangeShapes Go.WideShapes Go.ChangeAt Go.RowKit
def cntK (xs : List OpM) (k : Int) : Int := ((xs.filter fun x => x.kind == k).length : Int)
def countsM (xs : List OpM) : List Int := (List.range 9).map fun t : Nat => cntK xs ((t : Int) + 1)
def validsB (xs : List OpM) : Bool := xs.all validB
def countsCode (xs : List OpM) : Int := if validsB xs = true then 0 else 1
def countsOut (xs : List OpM) : List Int := if validsB xs = true then countsM xs else []
theorem cntK_take {xs : List OpM} {j : Nat} (h : j < xs.length) (k : Int) : cntK (xs.take (j + 1)) k = cntK (xs.take j) k + if xs[j].kind = k then 1 else 0 := by
  unfold cntK
  rw [List.take_succ_eq_append_getElem h, List.filter_append, List.length_append]
  by_cases e : xs[j].kind = k <;> simp [e]
theorem cntK_bd (xs : List OpM) (k : Int) : 0 ≤ cntK xs k ∧ cntK xs k ≤ xs.length := by
  unfold cntK
  have := List.length_filter_le (fun x : OpM => x.kind == k) xs
  omega
theorem validB_kind {x : OpM} (h : validB x = true) : 1 ≤ x.kind ∧ x.kind ≤ 9 := by
  rcases Int.lt_or_le x.kind 1 with h1 | h1
  · exfalso; simp [validB, show ¬ x.kind = 1 by omega, show ¬ x.kind = 2 by omega, show ¬ x.kind = 3 by omega, show ¬ x.kind = 4 by omega, show ¬ x.kind = 5 by omega, show ¬ x.kind = 6 by omega, show ¬ x.kind = 7 by omega, show ¬ x.kind = 8 by omega, show ¬ x.kind = 9 by omega] at h
  · refine ⟨h1, ?_⟩
    rcases Int.lt_or_le 9 x.kind with h2 | h2
    · exfalso; simp [validB, show ¬ x.kind = 1 by omega, show ¬ x.kind = 2 by omega, show ¬ x.kind = 3 by omega, show ¬ x.kind = 4 by omega, show ¬ x.kind = 5 by omega, show ¬ x.kind = 6 by omega, show ¬ x.kind = 7 by omega, show ¬ x.kind = 8 by omega, show ¬ x.kind = 9 by omega] at h
    · exact h2
theorem validsB_take {xs : List OpM} {j : Nat} (h : j < xs.length) : validsB (xs.take (j + 1)) = (validsB (xs.take j) && validB xs[j]) := by
  unfold validsB
  rw [List.take_succ_eq_append_getElem h, List.all_append]
  simp
theorem validsB_no {xs : List OpM} {j : Nat} (h : j < xs.length) (hv : validB xs[j] = false) : validsB xs = false := by
  cases hx : validsB xs with
  | false => rfl
  | true =>
    have := List.all_eq_true.1 hx xs[j] (List.getElem_mem h)
    rw [hv] at this
    cases this
theorem countsM_length (xs : List OpM) : (countsM xs).length = 9 := by simp [countsM]
/-- the nine cells behind j operations -/
def Cnt9 (w : World) (g : Nat) (ys : List OpM) : Prop := g < w.heap.size ∧ ∀ t : Nat, t < 9 → w.cell? ⟨g, t, none⟩ = some (.int .i64 (cntK ys ((t : Int) + 1))) ∧ w.frozen? ⟨g, t, none⟩ = false
theorem Cnt9.up {w w' : World} {g : Nat} {ys : List OpM} (h : Cnt9 w g ys) (k : Up w w') : Cnt9 w' g ys :=
  ⟨Nat.lt_of_lt_of_le h.1 k.size, fun t ht => ⟨Chg.cell k (h.2 t ht).1 id, (Chg.frozen k (h.2 t ht).1 id).trans (h.2 t ht).2⟩⟩
theorem Cnt9.made (w : World) : Cnt9 (w.alloc (.cells (madeCells #[.int .i64 0] 9) 2)) w.heap.size [] :=
  ⟨by simp, fun t ht => ⟨by rw [cell_new, madeInts_get _ _ ht]; rfl, frozen_new _ _ _ _⟩⟩
theorem Cnt9.step {w : World} {g : Nat} {xs : List OpM} {j k : Nat} (h : Cnt9 w g (xs.take j)) (hj : j < xs.length) (hk : xs[j].kind = (k : Int) + 1) (hk9 : k < 9) :
    Cnt9 (w.setCell ⟨g, k, none⟩ (.int .i64 (cntK (xs.take j) ((k : Int) + 1) + 1))) g (xs.take (j + 1)) := by
  refine ⟨by simpa [World.setCell] using h.1, fun t ht => ?_⟩
  obtain ⟨h1, h2⟩ := h.2 t ht
  refine ⟨?_, by simpa using h2⟩
  rw [cntK_take hj, hk]
  by_cases e : t = k
  · subst e
    rw [World.cell?_setCell_same _ _ _ h1, if_pos rfl]
  · rw [World.cell?_setCell_other _ _ _ _ (fun hh => e (by injection hh with _ hh _; exact hh.symm)), h1, if_neg (by omega), Int.add_zero]
theorem Cnt9.ints {w : World} {g lo : Nat} {xs : List OpM} (h : Cnt9 w g xs) (hlo : lo ≤ g) (hl : xs.length ≤ 1000000000) : Ints w (New lo w.heap.size) (.slice (some ⟨g, 0, none⟩) 9 9) (countsM xs) := by
  have e : (9 : Nat) = (countsM xs).length := (countsM_length xs).symm
  have h0 := Ints.of_cells (w := w) (S := New lo w.heap.size) (g := g) (c := 9) (xs := countsM xs) ⟨hlo, h.1⟩ h.1 (by rw [countsM_length]; exact Nat.le_refl _) (by omega) (fun x hx => by
    obtain ⟨t, _, rfl⟩ := List.mem_map.1 hx
    have := cntK_bd xs ((t : Int) + 1)
    unfold I64
    omega) (fun t ht => by
    have ht9 : t < 9 := by rwa [countsM_length] at ht
    obtain ⟨h1, h2⟩ := h.2 t ht9
    exact ⟨by rw [h1]; simp [countsM], h2⟩)
  rw [countsM_length] at h0
  exact h0
set_option maxRecDepth 100000 in
set_option maxHeartbeats 4000000 in
theorem sOpCounts_any (w : World) (S : Nat → Prop) (v : Value) (xs : List OpM) (h : Ops w S v xs) (hl : xs.length ≤ 1000000000) :
    Calls Try.prog 19 #[v] w fun e w' => ∃ v', e = .returned (.tuple #[v', .int .i64 (countsCode xs)]) ∧ Ints w' (New w.heap.size w'.heap.size) v' (countsOut xs) ∧ Up w w' := by
  obtain ⟨A, c, rfl, hlc, hcm, -⟩ := h.1.shape
  obtain ⟨i0, hi, hz0, hz1, hz2⟩ := info_parts info2
  have hmk : ∀ u : World, (Instr.makeSlice 22 (.int .i64 9) (.int .i64 9)).run Try.prog u =
      .ok (.slice (some ⟨u.heap.size, 0, none⟩) 9 9) (u.alloc (.cells (madeCells #[.int .i64 0] 9) 2)) := fun u => by
    have h := run_make (P := Try.prog) u 22 2 i0 (.int .i64 0) Try.underlying22 hi hz0 .i64 .i64 9 9 (by omega) (Int.le_refl _) (by rw [hz2]; omega) (by omega)
    simpa [hz1, Value.cells] using h
  clear hi hz0 hz1 hz2
  have H := Lib.hid h
  clear h
  go_enter Try.func19, Try.ntmps19
  go_wp2
  have HM := Lib.hid hmk
  clear hmk
  go_loopw [5] (fun i wr => ∃ j : Nat, j ≤ xs.length ∧ i = .int .i64 j ∧ Hid (Cnt9 wr w.heap.size (xs.take j)) ∧ Hid (Up w wr) ∧ Hid (validsB (xs.take j) = true)) (fun i _ => xs.length - (intOf i).toNat)
  case atStart => exact ⟨0, by omega, rfl, Cnt9.made w, (Chg.refl _ _).alloc _, rfl⟩
  case round =>
    obtain ⟨j, hj, rfl, hc9, hg, hva⟩ := hrel
    by_cases hlt : j < xs.length
    · obtain ⟨b0, o0, c0, he0, hS0, hat0⟩ := H.out.opAt hlt
      obtain ⟨b, o, c', he, hS, hat⟩ := (Ops.up H.out hg.out).opAt hlt
      obtain ⟨rfl, rfl⟩ : b = b0 ∧ o = o0 := by have := he.symm.trans he0; simp at this; exact this.1
      obtain ⟨rfl, rfl⟩ : A = some ⟨b, o, none⟩ ∧ c = c' := by simpa using he
      have hbw : b < w.heap.size := hat0.1
      have HA := Lib.hid hat
      clear hat he he0 hat0
      cases hv : validB xs[j] with
      | false =>
        have HO := Lib.hid (validsB_no hlt hv)
        have HV := Lib.hid hv
        clear hv
        go_wp2_with fail
        refine (l07Op_any _ _ _ xs[j] HA.out).mono ?_
        rintro e w2 ⟨rfl, g2⟩
        rw [HV.out]
        have G2 := Lib.hid (Chg.trans hg.out g2)
        clear g2
        go_wp2
        go_ret2
        exact ⟨_, by unfold countsCode; rw [HO.out]; rfl, by unfold countsOut; rw [HO.out]; exact Ints.nil _ _ _ _ (by omega), G2.out⟩
      | true =>
        have HV := Lib.hid hv
        obtain ⟨k, hk⟩ : ∃ k : Nat, xs[j].kind = (k : Int) + 1 := ⟨(xs[j].kind - 1).toNat, by have := validB_kind hv; omega⟩
        have hk9 : k < 9 := by have := validB_kind hv; omega
        have hcb := cntK_bd (xs.take j) ((k : Int) + 1)
        have hjl : (xs.take j).length = j := by rw [List.length_take]; omega
        rw [hjl] at hcb
        have HK := Lib.hid hk
        clear hv hjl hk
        go_wp2_with fail
        refine (l07Op_any _ _ _ xs[j] HA.out).mono ?_
        rintro e w2 ⟨rfl, g2⟩
        rw [HV.out]
        have G2 := Lib.hid (Chg.trans hg.out g2)
        have C2 := Lib.hid (hc9.out.up g2)
        have f0 := (HA.out.up g2).2.1
        obtain ⟨f1, f2⟩ := C2.out.2 k hk9
        rw [HK.out] at f0
        have hne : b ≠ w.heap.size := by omega
        clear g2
        go_wp2
        go_roundw
        case rel =>
          refine ⟨j + 1, by omega, by go_num, C2.out.step hlt HK.out hk9, ?_, ?_⟩
          · exact Chg.setCell G2.out (.inr (Nat.le_refl _)) _
          · show validsB _ = true
            rw [validsB_take hlt, hva.out, HV.out]; rfl
        case measure => simp [intOf]; omega
    · obtain rfl : j = xs.length := by omega
      have HO := Lib.hid (show validsB xs = true by have := hva.out; rwa [List.take_length] at this)
      go_wp2
      go_ret2
      exact ⟨_, by unfold countsCode; rw [HO.out]; rfl, by unfold countsOut; rw [HO.out]; have := hc9.out; rw [List.take_length] at this; exact this.ints (Nat.le_refl _) hl, hg.out⟩
set_option maxRecDepth 100000 in
set_option maxHeartbeats 4000000 in
theorem OpCounts_any (w : World) (S : Nat → Prop) (v : Value) (xs : List OpM) (h : Ops w S v xs) (hl : xs.length ≤ 1000000000) :
    Calls Try.prog 21 #[v] w fun e w' => ∃ v', e = .returned (.tuple #[v', .int .i64 (countsCode xs)]) ∧ Ints w' (New w.heap.size w'.heap.size) v' (countsOut xs) ∧ Up w w' := by
  obtain ⟨A, c, rfl, hlc, hcm, -⟩ := h.1.shape
  obtain ⟨i0, hi, hz0, hz1, hz2⟩ := info_parts info2
  have hmk : ∀ u : World, (Instr.makeSlice 22 (.int .i64 9) (.int .i64 9)).run Try.prog u =
      .ok (.slice (some ⟨u.heap.size, 0, none⟩) 9 9) (u.alloc (.cells (madeCells #[.int .i64 0] 9) 2)) := fun u => by
    have h := run_make (P := Try.prog) u 22 2 i0 (.int .i64 0) Try.underlying22 hi hz0 .i64 .i64 9 9 (by omega) (Int.le_refl _) (by rw [hz2]; omega) (by omega)
    simpa [hz1, Value.cells] using h
  clear hi hz0 hz1 hz2
  have H := Lib.hid h
  clear h
  go_enter Try.func21, Try.ntmps21
  go_wp2
  have HM := Lib.hid hmk
  clear hmk
  go_loopw [10] (fun i wr => ∃ j : Nat, j ≤ xs.length ∧ i = .int .i64 j ∧ Hid (Cnt9 wr w.heap.size (xs.take j)) ∧ Hid (Up w wr) ∧ Hid (validsB (xs.take j) = true)) (fun i _ => xs.length - (intOf i).toNat)
  case atStart => exact ⟨0, by omega, rfl, Cnt9.made w, (Chg.refl _ _).alloc _, rfl⟩
  case round =>
    obtain ⟨j, hj, rfl, hc9, hg, hva⟩ := hrel
    by_cases hlt : j < xs.length
    · obtain ⟨b0, o0, c0, he0, hS0, hat0⟩ := H.out.opAt hlt
      obtain ⟨b, o, c', he, hS, hat⟩ := (Ops.up H.out hg.out).opAt hlt
      obtain ⟨rfl, rfl⟩ : b = b0 ∧ o = o0 := by have := he.symm.trans he0; simp at this; exact this.1
      obtain ⟨rfl, rfl⟩ : A = some ⟨b, o, none⟩ ∧ c = c' := by simpa using he
      have hbw : b < w.heap.size := hat0.1
      clear he he0 hat0
      obtain ⟨hbr, f0, f1, f2, f3, f4, f5, f6, f7⟩ := hat
      obtain ⟨x, hx⟩ : ∃ x, xs[j] = x := ⟨_, rfl⟩
      rw [hx] at f0 f1 f2 f3 f4 f5 f6 f7
      have HX := Lib.hid hx
      cases hv : validB x with
      | false =>
        have HO := Lib.hid (validsB_no hlt (by rw [HX.out]; exact hv))
        have HV := Lib.hid hv
        clear hv hx
        go_wp2_with fail
        refine (ValidOp_any _ x).mono ?_
        rintro e w2 ⟨rfl, g2⟩
        rw [HV.out]
        have G2 := Lib.hid (Chg.trans hg.out (Chg.trans (by repeat (first | exact Chg.refl _ _ | apply Chg.drew | apply Chg.drewN | refine Chg.alloc ?_ _)) g2))
        clear g2
        go_wp2
        go_ret2
        exact ⟨_, by unfold countsCode; rw [HO.out]; rfl, by unfold countsOut; rw [HO.out]; exact Ints.nil _ _ _ _ (by omega), G2.out⟩
      | true =>
        have HV := Lib.hid hv
        obtain ⟨k, hk⟩ : ∃ k : Nat, x.kind = (k : Int) + 1 := ⟨(x.kind - 1).toNat, by have := validB_kind hv; omega⟩
        have hk9 : k < 9 := by have := validB_kind hv; omega
        have hcb := cntK_bd (xs.take j) ((k : Int) + 1)
        have hjl : (xs.take j).length = j := by rw [List.length_take]; omega
        rw [hjl] at hcb
        have HK := Lib.hid hk
        clear hv hjl hk hx
        go_wp2_with fail
        refine (ValidOp_any _ x).mono ?_
        rintro e w2 ⟨rfl, g2⟩
        rw [HV.out]
        have G2 := Lib.hid (Chg.trans hg.out (Chg.trans (by repeat (first | exact Chg.refl _ _ | apply Chg.drew | apply Chg.drewN | refine Chg.alloc ?_ _)) g2))
        have C2 := Lib.hid (hc9.out.up (Chg.trans (by repeat (first | exact Chg.refl _ _ | apply Chg.drew | apply Chg.drewN | refine Chg.alloc ?_ _)) g2))
        have q0 := Chg.cell g2 (show World.cell? _ ⟨wr.heap.size, 0, none⟩ = some (.int .i64 x.kind) from cell_new _ _ _ _) id
        obtain ⟨f1, f2⟩ := C2.out.2 k hk9
        rw [HK.out] at q0
        have hne : wr.heap.size ≠ w.heap.size := by have := hc9.out.1; omega
        clear g2 f0 f1 f2 f3 f4 f5 f6 f7
        obtain ⟨f1, f2⟩ := C2.out.2 k hk9
        go_wp2
        go_roundw
        case rel =>
          refine ⟨j + 1, by omega, by go_num, C2.out.step hlt (by rw [HX.out]; exact HK.out) hk9, ?_, ?_⟩
          · exact Chg.setCell G2.out (.inr (Nat.le_refl _)) _
          · show validsB _ = true
            rw [validsB_take hlt, hva.out, HX.out, HV.out]; rfl
        case measure => simp [intOf]; omega
    · obtain rfl : j = xs.length := by omega
      have HO := Lib.hid (show validsB xs = true by have := hva.out; rwa [List.take_length] at this)
      go_wp2
      go_ret2
      exact ⟨_, by unfold countsCode; rw [HO.out]; rfl, by unfold countsOut; rw [HO.out]; have := hc9.out; rw [List.take_length] at this; exact this.ints (Nat.le_refl _) hl, hg.out⟩
end Go.Proofs.Ytmimbnpcokfnlaa
