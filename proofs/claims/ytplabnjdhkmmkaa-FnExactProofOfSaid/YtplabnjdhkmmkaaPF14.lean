/- The blocks of events, on both sides. No condition. A fabric's proof under construction: a row of normal forms, each in a stretch of blocks of its own; a row of lists of events. No condition. What the blocks of valid events are like; the proof's forms and stitches. No condition. -/
import Derived.Test.YtplabnjdhkmmkaaBlS
section
set_option maxRecDepth 100000
set_option maxHeartbeats 4000000
set_option linter.unusedSimpArgs false
set_option linter.unusedVariables false
namespace Go.Proofs.Ytplabnjdhkmmkaa
open Go.ChangeShapes Go.WideShapes Go.ChangeAt Go.RowKit
/-- valid events -/
def okE (xs : List EvM) : Bool := (stM xs 0).isSome && decide (xs.length ≤ 2000)
theorem okE_len {xs : List EvM} (h : okE xs = true) : xs.length ≤ 2000 := by
  unfold okE at h
  rw [Bool.and_eq_true] at h
  exact of_decide_eq_true h.2
/-- what BlocksOf answers -/
def BlkAll (w w' : World) (e : Ending) (xs : List EvM) : Prop := if okE xs = true then BlkRes w w' e (blkR xs 0 [] [⟨0, [], []⟩]) else e = .returned (.tuple #[.slice none 0 0, .int .i64 1])
theorem ValidEvents_any (w : World) (S : Nat → Prop) (vx : Value) (xs : List EvM) (h : Evs w S vx xs) (hl : xs.length ≤ 2000000) :
    Calls Try.prog 77 #[vx] w fun e w' => e = .returned (.bool (okE xs)) ∧ Up w w' := by
  obtain ⟨Ax, cx, rfl, -, -, -⟩ := h.shape
  have H := Lib.hid h
  clear h
  obtain ⟨ob, hob⟩ : ∃ z, z = okE xs := ⟨_, rfl⟩
  rw [← hob]
  have HOB := Lib.hid hob
  clear hob
  cases hs : stM xs 0 with
  | none =>
    have HS := Lib.hid hs
    have HO : Hid (ob = false) := Lib.hid (by rw [HOB.out]; unfold okE; rw [hs]; rfl)
    clear hs
    go_enter Try.func77, Try.ntmps77
    go_wp2_with fail
    refine (strandsAfter_any _ S _ xs 0 (by omega) (H.out.up (by repeat (first | exact Chg.refl _ _ | apply Chg.drew | apply Chg.drewN | refine Chg.alloc ?_ _)))).mono ?_
    rintro e w1 ⟨rfl, g1⟩
    rw [HS.out]
    have G1 := Lib.hid (show Up w w1 from Chg.trans (by repeat (first | exact Chg.refl _ _ | apply Chg.drew | apply Chg.drewN | refine Chg.alloc ?_ _)) g1)
    clear g1
    simp only [stV]
    go_wp2
    go_ret
    exact ⟨by rw [HO.out]; rfl, Chg.trans G1.out (by repeat (first | exact Chg.refl _ _ | apply Chg.drew | apply Chg.drewN | refine Chg.alloc ?_ _))⟩
  | some m =>
    have HS := Lib.hid hs
    have HO : Hid (ob = decide (xs.length ≤ 2000)) := Lib.hid (by rw [HOB.out]; unfold okE; rw [hs]; simp)
    have hcd : decide ((xs.length : Int) ≤ 2000) = decide (xs.length ≤ 2000) := by by_cases e : xs.length ≤ 2000 <;> simp [e] <;> omega
    clear hs
    go_enter Try.func77, Try.ntmps77
    go_wp2_with fail
    refine (strandsAfter_any _ S _ xs 0 (by omega) (H.out.up (by repeat (first | exact Chg.refl _ _ | apply Chg.drew | apply Chg.drewN | refine Chg.alloc ?_ _)))).mono ?_
    rintro e w1 ⟨rfl, g1⟩
    rw [HS.out]
    have G1 := Lib.hid (show Up w w1 from Chg.trans (by repeat (first | exact Chg.refl _ _ | apply Chg.drew | apply Chg.drewN | refine Chg.alloc ?_ _)) g1)
    clear g1
    simp only [stV]
    go_wp2
    go_ret
    exact ⟨by rw [HO.out]; rfl, Chg.trans G1.out (by repeat (first | exact Chg.refl _ _ | apply Chg.drew | apply Chg.drewN | refine Chg.alloc ?_ _))⟩
theorem l10Count_any (w : World) (S : Nat → Prop) (vx : Value) (xs : List EvM) (h : Evs w S vx xs) (hl : xs.length ≤ 2000000) :
    Calls Try.prog 74 #[vx] w fun e w' => (∃ m : Int, e = .returned (.tuple #[.int .i64 m, .bool (okE xs)])) ∧ Up w w' := by
  obtain ⟨Ax, cx, rfl, -, -, -⟩ := h.shape
  have H := Lib.hid h
  clear h
  obtain ⟨ob, hob⟩ : ∃ z, z = okE xs := ⟨_, rfl⟩
  rw [← hob]
  have HOB := Lib.hid hob
  clear hob
  go_enter Try.func74, Try.ntmps74
  go_wp2_with fail
  go_loopw [4, 5] (fun s i wr => ∃ (j : Nat) (m : Int), j ≤ xs.length ∧ i = .int .i64 j ∧ s = .int .i64 m ∧ Hid (stM (xs.take j) 0 = some m) ∧ Hid (0 ≤ m ∧ m ≤ 12) ∧ Hid (Up w wr)) (fun _ i _ => xs.length - (intOf i).toNat)
  case atStart => exact ⟨0, 0, by omega, rfl, rfl, Lib.hid rfl, Lib.hid (by omega), Lib.hid (Chg.refl _ _)⟩
  case round =>
    obtain ⟨j, m, hj, rfl, rfl, hs, hm, hu⟩ := hrel
    by_cases hlt : j < xs.length
    rotate_left
    · obtain rfl : j = xs.length := by omega
      have HB := Lib.hid (stM_all hs.out)
      have HO : Hid (ob = decide (xs.length ≤ 2000)) := Lib.hid (by rw [HOB.out]; unfold okE; rw [HB.out]; simp)
      have hcd : decide ((xs.length : Int) ≤ 2000) = decide (xs.length ≤ 2000) := by by_cases e : xs.length ≤ 2000 <;> simp [e] <;> omega
      have htd : decide ((xs.length : Int) < (xs.length : Int)) = false := decide_eq_false (by omega)
      go_wp2
      go_ret2
      exact ⟨⟨m, by rw [HO.out]; rfl⟩, Chg.trans hu.out (by repeat (first | exact Chg.refl _ _ | apply Chg.drew | apply Chg.drewN | refine Chg.alloc ?_ _))⟩
    obtain ⟨b1, o1, c1, hx1, -, -, hcells⟩ := (H.out.up hu.out).at_ hlt
    obtain ⟨x, hxe⟩ : ∃ x, x = xs[j] := ⟨_, rfl⟩
    have HXE := Lib.hid hxe
    rw [← hxe] at hcells
    have f0 := (hcells 0 _ rfl).1
    have f1 := (hcells 1 _ rfl).1
    have f2 := (hcells 2 _ rfl).1
    have f3 := (hcells 3 _ rfl).1
    have f4 := (hcells 4 _ rfl).1
    have f5 := (hcells 5 _ rfl).1
    rw [Nat.add_zero] at f0
    injection hx1 with hA hL hC
    obtain rfl := hA
    have hjl : (j : Int) < (xs.length : Int) := by omega
    have hj0 : (0 : Int) ≤ (j : Int) := by omega
    have hjt : decide ((j : Int) < (xs.length : Int)) = true := decide_eq_true hjl
    clear hL hC hcells hxe
    cases hk : evOk x m with
    | false =>
      have HB := Lib.hid (stM_stop hlt hs.out (stStep_no (HXE.out ▸ hk)))
      have HO : Hid (ob = false) := Lib.hid (by rw [HOB.out]; unfold okE; rw [HB.out]; rfl)
      have HK := Lib.hid hk
      clear hk
      go_wp2_with fail
      refine (l10Event_any _ b1 (o1 + j * 6) x.kind x.place x.count x.bed x.car x.dir m hm.out (Chg.cell (S := Nowhere) (by repeat (first | exact Chg.refl _ _ | apply Chg.drew | apply Chg.drewN | refine Chg.alloc ?_ _)) f0 id) (Chg.cell (S := Nowhere) (by repeat (first | exact Chg.refl _ _ | apply Chg.drew | apply Chg.drewN | refine Chg.alloc ?_ _)) f1 id) (Chg.cell (S := Nowhere) (by repeat (first | exact Chg.refl _ _ | apply Chg.drew | apply Chg.drewN | refine Chg.alloc ?_ _)) f2 id) (Chg.cell (S := Nowhere) (by repeat (first | exact Chg.refl _ _ | apply Chg.drew | apply Chg.drewN | refine Chg.alloc ?_ _)) f3 id) (Chg.cell (S := Nowhere) (by repeat (first | exact Chg.refl _ _ | apply Chg.drew | apply Chg.drewN | refine Chg.alloc ?_ _)) f4 id) (Chg.cell (S := Nowhere) (by repeat (first | exact Chg.refl _ _ | apply Chg.drew | apply Chg.drewN | refine Chg.alloc ?_ _)) f5 id)).mono ?_
      rintro e w1 ⟨m6, rfl, hm6, g1⟩
      have G1 := Lib.hid (show Up wr w1 from Chg.trans (by repeat (first | exact Chg.refl _ _ | apply Chg.drew | apply Chg.drewN | refine Chg.alloc ?_ _)) g1)
      clear g1 f0 f1 f2 f3 f4 f5
      rw [show decide (evP x.kind x.place x.count x.bed x.car x.dir m) = false from HK.out]
      clear hm6
      go_wp2
      go_ret2
      exact ⟨⟨0, by rw [HO.out]; rfl⟩, Chg.trans hu.out (Chg.trans G1.out (by repeat (first | exact Chg.refl _ _ | apply Chg.drew | apply Chg.drewN | refine Chg.alloc ?_ _)))⟩
    | true =>
      have HK := Lib.hid hk
      clear hk
      go_wp2_with fail
      refine (l10Event_any _ b1 (o1 + j * 6) x.kind x.place x.count x.bed x.car x.dir m hm.out (Chg.cell (S := Nowhere) (by repeat (first | exact Chg.refl _ _ | apply Chg.drew | apply Chg.drewN | refine Chg.alloc ?_ _)) f0 id) (Chg.cell (S := Nowhere) (by repeat (first | exact Chg.refl _ _ | apply Chg.drew | apply Chg.drewN | refine Chg.alloc ?_ _)) f1 id) (Chg.cell (S := Nowhere) (by repeat (first | exact Chg.refl _ _ | apply Chg.drew | apply Chg.drewN | refine Chg.alloc ?_ _)) f2 id) (Chg.cell (S := Nowhere) (by repeat (first | exact Chg.refl _ _ | apply Chg.drew | apply Chg.drewN | refine Chg.alloc ?_ _)) f3 id) (Chg.cell (S := Nowhere) (by repeat (first | exact Chg.refl _ _ | apply Chg.drew | apply Chg.drewN | refine Chg.alloc ?_ _)) f4 id) (Chg.cell (S := Nowhere) (by repeat (first | exact Chg.refl _ _ | apply Chg.drew | apply Chg.drewN | refine Chg.alloc ?_ _)) f5 id)).mono ?_
      rintro e w1 ⟨m6, rfl, hm6, g1⟩
      have G1 := Lib.hid (show Up wr w1 from Chg.trans (by repeat (first | exact Chg.refl _ _ | apply Chg.drew | apply Chg.drewN | refine Chg.alloc ?_ _)) g1)
      clear g1 f0 f1 f2 f3 f4 f5
      obtain rfl := hm6 HK.out
      rw [show decide (evP x.kind x.place x.count x.bed x.car x.dir m) = true from HK.out]
      have HBD := Lib.hid (evAfter_bd HK.out hm.out)
      clear hm6
      by_cases h12 : evAfter x.kind x.count m ≤ 12
      · have HS := Lib.hid (show stM (xs.take (j + 1)) 0 = some (evAfter x.kind x.count m) by rw [stM_succ hlt, hs.out, ← HXE.out]; exact stStep_yes HK.out h12)
        obtain ⟨q, hq⟩ : ∃ q, q = evAfter x.kind x.count m := ⟨_, rfl⟩
        rw [← hq] at h12 HS HBD ⊢
        have hq12 : decide (q > 12) = false := decide_eq_false (by omega)
        clear hq
        go_wp2
        go_roundw
        case rel => exact ⟨j + 1, q, by omega, by go_num, rfl, HS, Lib.hid ⟨HBD.out, h12⟩, Lib.hid (Chg.trans hu.out (Chg.trans G1.out (by repeat (first | exact Chg.refl _ _ | apply Chg.drew | apply Chg.drewN | refine Chg.alloc ?_ _))))⟩
        case measure => first | (simp [intOf]; done) | (simp [intOf]; omega)
      · have HB := Lib.hid (stM_stop hlt hs.out (HXE.out ▸ stStep_big h12))
        have HO : Hid (ob = false) := Lib.hid (by rw [HOB.out]; unfold okE; rw [HB.out]; rfl)
        obtain ⟨q, hq⟩ : ∃ q, q = evAfter x.kind x.count m := ⟨_, rfl⟩
        rw [← hq] at h12 ⊢
        have hq12 : decide (q > 12) = true := decide_eq_true (by omega)
        clear hq
        go_wp2
        go_ret2
        exact ⟨⟨0, by rw [HO.out]; rfl⟩, Chg.trans hu.out (Chg.trans G1.out (by repeat (first | exact Chg.refl _ _ | apply Chg.drew | apply Chg.drewN | refine Chg.alloc ?_ _)))⟩
theorem BlocksOf_any (w : World) (S : Nat → Prop) (vx : Value) (xs : List EvM) (h : Evs w S vx xs) (hS : ∀ b, S b → b < w.heap.size) (hl : xs.length ≤ 2000000) :
    Calls Try.prog 45 #[vx] w fun e w' => ∃ w0, Up w w0 ∧ BlkAll w0 w' e xs ∧ Up w w' := by
  obtain ⟨Ax, cx, rfl, -, -, -⟩ := h.shape
  have H := Lib.hid h
  have HS := Lib.hid hS
  clear h hS
  cases hok : okE xs with
  | false =>
    have HOK := Lib.hid hok
    clear hok
    go_enter Try.func45, Try.ntmps45
    go_wp2_with fail
    refine (ValidEvents_any _ S _ xs (H.out.up (by repeat (first | exact Chg.refl _ _ | apply Chg.drew | apply Chg.drewN | refine Chg.alloc ?_ _))) hl).mono ?_
    rintro e w1 ⟨rfl, g1⟩
    rw [HOK.out]
    have G1 := Lib.hid (show Up w w1 from Chg.trans (by repeat (first | exact Chg.refl _ _ | apply Chg.drew | apply Chg.drewN | refine Chg.alloc ?_ _)) g1)
    clear g1
    go_wp2
    go_ret2
    exact ⟨w, Chg.refl _ _, by unfold BlkAll; rw [HOK.out]; rfl, Chg.trans G1.out (by repeat (first | exact Chg.refl _ _ | apply Chg.drew | apply Chg.drewN | refine Chg.alloc ?_ _))⟩
  | true =>
    obtain ⟨m, hm⟩ : ∃ m, stM xs 0 = some m := by unfold okE at hok; cases e : stM xs 0 with | none => (rw [e] at hok; cases hok) | some m => exact ⟨m, rfl⟩
    have HOK := Lib.hid hok
    have HM := Lib.hid hm
    clear hok hm
    go_enter Try.func45, Try.ntmps45
    go_wp2_with fail
    refine (ValidEvents_any _ S _ xs (H.out.up (by repeat (first | exact Chg.refl _ _ | apply Chg.drew | apply Chg.drewN | refine Chg.alloc ?_ _))) hl).mono ?_
    rintro e w1 ⟨rfl, g1⟩
    rw [HOK.out]
    have G1 := Lib.hid (show Up w w1 from Chg.trans (by repeat (first | exact Chg.refl _ _ | apply Chg.drew | apply Chg.drewN | refine Chg.alloc ?_ _)) g1)
    clear g1
    go_wp2_with fail
    refine (blocks_any _ S _ xs m (H.out.up (Chg.trans G1.out (by repeat (first | exact Chg.refl _ _ | apply Chg.drew | apply Chg.drewN | refine Chg.alloc ?_ _)))) (fun b hb => Nat.lt_of_lt_of_le (HS.out b hb) (Chg.size (S := Nowhere) (Chg.trans G1.out (by repeat (first | exact Chg.refl _ _ | apply Chg.drew | apply Chg.drewN | refine Chg.alloc ?_ _))))) HM.out (by have := okE_len HOK.out; omega)).mono ?_
    rintro e w2 ⟨hres, g2⟩
    have HRES := Lib.hid hres
    have G2 := Lib.hid g2
    clear hres g2
    cases hB : blkR xs 0 [] [⟨0, [], []⟩] with
    | none =>
      obtain rfl : e = .returned (.tuple #[.slice none 0 0, .int .i64 5]) := by have := HRES.out; rw [hB] at this; exact this
      have HB := Lib.hid hB
      clear hB
      go_wp2
      go_ret2
      exact ⟨w, Chg.refl _ _, by unfold BlkAll; rw [if_pos HOK.out, HB.out]; rfl, Chg.trans G1.out (Chg.trans (by repeat (first | exact Chg.refl _ _ | apply Chg.drew | apply Chg.drewN | refine Chg.alloc ?_ _)) (Chg.trans G2.out (by repeat (first | exact Chg.refl _ _ | apply Chg.drew | apply Chg.drewN | refine Chg.alloc ?_ _))))⟩
    | some bs =>
      obtain ⟨v, cs, q, Q, rfl, hbc⟩ := (show ∃ v cs q Q, e = .returned (.tuple #[v, .int .i64 0]) ∧ BCore w2 _ v bs cs q Q by have := HRES.out; rw [hB] at this; exact this)
      have HB := Lib.hid hB
      have HBC := Lib.hid hbc
      clear hB hbc
      go_wp2
      go_ret2
      exact ⟨_, Chg.trans G1.out (by repeat (first | exact Chg.refl _ _ | apply Chg.drew | apply Chg.drewN | refine Chg.alloc ?_ _)), by unfold BlkAll; rw [if_pos HOK.out, HB.out]; exact ⟨_, _, _, _, rfl, HBC.out.up (by repeat (first | exact Chg.refl _ _ | apply Chg.drew | apply Chg.drewN | refine Chg.alloc ?_ _))⟩, Chg.trans G1.out (Chg.trans (by repeat (first | exact Chg.refl _ _ | apply Chg.drew | apply Chg.drewN | refine Chg.alloc ?_ _)) (Chg.trans G2.out (by repeat (first | exact Chg.refl _ _ | apply Chg.drew | apply Chg.drewN | refine Chg.alloc ?_ _))))⟩
theorem sBlocksOf_any (w : World) (S : Nat → Prop) (vx : Value) (xs : List EvM) (h : Evs w S vx xs) (hS : ∀ b, S b → b < w.heap.size) (hl : xs.length ≤ 2000000) :
    Calls Try.prog 42 #[vx] w fun e w' => ∃ w0, Up w w0 ∧ BlkAll w0 w' e xs ∧ Up w w' := by
  obtain ⟨Ax, cx, rfl, -, -, -⟩ := h.shape
  have H := Lib.hid h
  have HS := Lib.hid hS
  clear h hS
  cases hok : okE xs with
  | false =>
    have HOK := Lib.hid hok
    clear hok
    go_enter Try.func42, Try.ntmps42
    go_wp2_with fail
    refine (l10Count_any _ S _ xs (H.out.up (by repeat (first | exact Chg.refl _ _ | apply Chg.drew | apply Chg.drewN | refine Chg.alloc ?_ _))) hl).mono ?_
    rintro e w1 ⟨⟨m0, rfl⟩, g1⟩
    rw [HOK.out]
    have G1 := Lib.hid (show Up w w1 from Chg.trans (by repeat (first | exact Chg.refl _ _ | apply Chg.drew | apply Chg.drewN | refine Chg.alloc ?_ _)) g1)
    clear g1
    go_wp2
    go_ret2
    exact ⟨w, Chg.refl _ _, by unfold BlkAll; rw [HOK.out]; rfl, Chg.trans G1.out (by repeat (first | exact Chg.refl _ _ | apply Chg.drew | apply Chg.drewN | refine Chg.alloc ?_ _))⟩
  | true =>
    obtain ⟨m, hm⟩ : ∃ m, stM xs 0 = some m := by unfold okE at hok; cases e : stM xs 0 with | none => (rw [e] at hok; cases hok) | some m => exact ⟨m, rfl⟩
    have HOK := Lib.hid hok
    have HM := Lib.hid hm
    clear hok hm
    go_enter Try.func42, Try.ntmps42
    go_wp2_with fail
    refine (l10Count_any _ S _ xs (H.out.up (by repeat (first | exact Chg.refl _ _ | apply Chg.drew | apply Chg.drewN | refine Chg.alloc ?_ _))) hl).mono ?_
    rintro e w1 ⟨⟨m0, rfl⟩, g1⟩
    rw [HOK.out]
    have G1 := Lib.hid (show Up w w1 from Chg.trans (by repeat (first | exact Chg.refl _ _ | apply Chg.drew | apply Chg.drewN | refine Chg.alloc ?_ _)) g1)
    clear g1
    go_wp2_with fail
    refine (l13Blocks_any _ S _ xs m (H.out.up (Chg.trans G1.out (by repeat (first | exact Chg.refl _ _ | apply Chg.drew | apply Chg.drewN | refine Chg.alloc ?_ _)))) (fun b hb => Nat.lt_of_lt_of_le (HS.out b hb) (Chg.size (S := Nowhere) (Chg.trans G1.out (by repeat (first | exact Chg.refl _ _ | apply Chg.drew | apply Chg.drewN | refine Chg.alloc ?_ _))))) HM.out (by have := okE_len HOK.out; omega)).mono ?_
    rintro e w2 ⟨hres, g2⟩
    have HRES := Lib.hid hres
    have G2 := Lib.hid g2
    clear hres g2
    cases hB : blkR xs 0 [] [⟨0, [], []⟩] with
    | none =>
      obtain rfl : e = .returned (.tuple #[.slice none 0 0, .int .i64 5]) := by have := HRES.out; rw [hB] at this; exact this
      have HB := Lib.hid hB
      clear hB
      go_wp2
      go_ret2
      exact ⟨w, Chg.refl _ _, by unfold BlkAll; rw [if_pos HOK.out, HB.out]; rfl, Chg.trans G1.out (Chg.trans (by repeat (first | exact Chg.refl _ _ | apply Chg.drew | apply Chg.drewN | refine Chg.alloc ?_ _)) (Chg.trans G2.out (by repeat (first | exact Chg.refl _ _ | apply Chg.drew | apply Chg.drewN | refine Chg.alloc ?_ _))))⟩
    | some bs =>
      obtain ⟨v, cs, q, Q, rfl, hbc⟩ := (show ∃ v cs q Q, e = .returned (.tuple #[v, .int .i64 0]) ∧ BCore w2 _ v bs cs q Q by have := HRES.out; rw [hB] at this; exact this)
      have HB := Lib.hid hB
      have HBC := Lib.hid hbc
      clear hB hbc
      go_wp2
      go_ret2
      exact ⟨_, Chg.trans G1.out (by repeat (first | exact Chg.refl _ _ | apply Chg.drew | apply Chg.drewN | refine Chg.alloc ?_ _)), by unfold BlkAll; rw [if_pos HOK.out, HB.out]; exact ⟨_, _, _, _, rfl, HBC.out.up (by repeat (first | exact Chg.refl _ _ | apply Chg.drew | apply Chg.drewN | refine Chg.alloc ?_ _))⟩, Chg.trans G1.out (Chg.trans (by repeat (first | exact Chg.refl _ _ | apply Chg.drew | apply Chg.drewN | refine Chg.alloc ?_ _)) (Chg.trans G2.out (by repeat (first | exact Chg.refl _ _ | apply Chg.drew | apply Chg.drewN | refine Chg.alloc ?_ _))))⟩
end Go.Proofs.Ytplabnjdhkmmkaa
end
section
set_option maxRecDepth 100000
set_option linter.unusedSimpArgs false
set_option linter.unusedVariables false
namespace Go.Proofs.Ytplabnjdhkmmkaa
open Go.ChangeShapes Go.WideShapes Go.ChangeAt Go.RowKit
structure NRow (w : World) (base : Nat) (v : Value) (fs : List NormM) (cs : List Value) (lo hi : Nat → Nat) : Prop where
  own : w.ownsRow base 100 3 v fs.length cs
  row : ∀ i (h : i < fs.length), ∃ A k, cs[i * 3]? = some (.int .i64 fs[i].n) ∧ cs[i * 3 + 1]? = some (.int .i64 fs[i].p) ∧ cs[i * 3 + 2]? = some (.slice A fs[i].fs.length k) ∧ FRow w (lo i) (hi i) (.slice A fs[i].fs.length k) fs[i].fs ∧ I64 fs[i].n ∧ I64 fs[i].p
  iv : ∀ i, i < fs.length → base ≤ lo i ∧ hi i ≤ w.heap.size ∧ ∀ b, v.ownBlock = some b → ¬ (lo i ≤ b ∧ b < hi i)
  dj : ∀ i j, i < j → j < fs.length → hi i ≤ lo j
/-- the blocks that the row and its forms lie in -/
def NK (v : Value) (n : Nat) (lo hi : Nat → Nat) (b : Nat) : Prop := v.ownBlock = some b ∨ ∃ i, i < n ∧ lo i ≤ b ∧ b < hi i
section
variable {S : Nat → Prop} {w w' : World} {base : Nat} {v : Value} {fs : List NormM} {cs : List Value} {lo hi : Nat → Nat}
theorem NRow.nil (w : World) (base : Nat) : NRow w base (.slice none 0 0) [] [] (fun _ => 0) (fun _ => 0) :=
  ⟨World.ownsRow_nil _ _ _ _, fun i h => by simp at h, fun i h => by simp at h, fun i j _ h => by simp at h⟩
theorem NRow.keep (h : NRow w base v fs cs lo hi) (g : Chg S w w') (hS : ∀ b, b < w.heap.size → NK v fs.length lo hi b → ¬ S b) : NRow w' base v fs cs lo hi := by
  refine ⟨ownsRow_kept h.own g (fun b hb => hS b (h.own.lt b hb).2 (.inl hb)), fun i hi' => ?_, fun i hi' => ⟨(h.iv i hi').1, Nat.le_trans (h.iv i hi').2.1 g.size, (h.iv i hi').2.2⟩, h.dj⟩
  obtain ⟨A, k, c0, c1, c2, f, n1, n2⟩ := h.row i hi'
  exact ⟨A, k, c0, c1, c2, f.keep g (fun b h1 h2 => hS b (Nat.lt_of_lt_of_le h2 (h.iv i hi').2.1) (.inr ⟨i, hi', h1, h2⟩)), n1, n2⟩
theorem NRow.up (h : NRow w base v fs cs lo hi) (g : Up w w') : NRow w' base v fs cs lo hi := h.keep g (fun _ _ _ h => h)
theorem NRow.lt (h : NRow w base v fs cs lo hi) {b : Nat} (hb : NK v fs.length lo hi b) : base ≤ b ∧ b < w.heap.size := by
  rcases hb with hb | ⟨i, hi', h1, h2⟩
  · exact h.own.lt b hb
  · have := h.iv i hi'
    omega
theorem NRow.val (h : NRow w base v fs cs lo hi) : ∃ A c, v = .slice A fs.length c ∧ fs.length ≤ c ∧ c ≤ 9223372036854775807 ∧ (A = none → c = 0) := by
  obtain ⟨-, A, c, h3, h4, h5, -, h6⟩ := Raw.of_own h.own
  exact ⟨A, c, h3, h4, h5, h6⟩
end
theorem infoNB : (Try.prog.info? 100).map (fun i => (i.zero, i.size, i.bytes)) = some (some (.agg #[.int .i64 0, .int .i64 0, .slice none 0 0]), 3, 40) := by kernel_rfl
/-- one normal form more is appended, at a step of a region that draws its order; the form lies in the stretch [l0, h0) that was made last -/
theorem step_append_norm {w : World} {ops : Array Oper} {o : Oper} {a : Act} {K : Act → World → Prop} {E : Prop} {Q : Exit → Act → World → Prop} (hgd : o.guard = none) (s x : Operand)
    (ho : o.op = .call { callee := .builtin .append, args := #[s, x], argTypes := #[54, 54] })
    (base : Nat) (v : Value) (fs : List NormM) (cs : List Value) (lo hi : Nat → Nat) (hs : a.eval s = v) (h : NRow w base v fs cs lo hi)
    (g : Nat) (y : NormM) (A : Option Addr) (c : Nat) (hx : a.eval x = .slice (some ⟨g, 0, none⟩) 1 1) (hc0 : w.cell? ⟨g, 0, none⟩ = some (.int .i64 y.n)) (hc1 : w.cell? ⟨g, 1, none⟩ = some (.int .i64 y.p)) (hc2 : w.cell? ⟨g, 2, none⟩ = some (.slice A y.fs.length c))
    (l0 h0 : Nat) (hf : FRow w l0 h0 (.slice A y.fs.length c) y.fs) (hy : I64 y.n ∧ I64 y.p) (hb : base ≤ l0 ∧ h0 ≤ w.heap.size) (hlast : ∀ i, i < fs.length → hi i ≤ l0) (hown : ∀ b, v.ownBlock = some b → ¬ (l0 ≤ b ∧ b < h0)) (hlen : fs.length ≤ 1000000) (hbase : base ≤ w.heap.size)
    (hh : ∀ v' w' cs', NRow w' base v' (fs ++ [y]) cs' (fun i => if i < fs.length then lo i else l0) (fun i => if i < fs.length then hi i else h0) → Chg (fun b => v.ownBlock = some b) w w' → (∀ b, v'.ownBlock = some b → v.ownBlock = some b ∨ w.heap.size ≤ b) → K (a.put o.dst v') w') :
    if Region.wanted o (yielded ops a.tmps) = true then Oper.wp Try.prog o a w K Q else E := by
  have hw : Region.wanted o (yielded ops a.tmps) = true := by simp [Region.wanted, hgd]
  rw [if_pos hw]
  obtain ⟨i0, hi0, hz0, hz1, hz2⟩ := info_parts infoNB
  have hcl : cs.length = fs.length * 3 := h.own.1
  refine wp_app_own2 (P := Try.prog) s x 54 ho base 100 i0 _ 3 40 Try.underlying54 hi0 hz0 hz1 hz2 rfl (by decide) v fs.length cs hs h.own ⟨g, 0, none⟩ 1 1 [.int .i64 y.n, .int .i64 y.p, .slice A y.fs.length c] hx rfl (fun k u hk => ?_) (fun u hu => ?_) (by unfold Go.maxLen; omega) (by omega) hbase (fun v' w' k1 k2 k3 => ?_)
  · match k with
    | 0 => simp only [List.getElem?_cons_zero, Option.some.injEq] at hk; subst hk; rw [add_zero]; exact hc0
    | 1 => simp only [List.getElem?_cons_succ, List.getElem?_cons_zero, Option.some.injEq] at hk; subst hk; exact hc1
    | 2 => simp only [List.getElem?_cons_succ, List.getElem?_cons_zero, Option.some.injEq] at hk; subst hk; exact hc2
    | k + 3 => simp at hk
  · simp at hu
    rcases hu with rfl | rfl | rfl <;> rfl
  · have hC := Chg.of_grown k2
    refine hh v' w' (cs ++ [.int .i64 y.n, .int .i64 y.p, .slice A y.fs.length c]) ⟨by simpa using k1, fun i hi' => ?_, fun i hi' => ?_, fun i j hij hj => ?_⟩ hC k3
    · by_cases he : i < fs.length
      · obtain ⟨A', k', c0, c1, c2, f, n1, n2⟩ := h.row i he
        rw [List.getElem_append_left he, if_pos he, if_pos he]
        exact ⟨A', k', by rw [List.getElem?_append_left (by omega)]; exact c0, by rw [List.getElem?_append_left (by omega)]; exact c1, by rw [List.getElem?_append_left (by omega)]; exact c2, f.keep hC (fun b h1 h2 e => (h.iv i he).2.2 b e ⟨h1, h2⟩), n1, n2⟩
      · have hi2 : i = fs.length := by simp at hi'; omega
        subst hi2
        rw [List.getElem_append_right (Nat.le_refl _), if_neg he, if_neg he]
        simp only [Nat.sub_self, List.getElem_cons_zero]
        exact ⟨A, c, by rw [List.getElem?_append_right (by omega), show fs.length * 3 - cs.length = 0 by omega]; rfl, by rw [List.getElem?_append_right (by omega), show fs.length * 3 + 1 - cs.length = 1 by omega]; rfl, by rw [List.getElem?_append_right (by omega), show fs.length * 3 + 2 - cs.length = 2 by omega]; rfl, hf.keep hC (fun b h1 h2 e => hown b e ⟨h1, h2⟩), hy⟩
    · by_cases he : i < fs.length
      · simp only [if_pos he]
        have h1 := h.iv i he
        exact ⟨h1.1, Nat.le_trans h1.2.1 hC.size, fun b hb2 e => (k3 b hb2).elim (fun h3 => h1.2.2 b h3 e) (fun h3 => by omega)⟩
      · simp only [if_neg he]
        exact ⟨hb.1, Nat.le_trans hb.2 hC.size, fun b hb2 e => (k3 b hb2).elim (fun h3 => hown b h3 e) (fun h3 => by omega)⟩
    · have hj2 : j < fs.length + 1 := by simpa using hj
      have hi2 : i < fs.length := by omega
      simp only [if_pos hi2]
      by_cases he : j < fs.length
      · rw [if_pos he]; exact h.dj i j hij he
      · rw [if_neg he]; exact hlast i hi2
/-- a row of lists of events, each in a block of its own -/
structure ERow (w : World) (base : Nat) (v : Value) (ss : List (List EvM)) (cs : List Value) (q : Nat → Option Nat) : Prop where
  own : w.ownsRow base 40 1 v ss.length cs
  row : ∀ i (h : i < ss.length), ∃ vs, cs[i]? = some vs ∧ OwnEvs w base vs ss[i] ∧ vs.ownBlock = q i
  qv : ∀ i b, i < ss.length → q i = some b → v.ownBlock ≠ some b
  qq : ∀ i j b, i < ss.length → j < ss.length → q i = some b → q j = some b → i = j
/-- the blocks that the row and its lists lie in -/
def EK (v : Value) (n : Nat) (q : Nat → Option Nat) (b : Nat) : Prop := v.ownBlock = some b ∨ ∃ i, i < n ∧ q i = some b
section
variable {S : Nat → Prop} {w w' : World} {base : Nat} {v : Value} {ss : List (List EvM)} {cs : List Value} {q : Nat → Option Nat}
theorem ERow.nil (w : World) (base : Nat) : ERow w base (.slice none 0 0) [] [] (fun _ => none) :=
  ⟨World.ownsRow_nil _ _ _ _, fun i h => by simp at h, fun i b h => by simp at h, fun i j b h => by simp at h⟩
theorem ERow.keep (h : ERow w base v ss cs q) (g : Chg S w w') (hS : ∀ b, b < w.heap.size → EK v ss.length q b → ¬ S b) : ERow w' base v ss cs q := by
  refine ⟨ownsRow_kept h.own g (fun b hb => hS b (h.own.lt b hb).2 (.inl hb)), fun i hi => ?_, h.qv, h.qq⟩
  obtain ⟨vs, c0, o1, hq⟩ := h.row i hi
  exact ⟨vs, c0, o1.kept g (fun b hb => hS b (o1.lt hb).2 (.inr ⟨i, hi, hq ▸ hb⟩)), hq⟩
theorem ERow.up (h : ERow w base v ss cs q) (g : Up w w') : ERow w' base v ss cs q := h.keep g (fun _ _ _ h => h)
theorem ERow.lt (h : ERow w base v ss cs q) {b : Nat} (hb : EK v ss.length q b) : base ≤ b ∧ b < w.heap.size := by
  rcases hb with hb | ⟨i, hi, hb⟩
  · exact h.own.lt b hb
  · obtain ⟨vs, -, o1, hq⟩ := h.row i hi
    exact o1.lt (hq.trans hb)
theorem ERow.val (h : ERow w base v ss cs q) : ∃ A c, v = .slice A ss.length c ∧ ss.length ≤ c ∧ c ≤ 9223372036854775807 ∧ (A = none → c = 0) := by
  obtain ⟨-, A, c, h3, h4, h5, -, h6⟩ := Raw.of_own h.own
  exact ⟨A, c, h3, h4, h5, h6⟩
end
theorem infoEvSl : (Try.prog.info? 40).map (fun i => (i.zero, i.size, i.bytes)) = some (some (.slice none 0 0), 1, 24) := by kernel_rfl
/-- one list more is appended, at a step of a region that draws its order -/
theorem step_append_evrow {w : World} {ops : Array Oper} {o : Oper} {a : Act} {K : Act → World → Prop} {E : Prop} {Q : Exit → Act → World → Prop} (hgd : o.guard = none) (s x : Operand)
    (ho : o.op = .call { callee := .builtin .append, args := #[s, x], argTypes := #[55, 55] })
    (base : Nat) (v : Value) (ss : List (List EvM)) (cs : List Value) (q : Nat → Option Nat) (hs : a.eval s = v) (h : ERow w base v ss cs q)
    (g : Nat) (y : List EvM) (A : Option Addr) (c : Nat) (hx : a.eval x = .slice (some ⟨g, 0, none⟩) 1 1) (hc0 : w.cell? ⟨g, 0, none⟩ = some (.slice A y.length c))
    (hf : OwnEvs w base (.slice A y.length c) y) (hn : ∀ b, (Value.slice A y.length c).ownBlock = some b → ¬ EK v ss.length q b) (hlen : ss.length ≤ 1000000) (hbase : base ≤ w.heap.size)
    (hh : ∀ v' w' cs', ERow w' base v' (ss ++ [y]) cs' (fun i => if i < ss.length then q i else (Value.slice A y.length c).ownBlock) → Chg (fun b => v.ownBlock = some b) w w' → (∀ b, v'.ownBlock = some b → v.ownBlock = some b ∨ w.heap.size ≤ b) → K (a.put o.dst v') w') :
    if Region.wanted o (yielded ops a.tmps) = true then Oper.wp Try.prog o a w K Q else E := by
  have hw : Region.wanted o (yielded ops a.tmps) = true := by simp [Region.wanted, hgd]
  rw [if_pos hw]
  obtain ⟨i0, hi0, hz0, hz1, hz2⟩ := info_parts infoEvSl
  have hcl : cs.length = ss.length * 1 := h.own.1
  refine wp_app_own2 (P := Try.prog) s x 55 ho base 40 i0 _ 1 24 Try.underlying55 hi0 hz0 hz1 hz2 rfl (by decide) v ss.length cs hs h.own ⟨g, 0, none⟩ 1 1 [.slice A y.length c] hx rfl (fun k u hk => ?_) (fun u hu => ?_) (by unfold Go.maxLen; omega) (by omega) hbase (fun v' w' k1 k2 k3 => ?_)
  · match k with
    | 0 => simp only [List.getElem?_cons_zero, Option.some.injEq] at hk; subst hk; rw [add_zero]; exact hc0
    | k + 1 => simp at hk
  · simp at hu
    subst hu
    rfl
  · have hC := Chg.of_grown k2
    refine hh v' w' (cs ++ [.slice A y.length c]) ⟨by simpa using k1, fun i hi' => ?_, fun i b hi' hq => ?_, fun i j b hi' hj' hq hq' => ?_⟩ hC k3
    · by_cases he : i < ss.length
      · obtain ⟨vs, c0, o1, hq⟩ := h.row i he
        rw [List.getElem_append_left he, if_pos he]
        exact ⟨vs, by rw [List.getElem?_append_left (by omega)]; exact c0, o1.kept hC (fun b hb e => h.qv i b he (hq.symm.trans hb) e), hq⟩
      · have hi2 : i = ss.length := by simp at hi'; omega
        subst hi2
        rw [List.getElem_append_right (Nat.le_refl _), if_neg he]
        simp only [Nat.sub_self, List.getElem_cons_zero]
        exact ⟨_, by rw [List.getElem?_append_right (by omega), show ss.length - cs.length = 0 by omega]; rfl, hf.kept hC (fun b hb e => hn b hb (.inl e)), rfl⟩
    · by_cases he : i < ss.length
      · rw [if_pos he] at hq
        exact fun e => (k3 b e).elim (h.qv i b he hq) (fun h2 => by have := (h.lt (.inr ⟨i, he, hq⟩)).2; omega)
      · rw [if_neg he] at hq
        exact fun e => (k3 b e).elim (fun e => hn b hq (.inl e)) (fun h2 => by have := (hf.lt hq).2; omega)
    · by_cases he : i < ss.length
      · rw [if_pos he] at hq
        by_cases he' : j < ss.length
        · rw [if_pos he'] at hq'
          exact h.qq i j b he he' hq hq'
        · rw [if_neg he'] at hq'
          exact (hn b hq' (.inr ⟨i, he, hq⟩)).elim
      · rw [if_neg he] at hq
        by_cases he' : j < ss.length
        · rw [if_pos he'] at hq'
          exact (hn b hq (.inr ⟨j, he', hq'⟩)).elim
        · simp at hi' hj'; omega
/-- one list more is appended -/
theorem wp_append_evrow {w : World} {ops : Array Oper} {rest : List Oper} {o : Oper} {a : Act} {Q : Exit → Act → World → Prop} (hgd : o.guard = none) (s x : Operand)
    (ho : o.op = .call { callee := .builtin .append, args := #[s, x], argTypes := #[55, 55] })
    (base : Nat) (v : Value) (ss : List (List EvM)) (cs : List Value) (q : Nat → Option Nat) (hs : a.eval s = v) (h : ERow w base v ss cs q)
    (g : Nat) (y : List EvM) (A : Option Addr) (c : Nat) (hx : a.eval x = .slice (some ⟨g, 0, none⟩) 1 1) (hc0 : w.cell? ⟨g, 0, none⟩ = some (.slice A y.length c))
    (hf : OwnEvs w base (.slice A y.length c) y) (hn : ∀ b, (Value.slice A y.length c).ownBlock = some b → ¬ EK v ss.length q b) (hlen : ss.length ≤ 1000000) (hbase : base ≤ w.heap.size)
    (hh : ∀ v' w' cs', ERow w' base v' (ss ++ [y]) cs' (fun i => if i < ss.length then q i else (Value.slice A y.length c).ownBlock) → Chg (fun b => v.ownBlock = some b) w w' → (∀ b, v'.ownBlock = some b → v.ownBlock = some b ∨ w.heap.size ≤ b) → wpList Try.prog ops Q rest (a.put o.dst v') w') : wpList Try.prog ops Q (o :: rest) a w := by
  obtain ⟨i0, hi0, hz0, hz1, hz2⟩ := info_parts infoEvSl
  have hcl : cs.length = ss.length * 1 := h.own.1
  refine wpList_append_own2 (P := Try.prog) hgd s x 55 ho base 40 i0 _ 1 24 Try.underlying55 hi0 hz0 hz1 hz2 rfl (by decide) v ss.length cs hs h.own ⟨g, 0, none⟩ 1 1 [.slice A y.length c] hx rfl (fun k u hk => ?_) (fun u hu => ?_) (by unfold Go.maxLen; omega) (by omega) hbase (fun v' w' k1 k2 k3 => ?_)
  · match k with
    | 0 => simp only [List.getElem?_cons_zero, Option.some.injEq] at hk; subst hk; rw [add_zero]; exact hc0
    | k + 1 => simp at hk
  · simp at hu
    subst hu
    rfl
  · have hC := Chg.of_grown k2
    refine hh v' w' (cs ++ [.slice A y.length c]) ⟨by simpa using k1, fun i hi' => ?_, fun i b hi' hq => ?_, fun i j b hi' hj' hq hq' => ?_⟩ hC k3
    · by_cases he : i < ss.length
      · obtain ⟨vs, c0, o1, hq⟩ := h.row i he
        rw [List.getElem_append_left he, if_pos he]
        exact ⟨vs, by rw [List.getElem?_append_left (by omega)]; exact c0, o1.kept hC (fun b hb e => h.qv i b he (hq.symm.trans hb) e), hq⟩
      · have hi2 : i = ss.length := by simp at hi'; omega
        subst hi2
        rw [List.getElem_append_right (Nat.le_refl _), if_neg he]
        simp only [Nat.sub_self, List.getElem_cons_zero]
        exact ⟨_, by rw [List.getElem?_append_right (by omega), show ss.length - cs.length = 0 by omega]; rfl, hf.kept hC (fun b hb e => hn b hb (.inl e)), rfl⟩
    · by_cases he : i < ss.length
      · rw [if_pos he] at hq
        exact fun e => (k3 b e).elim (h.qv i b he hq) (fun h2 => by have := (h.lt (.inr ⟨i, he, hq⟩)).2; omega)
      · rw [if_neg he] at hq
        exact fun e => (k3 b e).elim (fun e => hn b hq (.inl e)) (fun h2 => by have := (hf.lt hq).2; omega)
    · by_cases he : i < ss.length
      · rw [if_pos he] at hq
        by_cases he' : j < ss.length
        · rw [if_pos he'] at hq'
          exact h.qq i j b he he' hq hq'
        · rw [if_neg he'] at hq'
          exact (hn b hq' (.inr ⟨i, he, hq⟩)).elim
      · rw [if_neg he] at hq
        by_cases he' : j < ss.length
        · rw [if_pos he'] at hq'
          exact (hn b hq (.inr ⟨j, he', hq'⟩)).elim
        · simp at hi' hj'; omega
end Go.Proofs.Ytplabnjdhkmmkaa
end
section
set_option linter.unusedSimpArgs false
set_option linter.unusedVariables false
namespace Go.Proofs.Ytplabnjdhkmmkaa
open Go.ChangeShapes Go.WideShapes Go.ChangeAt Go.RowKit
/-- a block that fits -/
def okB (b : BlkM) : Prop := (0 ≤ b.n ∧ b.n ≤ 12) ∧ LettN b.n.toNat b.word ∧ b.word.length ≤ 40
theorem stM_cons {e : EvM} {es : List EvM} {n m : Int} (h : stM (e :: es) n = some m) : evOk e n = true ∧ evAfter e.kind e.count n ≤ 12 ∧ stM es (evAfter e.kind e.count n) = some m := by
  have h0 : List.foldl stStep (stStep (some n) e) es = some m := h
  by_cases h1 : evOk e n = true
  · by_cases h2 : evAfter e.kind e.count n ≤ 12
    · rw [stStep_yes h1 h2] at h0
      exact ⟨h1, h2, h0⟩
    · rw [stStep_big h2, stM_none] at h0; cases h0
  · rw [stStep_no (by simpa using h1), stM_none] at h0; cases h0
theorem okB_flush {n : Int} {word : List Int} {bs : List BlkM} (hn : 0 ≤ n ∧ n ≤ 12) (hw : LettN n.toNat word) (h40 : ¬ 40 < (redM word).length) (hb : ∀ b ∈ bs, okB b) : ∀ b ∈ flushM n word bs, okB b := by
  unfold flushM
  split
  · exact hb
  · intro b h
    rcases List.mem_append.1 h with h | h
    · exact hb b h
    · rw [List.mem_singleton.1 h]
      exact ⟨hn, hw.red, by simp only []; omega⟩
theorem okB_last {bs : List BlkM} {e : EvM} (hb : ∀ b ∈ bs, okB b) : ∀ b ∈ addLast bs e, okB b := by
  intro b h
  unfold addLast at h
  split at h
  · rcases List.mem_or_eq_of_mem_set h with h1 | h1
    · exact hb b h1
    · subst h1
      have h2 : okB (bs[bs.length - 1]'(by omega)) := hb _ (List.getElem_mem _)
      exact h2
  · exact hb b h
theorem blkM_ok : ∀ (es : List EvM) (n m : Int) (word : List Int) (bs r : List BlkM), stM es n = some m → (0 ≤ n ∧ n ≤ 12) → LettN n.toNat word → (∀ b ∈ bs, okB b) → blkM es n word bs = some r → ∀ b ∈ r, okB b
  | [], n, m, word, bs, r, _, hn, hw, hb, h => by
    unfold blkM at h
    split at h
    · cases h
    · rename_i h40
      injection h with h
      subst h
      exact okB_flush hn hw h40 hb
  | e :: es, n, m, word, bs, r, hs, hn, hw, hb, h => by
    obtain ⟨h1, h2, h3⟩ := stM_cons hs
    unfold blkM at h
    split at h
    · rename_i hk
      rw [evAfter_cross hk] at h3
      have hl := (evLet_ok h1 hk hn).1
      exact blkM_ok es n m _ bs r h3 hn (fun y hy => (List.mem_append.1 hy).elim (hw y) (fun hy => by rw [List.mem_singleton.1 hy]; exact hl)) hb h
    · split at h
      · cases h
      · rename_i h40
        exact blkM_ok es _ m [] _ r h3 ⟨evAfter_bd h1 hn, h2⟩ (fun y hy => by simp at hy) (okB_last (okB_flush hn hw h40 hb)) h
theorem blkR_ok {xs : List EvM} {m : Int} {r : List BlkM} (hv : stM xs 0 = some m) (h : blkR xs 0 [] [⟨0, [], []⟩] = some r) : (∀ b ∈ r, okB b) ∧ r.length ≤ 60 := by
  unfold blkR at h
  cases hb : blkM xs 0 [] [⟨0, [], []⟩] with
  | none => rw [hb] at h; cases h
  | some r' =>
    rw [hb] at h
    have h : (if 60 < r'.length then none else some r') = some r := h
    split at h
    · cases h
    · injection h with h
      subst h
      exact ⟨blkM_ok xs 0 m [] _ _ hv (by omega) (fun y hy => by simp at hy) (fun b hb => by rw [List.mem_singleton.1 hb]; exact ⟨by simp, fun y hy => by simp at hy, by simp⟩) hb, by omega⟩
/-- the forms and the stitches of a proof -/
noncomputable def formsM (bs : List BlkM) : List NormM := bs.map fun b => normM b.n.toNat b.word
def stsM (bs : List BlkM) : List (List EvM) := bs.map fun b => b.st
theorem formsM_take {bs : List BlkM} {j : Nat} (h : j < bs.length) : formsM (bs.take (j + 1)) = formsM (bs.take j) ++ [normM bs[j].n.toNat bs[j].word] := by
  unfold formsM
  rw [List.take_succ_eq_append_getElem h, List.map_append]; rfl
theorem stsM_take {bs : List BlkM} {j : Nat} (h : j < bs.length) : stsM (bs.take (j + 1)) = stsM (bs.take j) ++ [bs[j].st] := by
  unfold stsM
  rw [List.take_succ_eq_append_getElem h, List.map_append]; rfl
end Go.Proofs.Ytplabnjdhkmmkaa
end
