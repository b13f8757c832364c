/- The stacks that one stitch makes. No condition. -/
import Derived.Test.YtnjfhpgmogopnaaStk1
import Derived.Test.YtnjfhpgmogopnaaRep
import Derived.RegionTactic
set_option linter.unusedSimpArgs false
set_option linter.unusedVariables false
set_option maxRecDepth 100000
set_option maxHeartbeats 1000000
namespace Go.Proofs.Ytnjfhpgmogopnaa
open Go.ChangeShapes Go.WideShapes Go.ChangeAt Go.RowKit
/-- what a stitch makes of the stacks a, b that it takes first -/
def stepS (k a b : Int) : List Int := if k = 6 then [a + 1] else if k = 7 then [a] else List.replicate (madeK k).toNat 1
def okS (k a b : Int) : Bool := if k = 6 then decide (a < 4) else if k = 4 ∨ k = 5 then decide (a + b ≤ 4) else true
theorem lit1 (w : World) (x : Int) (hx : I64 x) (lo : Nat) (hlo : lo ≤ w.heap.size) : Ints (w.alloc (.cells #[.int .i64 x] 2)) (New lo (w.alloc (.cells #[.int .i64 x] 2)).heap.size) (.slice (some ⟨w.heap.size, 0, none⟩) 1 1) [x] :=
  Ints.of_cells (xs := [x]) ⟨hlo, by simp⟩ (by simp) (by simp) (by omega) (by simpa using hx) (fun t ht => by
    obtain rfl : t = 0 := by simp at ht; omega
    exact ⟨cell_new _ _ _ _, frozen_new _ _ _ _⟩)
theorem madeStacks_any (w : World) (S : Nat → Prop) (v : Value) (t : List Int) (h : Ints w S v t) (k : Int) (hk : kindB k = true) (ht : (t.length : Int) = takenK k) (hb : ∀ x ∈ t, 1 ≤ x ∧ x ≤ 4) :
    Calls Try.prog 253 #[.int .i64 k, v] w fun e w' => ∃ v', e = .returned (.tuple #[v', .bool (okS k (ix t 0) (ix t 1))]) ∧ Ints w' (New w.heap.size w'.heap.size) v' (stepS k (ix t 0) (ix t 1)) ∧ Up w w' := by
  obtain ⟨A, c, rfl, hlc, hcm, -⟩ := h.shape
  have hix : ∀ i, i < t.length → 1 ≤ ix t i ∧ ix t i ≤ 4 := fun i hi => by rw [ix_eq hi]; exact hb _ (List.getElem_mem hi)
  have H := Lib.hid h
  clear h hb
  rcases kindB_cases hk with rfl | rfl | rfl | rfl | rfl | rfl | rfl | rfl | rfl | rfl | rfl
  · have hl : t.length = 1 := by have : takenK 1 = 1 := rfl; omega
    rw [hl]
    clear hix hk ht
    go_enter Try.func253, Try.ntmps253
    go_wp2_with fail
    refine (ColumnsMade_any _ _).mono ?_
    rintro e w' ⟨rfl, rfl⟩
    rw [show madeOf 1 = ((1 : Nat) : Int) from rfl]
    go_wp2_with fail
    refine (repeat_any _ _ _ (lit1 w 1 (by unfold I64; omega) w.heap.size (Nat.le_refl _)) 1 (by omega)).mono ?_
    rintro e w2 ⟨v2, rfl, k2, g2⟩
    have K2 := Lib.hid k2
    have G2 := Lib.hid (Chg.trans ((Chg.refl Nowhere w).alloc (.cells #[.int .i64 1] 2)) g2)
    obtain ⟨A2, c2, rfl, -⟩ := k2.shape
    clear k2 g2
    go_wp2
    go_ret2
    exact ⟨_, rfl, K2.out.mono (fun b _ hb => ⟨by have := hb.1; simp at this; omega, hb.2⟩), G2.out⟩
  · have hl : t.length = 1 := by have : takenK 2 = 1 := rfl; omega
    rw [hl]
    clear hix hk ht
    go_enter Try.func253, Try.ntmps253
    go_wp2_with fail
    refine (ColumnsMade_any _ _).mono ?_
    rintro e w' ⟨rfl, rfl⟩
    rw [show madeOf 2 = ((1 : Nat) : Int) from rfl]
    go_wp2_with fail
    refine (repeat_any _ _ _ (lit1 w 1 (by unfold I64; omega) w.heap.size (Nat.le_refl _)) 1 (by omega)).mono ?_
    rintro e w2 ⟨v2, rfl, k2, g2⟩
    have K2 := Lib.hid k2
    have G2 := Lib.hid (Chg.trans ((Chg.refl Nowhere w).alloc (.cells #[.int .i64 1] 2)) g2)
    obtain ⟨A2, c2, rfl, -⟩ := k2.shape
    clear k2 g2
    go_wp2
    go_ret2
    exact ⟨_, rfl, K2.out.mono (fun b _ hb => ⟨by have := hb.1; simp at this; omega, hb.2⟩), G2.out⟩
  · have hl : t.length = 0 := by have : takenK 3 = 0 := rfl; omega
    rw [hl]
    clear hix hk ht
    go_enter Try.func253, Try.ntmps253
    go_wp2_with fail
    refine (ColumnsMade_any _ _).mono ?_
    rintro e w' ⟨rfl, rfl⟩
    rw [show madeOf 3 = ((1 : Nat) : Int) from rfl]
    go_wp2_with fail
    refine (repeat_any _ _ _ (lit1 w 1 (by unfold I64; omega) w.heap.size (Nat.le_refl _)) 1 (by omega)).mono ?_
    rintro e w2 ⟨v2, rfl, k2, g2⟩
    have K2 := Lib.hid k2
    have G2 := Lib.hid (Chg.trans ((Chg.refl Nowhere w).alloc (.cells #[.int .i64 1] 2)) g2)
    obtain ⟨A2, c2, rfl, -⟩ := k2.shape
    clear k2 g2
    go_wp2
    go_ret2
    exact ⟨_, rfl, K2.out.mono (fun b _ hb => ⟨by have := hb.1; simp at this; omega, hb.2⟩), G2.out⟩
  · have hl : t.length = 2 := by have : takenK 4 = 2 := rfl; omega
    obtain ⟨b, o, rfl, hbl, hc⟩ := H.out.ix (i := 0) (by omega)
    have f0 := hc 0 (by omega)
    have f1 := hc 1 (by omega)
    rw [Nat.add_zero] at f0
    have hx0 := hix 0 (by omega)
    have hx1 := hix 1 (by omega)
    obtain ⟨a, HA⟩ : ∃ a, Hid (ix t 0 = a) := ⟨_, Lib.hid rfl⟩
    obtain ⟨a2, HA2⟩ : ∃ a2, Hid (ix t 1 = a2) := ⟨_, Lib.hid rfl⟩
    rw [HA.out] at f0 hx0
    rw [HA2.out] at f1 hx1
    rw [HA.out, HA2.out, hl]
    have y1 : IntKind.i64.wrap (a + a2) = a + a2 := IntWalk.i64_in _ (by omega)
    have g0 := Chg.cell ((Chg.refl Nowhere w).alloc (.cells #[.int .i64 1] 2)) f0 id
    have g1 := Chg.cell ((Chg.refl Nowhere w).alloc (.cells #[.int .i64 1] 2)) f1 id
    clear hc hix hk ht
    go_enter Try.func253, Try.ntmps253
    go_wp2
    go_region
    all_goals go_wp2
    all_goals go_ret2
    all_goals (refine ⟨_, rfl, ?_, by repeat (first | exact Chg.refl _ _ | apply Chg.drew | refine Chg.alloc ?_ _)⟩)
    all_goals first | exact lit1 _ 1 (by unfold I64; omega) _ (Nat.le_refl _) | exact (lit1 w 1 (by unfold I64; omega) _ (Nat.le_refl _)).up ((Chg.refl _ _).drew) | exact lit1 w.drew 1 (by unfold I64; omega) w.heap.size (Nat.le_refl _)
  · have hl : t.length = 2 := by have : takenK 5 = 2 := rfl; omega
    obtain ⟨b, o, rfl, hbl, hc⟩ := H.out.ix (i := 0) (by omega)
    have f0 := hc 0 (by omega)
    have f1 := hc 1 (by omega)
    rw [Nat.add_zero] at f0
    have hx0 := hix 0 (by omega)
    have hx1 := hix 1 (by omega)
    obtain ⟨a, HA⟩ : ∃ a, Hid (ix t 0 = a) := ⟨_, Lib.hid rfl⟩
    obtain ⟨a2, HA2⟩ : ∃ a2, Hid (ix t 1 = a2) := ⟨_, Lib.hid rfl⟩
    rw [HA.out] at f0 hx0
    rw [HA2.out] at f1 hx1
    rw [HA.out, HA2.out, hl]
    have y1 : IntKind.i64.wrap (a + a2) = a + a2 := IntWalk.i64_in _ (by omega)
    have g0 := Chg.cell ((Chg.refl Nowhere w).alloc (.cells #[.int .i64 1] 2)) f0 id
    have g1 := Chg.cell ((Chg.refl Nowhere w).alloc (.cells #[.int .i64 1] 2)) f1 id
    clear hc hix hk ht
    go_enter Try.func253, Try.ntmps253
    go_wp2
    go_region
    all_goals go_wp2
    all_goals go_ret2
    all_goals (refine ⟨_, rfl, ?_, by repeat (first | exact Chg.refl _ _ | apply Chg.drew | refine Chg.alloc ?_ _)⟩)
    all_goals first | exact lit1 _ 1 (by unfold I64; omega) _ (Nat.le_refl _) | exact (lit1 w 1 (by unfold I64; omega) _ (Nat.le_refl _)).up ((Chg.refl _ _).drew) | exact lit1 w.drew 1 (by unfold I64; omega) w.heap.size (Nat.le_refl _)
  · have hl : t.length = 1 := by have : takenK 6 = 1 := rfl; omega
    obtain ⟨b, o, rfl, hbl, hc⟩ := H.out.ix (i := 0) (by omega)
    have f0 := hc 0 (by omega)
    rw [Nat.add_zero] at f0
    have hx0 := hix 0 (by omega)
    obtain ⟨a, HA⟩ : ∃ a, Hid (ix t 0 = a) := ⟨_, Lib.hid rfl⟩
    rw [HA.out] at f0 hx0
    rw [HA.out, hl]
    have y1 : IntKind.i64.wrap (a + 1) = a + 1 := IntWalk.i64_in _ (by omega)
    have f1 := Chg.cell ((Chg.refl Nowhere w).alloc (.cells #[.int .i64 (a + 1)] 2)) f0 id
    clear hc hix hk ht
    go_enter Try.func253, Try.ntmps253
    go_wp2
    go_region
    all_goals go_wp2
    all_goals go_ret2
    all_goals (refine ⟨_, rfl, ?_, by repeat (first | exact Chg.refl _ _ | apply Chg.drew | refine Chg.alloc ?_ _)⟩)
    all_goals first | exact lit1 _ (a + 1) (by unfold I64; omega) _ (Nat.le_refl _) | exact (lit1 w (a + 1) (by unfold I64; omega) _ (Nat.le_refl _)).up ((Chg.refl _ _).drew) | exact lit1 w.drew (a + 1) (by unfold I64; omega) w.heap.size (Nat.le_refl _)
  · have hl : t.length = 1 := by have : takenK 7 = 1 := rfl; omega
    obtain ⟨b, o, rfl, hbl, hc⟩ := H.out.ix (i := 0) (by omega)
    have f0 := hc 0 (by omega)
    rw [Nat.add_zero] at f0
    have hx0 := hix 0 (by omega)
    obtain ⟨a, HA⟩ : ∃ a, Hid (ix t 0 = a) := ⟨_, Lib.hid rfl⟩
    rw [HA.out] at f0 hx0
    rw [HA.out, hl]
    clear hc hix hk ht
    go_enter Try.func253, Try.ntmps253
    go_wp2
    all_goals go_ret2
    all_goals (refine ⟨_, rfl, ?_, by repeat (first | exact Chg.refl _ _ | apply Chg.drew | refine Chg.alloc ?_ _)⟩)
    all_goals first | exact lit1 _ a (by unfold I64; omega) _ (Nat.le_refl _) | exact (lit1 w a (by unfold I64; omega) _ (Nat.le_refl _)).up ((Chg.refl _ _).drew) | exact lit1 w.drew a (by unfold I64; omega) w.heap.size (Nat.le_refl _)
  · have hl : t.length = 2 := by have : takenK 8 = 2 := rfl; omega
    rw [hl]
    clear hix hk ht
    go_enter Try.func253, Try.ntmps253
    go_wp2_with fail
    refine (ColumnsMade_any _ _).mono ?_
    rintro e w' ⟨rfl, rfl⟩
    rw [show madeOf 8 = ((2 : Nat) : Int) from rfl]
    go_wp2_with fail
    refine (repeat_any _ _ _ (lit1 w 1 (by unfold I64; omega) w.heap.size (Nat.le_refl _)) 2 (by omega)).mono ?_
    rintro e w2 ⟨v2, rfl, k2, g2⟩
    have K2 := Lib.hid k2
    have G2 := Lib.hid (Chg.trans ((Chg.refl Nowhere w).alloc (.cells #[.int .i64 1] 2)) g2)
    obtain ⟨A2, c2, rfl, -⟩ := k2.shape
    clear k2 g2
    go_wp2
    go_ret2
    exact ⟨_, rfl, K2.out.mono (fun b _ hb => ⟨by have := hb.1; simp at this; omega, hb.2⟩), G2.out⟩
  · have hl : t.length = 2 := by have : takenK 9 = 2 := rfl; omega
    rw [hl]
    clear hix hk ht
    go_enter Try.func253, Try.ntmps253
    go_wp2_with fail
    refine (ColumnsMade_any _ _).mono ?_
    rintro e w' ⟨rfl, rfl⟩
    rw [show madeOf 9 = ((2 : Nat) : Int) from rfl]
    go_wp2_with fail
    refine (repeat_any _ _ _ (lit1 w 1 (by unfold I64; omega) w.heap.size (Nat.le_refl _)) 2 (by omega)).mono ?_
    rintro e w2 ⟨v2, rfl, k2, g2⟩
    have K2 := Lib.hid k2
    have G2 := Lib.hid (Chg.trans ((Chg.refl Nowhere w).alloc (.cells #[.int .i64 1] 2)) g2)
    obtain ⟨A2, c2, rfl, -⟩ := k2.shape
    clear k2 g2
    go_wp2
    go_ret2
    exact ⟨_, rfl, K2.out.mono (fun b _ hb => ⟨by have := hb.1; simp at this; omega, hb.2⟩), G2.out⟩
  · have hl : t.length = 4 := by have : takenK 10 = 4 := rfl; omega
    rw [hl]
    clear hix hk ht
    go_enter Try.func253, Try.ntmps253
    go_wp2_with fail
    refine (ColumnsMade_any _ _).mono ?_
    rintro e w' ⟨rfl, rfl⟩
    rw [show madeOf 10 = ((4 : Nat) : Int) from rfl]
    go_wp2_with fail
    refine (repeat_any _ _ _ (lit1 w 1 (by unfold I64; omega) w.heap.size (Nat.le_refl _)) 4 (by omega)).mono ?_
    rintro e w2 ⟨v2, rfl, k2, g2⟩
    have K2 := Lib.hid k2
    have G2 := Lib.hid (Chg.trans ((Chg.refl Nowhere w).alloc (.cells #[.int .i64 1] 2)) g2)
    obtain ⟨A2, c2, rfl, -⟩ := k2.shape
    clear k2 g2
    go_wp2
    go_ret2
    exact ⟨_, rfl, K2.out.mono (fun b _ hb => ⟨by have := hb.1; simp at this; omega, hb.2⟩), G2.out⟩
  · have hl : t.length = 4 := by have : takenK 11 = 4 := rfl; omega
    rw [hl]
    clear hix hk ht
    go_enter Try.func253, Try.ntmps253
    go_wp2_with fail
    refine (ColumnsMade_any _ _).mono ?_
    rintro e w' ⟨rfl, rfl⟩
    rw [show madeOf 11 = ((4 : Nat) : Int) from rfl]
    go_wp2_with fail
    refine (repeat_any _ _ _ (lit1 w 1 (by unfold I64; omega) w.heap.size (Nat.le_refl _)) 4 (by omega)).mono ?_
    rintro e w2 ⟨v2, rfl, k2, g2⟩
    have K2 := Lib.hid k2
    have G2 := Lib.hid (Chg.trans ((Chg.refl Nowhere w).alloc (.cells #[.int .i64 1] 2)) g2)
    obtain ⟨A2, c2, rfl, -⟩ := k2.shape
    clear k2 g2
    go_wp2
    go_ret2
    exact ⟨_, rfl, K2.out.mono (fun b _ hb => ⟨by have := hb.1; simp at this; omega, hb.2⟩), G2.out⟩
end Go.Proofs.Ytnjfhpgmogopnaa
