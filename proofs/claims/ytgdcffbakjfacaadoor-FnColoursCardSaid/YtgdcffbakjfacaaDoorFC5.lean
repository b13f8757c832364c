/- The stacks that one stitch makes. No condition. Parts of slices of int64. No condition. Stacks of columns behind a row of stitches, as plain data; parts of a slice of numbers. No condition. Rows by value and behind a pointer: their tests and their codes. No condition. Rows under construction, with the blocks in which they come to lie; slices of slices of numbers. No condition but room. The columns that the stitches of a row take and make. No condition but room. The program's PlanMoves answers as the reference's, for all lists; its memory is its own. No condition. -/
import Derived.Test.YtgdcffbakjfacaaDoorFC4
import Derived.Test.YtgdcffbakjfacaaDoorRep
import Derived.RegionTactic
import Derived.Test.YtgdcffbakjfacaaDoorFC2
import Derived.StillTailTactics
section
set_option linter.unusedSimpArgs false
set_option linter.unusedVariables false
set_option maxRecDepth 100000
set_option maxHeartbeats 1000000
namespace Go.Proofs.YtgdcffbakjfacaaDoor
open Go.ChangeShapes Go.WideShapes Go.ChangeAt Go.RowKit
/-- what a stitch makes of the stacks a, b that it takes first -/
def stepS (k a b : Int) : List Int := if k = 6 then [a + 1] else if k = 7 then [a] else List.replicate (madeK k).toNat 1
def okS (k a b : Int) : Bool := if k = 6 then decide (a < 4) else if k = 4 ∨ k = 5 then decide (a + b ≤ 4) else true
theorem lit1 (w : World) (x : Int) (hx : I64 x) (lo : Nat) (hlo : lo ≤ w.heap.size) : Ints (w.alloc (.cells #[.int .i64 x] 2)) (New lo (w.alloc (.cells #[.int .i64 x] 2)).heap.size) (.slice (some ⟨w.heap.size, 0, none⟩) 1 1) [x] :=
  Ints.of_cells (xs := [x]) ⟨hlo, by simp⟩ (by simp) (by simp) (by omega) (by simpa using hx) (fun t ht => by
    obtain rfl : t = 0 := by simp at ht; omega
    exact ⟨cell_new _ _ _ _, frozen_new _ _ _ _⟩)
theorem madeStacks_any (w : World) (S : Nat → Prop) (v : Value) (t : List Int) (h : Ints w S v t) (k : Int) (hk : kindB k = true) (ht : (t.length : Int) = takenK k) (hb : ∀ x ∈ t, 1 ≤ x ∧ x ≤ 4) :
    Calls Tryd.prog 73 #[.int .i64 k, v] w fun e w' => ∃ v', e = .returned (.tuple #[v', .bool (okS k (ix t 0) (ix t 1))]) ∧ Ints w' (New w.heap.size w'.heap.size) v' (stepS k (ix t 0) (ix t 1)) ∧ Up w w' := by
  obtain ⟨A, c, rfl, hlc, hcm, -⟩ := h.shape
  have hix : ∀ i, i < t.length → 1 ≤ ix t i ∧ ix t i ≤ 4 := fun i hi => by rw [ix_eq hi]; exact hb _ (List.getElem_mem hi)
  have H := Lib.hid h
  clear h hb
  rcases kindB_cases hk with rfl | rfl | rfl | rfl | rfl | rfl | rfl | rfl | rfl | rfl | rfl
  · have hl : t.length = 1 := by have : takenK 1 = 1 := rfl; omega
    rw [hl]
    clear hix hk ht
    go_enter Tryd.func73, Tryd.ntmps73
    go_wp2_with fail
    refine (ColumnsMade_any _ _).mono ?_
    rintro e w' ⟨rfl, rfl⟩
    rw [show madeOf 1 = ((1 : Nat) : Int) from rfl]
    go_wp2_with fail
    refine (repeat_any _ _ _ (lit1 w 1 (by unfold I64; omega) w.heap.size (Nat.le_refl _)) 1 (by omega)).mono ?_
    rintro e w2 ⟨v2, rfl, k2, g2⟩
    have K2 := Lib.hid k2
    have G2 := Lib.hid (Chg.trans ((Chg.refl Nowhere w).alloc (.cells #[.int .i64 1] 2)) g2)
    obtain ⟨A2, c2, rfl, -⟩ := k2.shape
    clear k2 g2
    go_wp2
    go_ret2
    exact ⟨_, rfl, K2.out.mono (fun b _ hb => ⟨by have := hb.1; simp at this; omega, hb.2⟩), G2.out⟩
  · have hl : t.length = 1 := by have : takenK 2 = 1 := rfl; omega
    rw [hl]
    clear hix hk ht
    go_enter Tryd.func73, Tryd.ntmps73
    go_wp2_with fail
    refine (ColumnsMade_any _ _).mono ?_
    rintro e w' ⟨rfl, rfl⟩
    rw [show madeOf 2 = ((1 : Nat) : Int) from rfl]
    go_wp2_with fail
    refine (repeat_any _ _ _ (lit1 w 1 (by unfold I64; omega) w.heap.size (Nat.le_refl _)) 1 (by omega)).mono ?_
    rintro e w2 ⟨v2, rfl, k2, g2⟩
    have K2 := Lib.hid k2
    have G2 := Lib.hid (Chg.trans ((Chg.refl Nowhere w).alloc (.cells #[.int .i64 1] 2)) g2)
    obtain ⟨A2, c2, rfl, -⟩ := k2.shape
    clear k2 g2
    go_wp2
    go_ret2
    exact ⟨_, rfl, K2.out.mono (fun b _ hb => ⟨by have := hb.1; simp at this; omega, hb.2⟩), G2.out⟩
  · have hl : t.length = 0 := by have : takenK 3 = 0 := rfl; omega
    rw [hl]
    clear hix hk ht
    go_enter Tryd.func73, Tryd.ntmps73
    go_wp2_with fail
    refine (ColumnsMade_any _ _).mono ?_
    rintro e w' ⟨rfl, rfl⟩
    rw [show madeOf 3 = ((1 : Nat) : Int) from rfl]
    go_wp2_with fail
    refine (repeat_any _ _ _ (lit1 w 1 (by unfold I64; omega) w.heap.size (Nat.le_refl _)) 1 (by omega)).mono ?_
    rintro e w2 ⟨v2, rfl, k2, g2⟩
    have K2 := Lib.hid k2
    have G2 := Lib.hid (Chg.trans ((Chg.refl Nowhere w).alloc (.cells #[.int .i64 1] 2)) g2)
    obtain ⟨A2, c2, rfl, -⟩ := k2.shape
    clear k2 g2
    go_wp2
    go_ret2
    exact ⟨_, rfl, K2.out.mono (fun b _ hb => ⟨by have := hb.1; simp at this; omega, hb.2⟩), G2.out⟩
  · have hl : t.length = 2 := by have : takenK 4 = 2 := rfl; omega
    obtain ⟨b, o, rfl, hbl, hc⟩ := H.out.ix (i := 0) (by omega)
    have f0 := hc 0 (by omega)
    have f1 := hc 1 (by omega)
    rw [Nat.add_zero] at f0
    have hx0 := hix 0 (by omega)
    have hx1 := hix 1 (by omega)
    obtain ⟨a, HA⟩ : ∃ a, Hid (ix t 0 = a) := ⟨_, Lib.hid rfl⟩
    obtain ⟨a2, HA2⟩ : ∃ a2, Hid (ix t 1 = a2) := ⟨_, Lib.hid rfl⟩
    rw [HA.out] at f0 hx0
    rw [HA2.out] at f1 hx1
    rw [HA.out, HA2.out, hl]
    have y1 : IntKind.i64.wrap (a + a2) = a + a2 := IntWalk.i64_in _ (by omega)
    have g0 := Chg.cell ((Chg.refl Nowhere w).alloc (.cells #[.int .i64 1] 2)) f0 id
    have g1 := Chg.cell ((Chg.refl Nowhere w).alloc (.cells #[.int .i64 1] 2)) f1 id
    clear hc hix hk ht
    go_enter Tryd.func73, Tryd.ntmps73
    go_wp2
    go_region
    all_goals go_wp2
    all_goals go_ret2
    all_goals (refine ⟨_, rfl, ?_, by repeat (first | exact Chg.refl _ _ | apply Chg.drew | refine Chg.alloc ?_ _)⟩)
    all_goals first | exact lit1 _ 1 (by unfold I64; omega) _ (Nat.le_refl _) | exact (lit1 w 1 (by unfold I64; omega) _ (Nat.le_refl _)).up ((Chg.refl _ _).drew) | exact lit1 w.drew 1 (by unfold I64; omega) w.heap.size (Nat.le_refl _)
  · have hl : t.length = 2 := by have : takenK 5 = 2 := rfl; omega
    obtain ⟨b, o, rfl, hbl, hc⟩ := H.out.ix (i := 0) (by omega)
    have f0 := hc 0 (by omega)
    have f1 := hc 1 (by omega)
    rw [Nat.add_zero] at f0
    have hx0 := hix 0 (by omega)
    have hx1 := hix 1 (by omega)
    obtain ⟨a, HA⟩ : ∃ a, Hid (ix t 0 = a) := ⟨_, Lib.hid rfl⟩
    obtain ⟨a2, HA2⟩ : ∃ a2, Hid (ix t 1 = a2) := ⟨_, Lib.hid rfl⟩
    rw [HA.out] at f0 hx0
    rw [HA2.out] at f1 hx1
    rw [HA.out, HA2.out, hl]
    have y1 : IntKind.i64.wrap (a + a2) = a + a2 := IntWalk.i64_in _ (by omega)
    have g0 := Chg.cell ((Chg.refl Nowhere w).alloc (.cells #[.int .i64 1] 2)) f0 id
    have g1 := Chg.cell ((Chg.refl Nowhere w).alloc (.cells #[.int .i64 1] 2)) f1 id
    clear hc hix hk ht
    go_enter Tryd.func73, Tryd.ntmps73
    go_wp2
    go_region
    all_goals go_wp2
    all_goals go_ret2
    all_goals (refine ⟨_, rfl, ?_, by repeat (first | exact Chg.refl _ _ | apply Chg.drew | refine Chg.alloc ?_ _)⟩)
    all_goals first | exact lit1 _ 1 (by unfold I64; omega) _ (Nat.le_refl _) | exact (lit1 w 1 (by unfold I64; omega) _ (Nat.le_refl _)).up ((Chg.refl _ _).drew) | exact lit1 w.drew 1 (by unfold I64; omega) w.heap.size (Nat.le_refl _)
  · have hl : t.length = 1 := by have : takenK 6 = 1 := rfl; omega
    obtain ⟨b, o, rfl, hbl, hc⟩ := H.out.ix (i := 0) (by omega)
    have f0 := hc 0 (by omega)
    rw [Nat.add_zero] at f0
    have hx0 := hix 0 (by omega)
    obtain ⟨a, HA⟩ : ∃ a, Hid (ix t 0 = a) := ⟨_, Lib.hid rfl⟩
    rw [HA.out] at f0 hx0
    rw [HA.out, hl]
    have y1 : IntKind.i64.wrap (a + 1) = a + 1 := IntWalk.i64_in _ (by omega)
    have f1 := Chg.cell ((Chg.refl Nowhere w).alloc (.cells #[.int .i64 (a + 1)] 2)) f0 id
    clear hc hix hk ht
    go_enter Tryd.func73, Tryd.ntmps73
    go_wp2
    go_region
    all_goals go_wp2
    all_goals go_ret2
    all_goals (refine ⟨_, rfl, ?_, by repeat (first | exact Chg.refl _ _ | apply Chg.drew | refine Chg.alloc ?_ _)⟩)
    all_goals first | exact lit1 _ (a + 1) (by unfold I64; omega) _ (Nat.le_refl _) | exact (lit1 w (a + 1) (by unfold I64; omega) _ (Nat.le_refl _)).up ((Chg.refl _ _).drew) | exact lit1 w.drew (a + 1) (by unfold I64; omega) w.heap.size (Nat.le_refl _)
  · have hl : t.length = 1 := by have : takenK 7 = 1 := rfl; omega
    obtain ⟨b, o, rfl, hbl, hc⟩ := H.out.ix (i := 0) (by omega)
    have f0 := hc 0 (by omega)
    rw [Nat.add_zero] at f0
    have hx0 := hix 0 (by omega)
    obtain ⟨a, HA⟩ : ∃ a, Hid (ix t 0 = a) := ⟨_, Lib.hid rfl⟩
    rw [HA.out] at f0 hx0
    rw [HA.out, hl]
    clear hc hix hk ht
    go_enter Tryd.func73, Tryd.ntmps73
    go_wp2
    all_goals go_ret2
    all_goals (refine ⟨_, rfl, ?_, by repeat (first | exact Chg.refl _ _ | apply Chg.drew | refine Chg.alloc ?_ _)⟩)
    all_goals first | exact lit1 _ a (by unfold I64; omega) _ (Nat.le_refl _) | exact (lit1 w a (by unfold I64; omega) _ (Nat.le_refl _)).up ((Chg.refl _ _).drew) | exact lit1 w.drew a (by unfold I64; omega) w.heap.size (Nat.le_refl _)
  · have hl : t.length = 2 := by have : takenK 8 = 2 := rfl; omega
    rw [hl]
    clear hix hk ht
    go_enter Tryd.func73, Tryd.ntmps73
    go_wp2_with fail
    refine (ColumnsMade_any _ _).mono ?_
    rintro e w' ⟨rfl, rfl⟩
    rw [show madeOf 8 = ((2 : Nat) : Int) from rfl]
    go_wp2_with fail
    refine (repeat_any _ _ _ (lit1 w 1 (by unfold I64; omega) w.heap.size (Nat.le_refl _)) 2 (by omega)).mono ?_
    rintro e w2 ⟨v2, rfl, k2, g2⟩
    have K2 := Lib.hid k2
    have G2 := Lib.hid (Chg.trans ((Chg.refl Nowhere w).alloc (.cells #[.int .i64 1] 2)) g2)
    obtain ⟨A2, c2, rfl, -⟩ := k2.shape
    clear k2 g2
    go_wp2
    go_ret2
    exact ⟨_, rfl, K2.out.mono (fun b _ hb => ⟨by have := hb.1; simp at this; omega, hb.2⟩), G2.out⟩
  · have hl : t.length = 2 := by have : takenK 9 = 2 := rfl; omega
    rw [hl]
    clear hix hk ht
    go_enter Tryd.func73, Tryd.ntmps73
    go_wp2_with fail
    refine (ColumnsMade_any _ _).mono ?_
    rintro e w' ⟨rfl, rfl⟩
    rw [show madeOf 9 = ((2 : Nat) : Int) from rfl]
    go_wp2_with fail
    refine (repeat_any _ _ _ (lit1 w 1 (by unfold I64; omega) w.heap.size (Nat.le_refl _)) 2 (by omega)).mono ?_
    rintro e w2 ⟨v2, rfl, k2, g2⟩
    have K2 := Lib.hid k2
    have G2 := Lib.hid (Chg.trans ((Chg.refl Nowhere w).alloc (.cells #[.int .i64 1] 2)) g2)
    obtain ⟨A2, c2, rfl, -⟩ := k2.shape
    clear k2 g2
    go_wp2
    go_ret2
    exact ⟨_, rfl, K2.out.mono (fun b _ hb => ⟨by have := hb.1; simp at this; omega, hb.2⟩), G2.out⟩
  · have hl : t.length = 4 := by have : takenK 10 = 4 := rfl; omega
    rw [hl]
    clear hix hk ht
    go_enter Tryd.func73, Tryd.ntmps73
    go_wp2_with fail
    refine (ColumnsMade_any _ _).mono ?_
    rintro e w' ⟨rfl, rfl⟩
    rw [show madeOf 10 = ((4 : Nat) : Int) from rfl]
    go_wp2_with fail
    refine (repeat_any _ _ _ (lit1 w 1 (by unfold I64; omega) w.heap.size (Nat.le_refl _)) 4 (by omega)).mono ?_
    rintro e w2 ⟨v2, rfl, k2, g2⟩
    have K2 := Lib.hid k2
    have G2 := Lib.hid (Chg.trans ((Chg.refl Nowhere w).alloc (.cells #[.int .i64 1] 2)) g2)
    obtain ⟨A2, c2, rfl, -⟩ := k2.shape
    clear k2 g2
    go_wp2
    go_ret2
    exact ⟨_, rfl, K2.out.mono (fun b _ hb => ⟨by have := hb.1; simp at this; omega, hb.2⟩), G2.out⟩
  · have hl : t.length = 4 := by have : takenK 11 = 4 := rfl; omega
    rw [hl]
    clear hix hk ht
    go_enter Tryd.func73, Tryd.ntmps73
    go_wp2_with fail
    refine (ColumnsMade_any _ _).mono ?_
    rintro e w' ⟨rfl, rfl⟩
    rw [show madeOf 11 = ((4 : Nat) : Int) from rfl]
    go_wp2_with fail
    refine (repeat_any _ _ _ (lit1 w 1 (by unfold I64; omega) w.heap.size (Nat.le_refl _)) 4 (by omega)).mono ?_
    rintro e w2 ⟨v2, rfl, k2, g2⟩
    have K2 := Lib.hid k2
    have G2 := Lib.hid (Chg.trans ((Chg.refl Nowhere w).alloc (.cells #[.int .i64 1] 2)) g2)
    obtain ⟨A2, c2, rfl, -⟩ := k2.shape
    clear k2 g2
    go_wp2
    go_ret2
    exact ⟨_, rfl, K2.out.mono (fun b _ hb => ⟨by have := hb.1; simp at this; omega, hb.2⟩), G2.out⟩
end Go.Proofs.YtgdcffbakjfacaaDoor
end
section
set_option linter.unusedSimpArgs false
set_option linter.unusedVariables false
namespace Go.Proofs.YtgdcffbakjfacaaDoor
open Go.ChangeShapes Go.WideShapes Go.ChangeAt Go.RowKit
theorem Ints.part {w : World} {S : Nat → Prop} {A A' : Option Addr} {c c' k : Nat} {xs : List Int} (h : Ints w S (.slice A xs.length c) xs) (i : Nat) (hik : i + k ≤ xs.length) (hc : k ≤ c') (hc2 : c' ≤ 9223372036854775807)
    (hA : ∀ b o, A = some ⟨b, o, none⟩ → 0 < k → A' = some ⟨b, o + i, none⟩) (hn : A' = none → c' = 0) : Ints w S (.slice A' k c') ((xs.drop i).take k) := by
  obtain ⟨A0, c0, he, h1, h2, h3, h4, h5⟩ := h
  obtain ⟨rfl, rfl⟩ : A = A0 ∧ c = c0 := by simpa using he
  have hlen : ((xs.drop i).take k).length = k := by rw [List.length_take, List.length_drop]; omega
  refine ⟨A', c', by rw [hlen], by rw [hlen]; exact hc, hc2, fun x hx => h3 x (List.mem_of_mem_drop (List.mem_of_mem_take hx)), fun hp => ?_, hn⟩
  rw [hlen] at hp
  obtain ⟨b, o, hA0, hS, hb, hcell⟩ := h4 (by omega)
  refine ⟨b, o + i, hA b o hA0 hp, hS, hb, fun t ht => ?_⟩
  rw [hlen] at ht
  have h9 := hcell (i + t) (by omega)
  rw [← Nat.add_assoc] at h9
  have e3 : ((xs.drop i).take k)[t]'(by omega) = xs[i + t]'(by omega) := by simp
  rw [e3]
  exact h9
theorem Ints.took {w : World} {S : Nat → Prop} {A : Option Addr} {c k c2 : Nat} {xs : List Int} (h : Ints w S (.slice A xs.length c) xs) (hk : k ≤ xs.length) (hc2 : c2 = c) : Ints w S (.slice A k c2) (xs.take k) := by
  subst hc2
  obtain ⟨A', c', he, h1, h2, h3⟩ := h.shape
  obtain ⟨rfl, rfl⟩ : A = A' ∧ c2 = c' := by simpa using he
  have := h.part (A' := A) (c' := c2) 0 (k := k) (by omega) (by omega) h2 (fun b' o' e _ => by simpa using e) h3
  simpa using this
theorem Ints.dropt {w : World} {S : Nat → Prop} {A A' : Option Addr} {c k c2 n : Nat} {xs : List Int} (h : Ints w S (.slice A xs.length c) xs) (hk : k ≤ xs.length) (hn : n = xs.length - k) (hc2 : c2 = c - k) (hA : ∀ b o, A = some ⟨b, o, none⟩ → k < xs.length → A' = some ⟨b, o + k, none⟩) (hA2 : A' = none → c2 = 0) : Ints w S (.slice A' n c2) (xs.drop k) := by
  subst hc2 hn
  obtain ⟨A0, c', he, h1, h2, h3⟩ := h.shape
  obtain ⟨rfl, rfl⟩ : A = A0 ∧ c = c' := by simpa using he
  have := h.part (A' := A') (c' := c - k) k (k := xs.length - k) (by omega) (by omega) (by omega) (fun b o e hp => hA b o e (by omega)) hA2
  rwa [List.take_of_length_le (by simp)] at this
end Go.Proofs.YtgdcffbakjfacaaDoor
end
namespace Go.Proofs.YtgdcffbakjfacaaDoor
open Go.ChangeShapes Go.WideShapes Go.ChangeAt Go.RowKit
/-- how many columns are taken ahead of a stitch -/
def posS (ks : List Int) (j : Nat) : Nat := (sumF takenK (ks.take j)).toNat
theorem sumF_nonneg (ks : List Int) : 0 ≤ sumF takenK ks := by
  have := sumF_bd takenK 0 4 (by omega) (fun x => by have := takenK_bd x; omega) ks
  omega
theorem posS_int (ks : List Int) (j : Nat) : (posS ks j : Int) = sumF takenK (ks.take j) := by
  unfold posS
  have := sumF_nonneg (ks.take j)
  omega
theorem posS_succ {ks : List Int} {j : Nat} (h : j < ks.length) : posS ks (j + 1) = posS ks j + (takenK ks[j]).toNat := by
  have h1 := posS_int ks j
  have h2 := posS_int ks (j + 1)
  rw [sumF_take takenK h] at h2
  have := takenK_bd ks[j]
  omega
theorem posS_le (ks : List Int) (j : Nat) : (posS ks j : Int) ≤ sumF takenK ks := by
  rw [posS_int]
  have h : sumF takenK ks = sumF takenK (ks.take j) + sumF takenK (ks.drop j) := by rw [← sumF_append, List.take_append_drop]
  have := sumF_nonneg (ks.drop j)
  omega
def stepAt (st ks : List Int) (i : Nat) : List Int := stepS (ix ks i) (ix st (posS ks i)) (ix st (posS ks i + 1))
def okAt (st ks : List Int) (i : Nat) : Bool := okS (ix ks i) (ix st (posS ks i)) (ix st (posS ks i + 1))
def aftTo (st ks : List Int) (j : Nat) : List Int := (List.range j).flatMap (stepAt st ks)
def okTo (st ks : List Int) (j : Nat) : Bool := (List.range j).all (okAt st ks)
theorem aftTo_succ (st ks : List Int) (j : Nat) : aftTo st ks (j + 1) = aftTo st ks j ++ stepAt st ks j := by
  unfold aftTo; rw [List.range_succ, List.flatMap_append]; simp
theorem okTo_succ (st ks : List Int) (j : Nat) : okTo st ks (j + 1) = (okTo st ks j && okAt st ks j) := by
  unfold okTo; rw [List.range_succ, List.all_append]; simp
theorem okTo_false {st ks : List Int} {j n : Nat} (hj : j < n) (h : okAt st ks j = false) : okTo st ks n = false := by
  unfold okTo
  rw [Bool.eq_false_iff]
  intro hh
  rw [List.all_eq_true.1 hh j (by simpa using hj)] at h
  cases h
theorem stepS_length (k a b : Int) : (stepS k a b).length ≤ 4 := by
  unfold stepS
  have := madeK_bd k
  split
  · simp
  · split
    · simp
    · rw [List.length_replicate]; omega
theorem aftTo_len (st ks : List Int) (j : Nat) : (aftTo st ks j).length ≤ 4 * j := by
  induction j with
  | zero => simp [aftTo]
  | succ j ih =>
    rw [aftTo_succ, List.length_append]
    have := stepS_length (ix ks j) (ix st (posS ks j)) (ix st (posS ks j + 1))
    unfold stepAt
    omega
/-- the code of StacksAfter; what it returns -/
def saC (st ks : List Int) : Int := if stkB st && stB ks then (if sumF takenK ks = st.length then (if okTo st ks ks.length && decide ((aftTo st ks ks.length).length ≤ 8) then 0 else 5) else 10) else 1
def saL (st ks : List Int) : List Int := if saC st ks = 0 then aftTo st ks ks.length else []
end Go.Proofs.YtgdcffbakjfacaaDoor
namespace Go.Proofs.YtgdcffbakjfacaaDoor
open Go.ChangeShapes Go.WideShapes Go.ChangeAt Go.RowKit
structure RowM where
  d : Int
  c : Int
  xs : List Int
/-- a row by value -/
def RowV (w : World) (S : Nat → Prop) (v : Value) (r : RowM) : Prop := ∃ s, v = .agg #[.int .i64 r.d, .int .i64 r.c, s] ∧ Ints w S s r.xs ∧ I64 r.d ∧ I64 r.c
theorem RowV.keep {S T : Nat → Prop} {w w' : World} {v : Value} {r : RowM} (h : RowV w S v r) (g : Chg T w w') (hd : ∀ b, b < w.heap.size → S b → ¬ T b) : RowV w' S v r :=
  let ⟨s, h1, h2, h3⟩ := h; ⟨s, h1, h2.keep g hd, h3⟩
theorem RowV.up {S : Nat → Prop} {w w' : World} {v : Value} {r : RowM} (h : RowV w S v r) (g : Up w w') : RowV w' S v r := h.keep g fun _ _ _ h => h
theorem RowV.shape {w : World} {S : Nat → Prop} {v : Value} {r : RowM} (h : RowV w S v r) : ∃ A c, v = .agg #[.int .i64 r.d, .int .i64 r.c, .slice A r.xs.length c] ∧ Ints w S (.slice A r.xs.length c) r.xs ∧ r.xs.length ≤ c ∧ c ≤ 9223372036854775807 ∧ (I64 r.d ∧ I64 r.c) ∧ (A = none → c = 0) := by
  obtain ⟨s, h1, h2, h3, h4⟩ := h
  obtain ⟨A, c, rfl, h5, h6, h7⟩ := h2.shape
  exact ⟨A, c, h1, h2, h5, h6, ⟨h3, h4⟩, h7⟩
/-- a row behind a pointer -/
def RowAt (w : World) (S : Nat → Prop) (b o : Nat) (r : RowM) : Prop :=
  ∃ A c, w.cell? ⟨b, o, none⟩ = some (.int .i64 r.d) ∧ w.cell? ⟨b, o + 1, none⟩ = some (.int .i64 r.c) ∧ w.cell? ⟨b, o + 2, none⟩ = some (.slice A r.xs.length c) ∧ Ints w S (.slice A r.xs.length c) r.xs ∧ r.xs.length ≤ c ∧ c ≤ 9223372036854775807 ∧ (I64 r.d ∧ I64 r.c) ∧ b < w.heap.size
theorem RowAt.keep {S T : Nat → Prop} {w w' : World} {b o : Nat} {r : RowM} (h : RowAt w S b o r) (g : Chg T w w') (hd : ∀ b, b < w.heap.size → S b → ¬ T b) (hb : ¬ T b) : RowAt w' S b o r := by
  obtain ⟨A, c, h1, h2, h3, h4, h5, h6, h7, h8⟩ := h
  exact ⟨A, c, g.cell h1 hb, g.cell h2 hb, g.cell h3 hb, h4.keep g hd, h5, h6, h7, Nat.lt_of_lt_of_le h8 g.size⟩
theorem RowAt.up {S : Nat → Prop} {w w' : World} {b o : Nat} {r : RowM} (h : RowAt w S b o r) (g : Up w w') : RowAt w' S b o r := h.keep g (fun _ _ _ h => h) id
theorem RowAt.box {w : World} {S : Nat → Prop} {v : Value} {r : RowM} (h : RowV w S v r) (t : TypeId) : ∃ cs, v = .agg cs ∧ RowAt (w.alloc (.cells cs t)) S w.heap.size 0 r := by
  obtain ⟨A, c, rfl, h2, h3, h4, h5, _⟩ := h.shape
  exact ⟨_, rfl, A, c, cell_new _ _ _ _, cell_new _ _ _ _, cell_new _ _ _ _, h2.up ((Chg.refl _ _).alloc _), h3, h4, h5, by simp⟩
theorem rowB_no1 {r : RowM} (h : ¬ (r.d = 1 ∨ r.d = -1)) : rowB r.d r.c r.xs = false := by unfold rowB dirP; rw [decide_eq_false h]; rfl
theorem rowB_no2 {r : RowM} (h : ¬ (1 ≤ r.c ∧ r.c ≤ 4)) : rowB r.d r.c r.xs = false := by unfold rowB carP inB; rw [decide_eq_false h, Bool.and_false]; rfl
theorem rowB_eq {r : RowM} (h : r.d = 1 ∨ r.d = -1) (h2 : 1 ≤ r.c ∧ r.c ≤ 4) : rowB r.d r.c r.xs = stB r.xs := by unfold rowB dirP carP inB; rw [decide_eq_true h, decide_eq_true h2]; rfl
set_option maxHeartbeats 1000000 in
theorem ValidRow_any (w : World) (S : Nat → Prop) (v : Value) (r : RowM) (h : RowV w S v r) :
    Calls Tryd.prog 54 #[v] w fun e w' => e = .returned (.bool (rowB r.d r.c r.xs)) ∧ Up w w' := by
  obtain ⟨A, c, rfl, h4, h5, h6, ⟨h7, h8⟩, -⟩ := h.shape
  have H := Lib.hid h4
  clear h4 h
  by_cases hd : r.d = 1 ∨ r.d = -1
  · have HD := Lib.hid hd
    by_cases hc : 1 ≤ r.c ∧ r.c ≤ 4
    · have HB := Lib.hid (rowB_eq hd hc)
      have HC := Lib.hid hc
      clear hd hc h7 h8
      go_enter Tryd.func54, Tryd.ntmps54
      go_wp2_with fail
      refine (isDirection_yes _ _ HD.out).mono ?_
      rintro e w' ⟨rfl, rfl⟩
      go_wp2_with fail
      refine (isCarrier_yes _ _ HC.out).mono ?_
      rintro e w' ⟨rfl, rfl⟩
      go_wp2_with fail
      refine (areStitches_any _ S _ r.xs (H.out.up (by repeat (first | exact Chg.refl _ _ | apply Chg.drew | apply Chg.drewN | refine Chg.alloc ?_ _)))).mono ?_
      rintro e w' ⟨rfl, rfl⟩
      go_wp2
      go_ret
      exact ⟨ret_bool HB.out.symm, (by repeat (first | exact Chg.refl _ _ | apply Chg.drew | apply Chg.drewN | refine Chg.alloc ?_ _))⟩
    · have HB := Lib.hid (rowB_no2 hc)
      have HC := Lib.hid (show r.c < 1 ∨ 4 < r.c by omega)
      clear hd hc h7 h8
      go_enter Tryd.func54, Tryd.ntmps54
      go_wp2_with fail
      refine (isDirection_yes _ _ HD.out).mono ?_
      rintro e w' ⟨rfl, rfl⟩
      go_wp2_with fail
      refine (isCarrier_no _ _ HC.out).mono ?_
      rintro e w' ⟨rfl, rfl⟩
      go_wp2
      go_ret
      exact ⟨ret_bool HB.out.symm, (by repeat (first | exact Chg.refl _ _ | apply Chg.drew | apply Chg.drewN | refine Chg.alloc ?_ _))⟩
  · have HB := Lib.hid (rowB_no1 (r := r) hd)
    have HD := Lib.hid (show r.d ≠ 1 ∧ r.d ≠ -1 from ⟨fun h => hd (.inl h), fun h => hd (.inr h)⟩)
    clear hd h7 h8
    go_enter Tryd.func54, Tryd.ntmps54
    go_wp2_with fail
    refine (isDirection_no _ _ HD.out).mono ?_
    rintro e w' ⟨rfl, rfl⟩
    go_wp2
    go_ret
    exact ⟨ret_bool HB.out.symm, (by repeat (first | exact Chg.refl _ _ | apply Chg.drew | apply Chg.drewN | refine Chg.alloc ?_ _))⟩
theorem laidB_1 {xs : List Int} (h : inB (sumF takenK xs) 1 8 = false) : laidB xs = false := by unfold laidB; rw [h]; rfl
theorem laidB_2 {xs : List Int} (h : inB (sumF takenK xs) 1 8 = true) : laidB xs = inB (sumF madeK xs) 1 8 := by unfold laidB; rw [h]; rfl
end Go.Proofs.YtgdcffbakjfacaaDoor
namespace Go.Proofs.YtgdcffbakjfacaaDoor
open Go.ChangeShapes Go.WideShapes Go.ChangeAt Go.RowKit
def ixm (xs : List Int) (i : Nat) : Int := xs.getD i 0
theorem ixm_eq {xs : List Int} {i : Nat} (h : i < xs.length) : ixm xs i = xs[i] := by unfold ixm; simp [h]
theorem Ints.ixm {w : World} {S : Nat → Prop} {A : Option Addr} {c : Nat} {xs : List Int} (h : Ints w S (.slice A xs.length c) xs) {i : Nat} (hi : i < xs.length) :
    ∃ b o, A = some ⟨b, o, none⟩ ∧ b < w.heap.size ∧ ∀ j, j < xs.length → w.cell? ⟨b, o + j, none⟩ = some (.int .i64 (ixm xs j)) := by
  obtain ⟨A', c', he, _, _, _, hr, _⟩ := h
  obtain ⟨rfl, rfl⟩ : A = A' ∧ c = c' := by simpa using he
  obtain ⟨b, o, hA, _, hbl, hc⟩ := hr (by omega)
  exact ⟨b, o, hA, hbl, fun j hj => by rw [ixm_eq hj]; exact (hc j hj).1⟩
theorem up_prem {a b c : World} {S : Nat → Prop} (h : Up a b) (g : Chg S b c) : a.heap.size ≤ b.heap.size ∧ b.heap.size ≤ c.heap.size := ⟨h.size, g.size⟩
section
variable {P : Program} {w : World}
/-- behind an append the row lies in its own block, or in a new one -/
theorem append_block (base : Nat) (t ty e : TypeId) (i : TypeInfo) (z : Value) (size bytes : Nat) (ht : P.underlying t = some (.slice e)) (hi : P.info? e = some i) (hz : i.zero = some z)
    (hsize : i.size = size) (hby : i.bytes = bytes) (_hzs : z.cells.size = size) (_hsz : 0 < size)
    (v : Value) (n : Nat) (xs : List Value) (hown : w.ownsRow base e size v n xs)
    (a : Addr) (m c : Nat) (news : List Value) (hl : news.length = m * size) (hnews : ∀ j u, news[j]? = some u → w.cell? (a.add j) = some u) (h1 : ∀ u ∈ news, u.oneCell' = true)
    (h63 : n + m ≤ maxLen) (hbytes : (n + m) * bytes ≤ 140737488355328) {v' : Value} {w' : World}
    (hr : (Builtin.append_ #[t, t] ty #[v, .slice (some a) m c]).run P w = .ok v' w') : ∀ g, v'.ownBlock = some g → v.ownBlock = some g ∨ w.heap.size ≤ g := by
  subst hsize
  subst hby
  intro g hg
  have hsmall : n + m ≤ 9223372036854775807 := by simp only [maxLen] at h63; omega
  rcases hown.2 with ⟨rfl, rfl⟩ | ⟨g0, cap, cur, rfl, hbg, hg0, hnc, hcm, hcs, htake⟩
  · by_cases hm : m = 0
    · subst hm
      have hn : news = [] := List.eq_nil_of_length_eq_zero (by simpa using hl)
      subst hn
      have hrun : (Builtin.append_ #[t, t] ty #[.slice none 0 0, .slice (some a) 0 c]).run P w = .ok (.slice none 0 0) w := by
        simp [Builtin.append_, run_underlying ht, sizeOf, typeInfo, hi, Builtin.lenOf, Builtin.firstCells, loadCells, loadCellsFrom]
      rw [hrun] at hr
      injection hr with hr _
      subst hr
      simp [Value.ownBlock] at hg
    · have hrun := run_append_nil (P := P) w t ty e i z ht hi hz a m c news hl hnews (by omega) (by omega) (by have hb := hbytes; simp only [Nat.zero_add] at hb; omega)
      rw [hrun] at hr
      injection hr with hr _
      subst hr
      simp only [Value.ownBlock, Option.some.injEq] at hg
      exact .inr (by omega)
  · by_cases hroom : n + m ≤ cap
    · have hfit : n * i.size + news.length ≤ cur.size := by rw [hl, hcs, ← Nat.add_mul]; exact Nat.mul_le_mul_right _ hroom
      have hrun := run_append_room (P := P) w t ty e i ht hi g0 n cap cur hg0 a m c news hl hnews h1 hroom hfit
      rw [hrun] at hr
      injection hr with hr _
      subst hr
      exact .inl hg
    · have holds : ∀ j u, xs[j]? = some u → w.cell? ((⟨g0, 0, none⟩ : Addr).add j) = some u := hown.cells (g := g0) rfl
      have hrun := run_append_grow (P := P) w t ty e i z ht hi hz ⟨g0, 0, none⟩ n cap xs hown.1 holds a m c news hl hnews (by omega) (by omega) (growslice_fits (by omega) hbytes)
      rw [hrun] at hr
      injection hr with hr _
      subst hr
      simp only [Value.ownBlock, Option.some.injEq] at hg
      exact .inr (by omega)
theorem wpList_append_own2 {ops : Array Oper} {rest : List Oper} {o : Oper} {a : Act} {Q : Exit → Act → World → Prop} (hgd : o.guard = none) (s x : Operand) (t : TypeId)
    (ho : o.op = .call { callee := .builtin .append, args := #[s, x], argTypes := #[t, t] })
    (base : Nat) (e : TypeId) (i : TypeInfo) (z : Value) (size bytes : Nat) (ht : P.underlying t = some (.slice e)) (hi : P.info? e = some i) (hz : i.zero = some z)
    (hsize : i.size = size) (hby : i.bytes = bytes) (hzs : z.cells.size = size) (hsz : 0 < size)
    (v : Value) (n : Nat) (xs : List Value) (hs : a.eval s = v) (hown : w.ownsRow base e size v n xs)
    (ad : Addr) (m c : Nat) (news : List Value) (hx : a.eval x = .slice (some ad) m c) (hl : news.length = m * size) (hnews : ∀ j u, news[j]? = some u → w.cell? (ad.add j) = some u) (h1 : ∀ u ∈ news, u.oneCell' = true)
    (h63 : n + m ≤ maxLen) (hbytes : (n + m) * bytes ≤ 140737488355328) (hbase : base ≤ w.heap.size)
    (h : ∀ v' w', w'.ownsRow base e size v' (n + m) (xs ++ news) → w.grownBy w' v.ownBlock → (∀ g, v'.ownBlock = some g → v.ownBlock = some g ∨ w.heap.size ≤ g) → wpList P ops Q rest (a.put o.dst v') w') : wpList P ops Q (o :: rest) a w :=
  wpList_plain hgd fun K hK => by
    obtain ⟨v', w', hr, h2, h3, h4⟩ := run_append_own (P := P) w base t o.type e i z size bytes ht hi hz hsize hby hzs hsz v n xs hown ad m c news hl hnews h1 h63 hbytes hbase
    have h5 := append_block (P := P) base t o.type e i z size bytes ht hi hz hsize hby hzs hsz v n xs hown ad m c news hl hnews h1 h63 hbytes hr
    unfold Oper.wp execOp
    simp only [ho, resolve, invoke, builtin, Sem.run_bind, Sem.run_pure, Result.andThen_ok, List.map_toArray, List.map_cons, List.map_nil, hs, hx, hr]
    exact hK _ _ (h v' w' h2 h3 h5)
end
/-- a row of the call's own is kept where its block is -/
theorem ownsRow_kept {w w' : World} {base : Nat} {e : TypeId} {k : Nat} {v : Value} {n : Nat} {cs : List Value} {S : Nat → Prop} (h : w.ownsRow base e k v n cs) (g : Chg S w w') (hS : ∀ b, v.ownBlock = some b → ¬ S b) : w'.ownsRow base e k v n cs := by
  refine ⟨h.1, ?_⟩
  rcases h.2 with h2 | ⟨b, cap, cur, rfl, hg, hh, r⟩
  · exact Or.inl h2
  · exact Or.inr ⟨b, cap, cur, rfl, hg, (g.block b (Array.getElem?_eq_some_iff.1 hh).1 (hS b rfl)).trans hh, r⟩
theorem Chg.of_grown {w w' : World} {row : Option Nat} (h : w.grownBy w' row) : Chg (fun b => row = some b) w w' := (Chg.refl _ _).grown h fun _ hk => .inl hk
/-- 'out = append(out, x)' beside other rows -/
theorem wp_append_int2 {w : World} {ops : Array Oper} {rest : List Oper} {o : Oper} {a : Act} {Q : Exit → Act → World → Prop} (hgd : o.guard = none) (s x : Operand)
    (ho : o.op = .call { callee := .builtin .append, args := #[s, x], argTypes := #[31, 31] })
    (base : Nat) (v : Value) (xs : List Int) (hs : a.eval s = v) (hown : OwnI w base v xs)
    (g : Nat) (n : Int) (hx : a.eval x = .slice (some ⟨g, 0, none⟩) 1 1) (hc : w.cell? ⟨g, 0, none⟩ = some (.int .i64 n)) (hn : I64 n) (hlen : xs.length ≤ 1099511627776) (hbase : base ≤ w.heap.size)
    (h : ∀ v' w', OwnI w' base v' (xs ++ [n]) → Chg (fun b => v.ownBlock = some b) w w' → (∀ b, v'.ownBlock = some b → v.ownBlock = some b ∨ w.heap.size ≤ b) → Chg (fun k => base ≤ k) w w' → wpList Tryd.prog ops Q rest (a.put o.dst v') w') : wpList Tryd.prog ops Q (o :: rest) a w := by
  obtain ⟨i0, hi, hz0, hz1, hz2⟩ := info_parts info2
  refine wpList_append_own2 (P := Tryd.prog) hgd s x 31 ho base 2 i0 (.int .i64 0) 1 8 Tryd.underlying31 hi hz0 hz1 hz2 rfl (by decide) v xs.length _ hs hown.1 ⟨g, 0, none⟩ 1 1 [.int .i64 n] hx rfl ?_ ?_ ?_ ?_ hbase ?_
  · intro j u hu
    cases j with
    | zero => simp only [List.getElem?_cons_zero, Option.some.injEq] at hu; subst hu; rw [add_zero]; exact hc
    | succ j => simp at hu
  · intro u hu; simp at hu; subst hu; rfl
  · unfold Go.maxLen; omega
  · omega
  · intro v' w' h2 h3 h4
    refine h v' w' ⟨by simpa using h2, fun y hy => ?_⟩ (Chg.of_grown h3) h4 ((Chg.refl _ _).grown h3 fun k hk => .inl (hown.1.lt k hk).1)
    rcases List.mem_append.1 hy with h4 | h4
    · exact hown.2 y h4
    · simp at h4; subst h4; exact hn
theorem OwnI.lt {w : World} {base : Nat} {v : Value} {xs : List Int} (h : OwnI w base v xs) {g : Nat} (hg : v.ownBlock = some g) : base ≤ g ∧ g < w.heap.size := h.1.lt g hg
theorem OwnI.rd {w : World} {base : Nat} {v : Value} {xs : List Int} (h : OwnI w base v xs) : Ints w (fun b => v.ownBlock = some b ∧ base ≤ b ∧ b < w.heap.size) v xs := by
  obtain ⟨A, c, rfl, h1, h2, h3, h4, h5⟩ := h.ints
  refine ⟨A, c, rfl, h1, h2, h3, fun hp => ?_, h5⟩
  obtain ⟨b, o, rfl, hs, hb, hc⟩ := h4 hp
  exact ⟨b, o, rfl, ⟨rfl, hs⟩, hb, hc⟩
/-- a slice of slices of numbers; each of them, and the row of them, in blocks of its own -/
def IntSS (w : World) (S : Nat → Prop) (v : Value) (xss : List (List Int)) : Prop :=
  ∃ (vs : List Value) (R : Nat → Prop) (Q : Nat → Nat → Prop), Raw w R 1 v xss.length vs ∧ (∀ b, R b → S b) ∧ (∀ i b, Q i b → S b ∧ ¬ R b) ∧ (∀ i j b, Q i b → Q j b → i = j) ∧
    ∀ i (h : i < xss.length), ∃ u, vs[i]? = some u ∧ Ints w (Q i) u xss[i]
section
variable {S T : Nat → Prop} {w w' : World} {v : Value} {xss : List (List Int)}
theorem IntSS.keep (h : IntSS w S v xss) (g : Chg T w w') (hd : ∀ b, b < w.heap.size → S b → ¬ T b) : IntSS w' S v xss := by
  obtain ⟨vs, R, Q, h1, h2, h3, h4, h5⟩ := h
  exact ⟨vs, R, Q, h1.keep g (fun b hb hr => hd b hb (h2 b hr)), h2, h3, h4, fun i hi => by
    obtain ⟨u, hu, hk⟩ := h5 i hi
    exact ⟨u, hu, hk.keep g (fun b hb hq => hd b hb (h3 i b hq).1)⟩⟩
theorem IntSS.up (h : IntSS w S v xss) (g : Up w w') : IntSS w' S v xss := h.keep g fun _ _ _ h => h
theorem IntSS.mono (h : IntSS w S v xss) (hs : ∀ b, S b → T b) : IntSS w T v xss := by
  obtain ⟨vs, R, Q, h1, h2, h3, h4, h5⟩ := h
  exact ⟨vs, R, Q, h1, fun b hb => hs b (h2 b hb), fun i b hq => ⟨hs b (h3 i b hq).1, (h3 i b hq).2⟩, h4, h5⟩
theorem IntSS.shape (h : IntSS w S v xss) : ∃ A c, v = .slice A xss.length c ∧ xss.length ≤ c ∧ c ≤ 9223372036854775807 ∧ (A = none → c = 0) := by
  obtain ⟨vs, R, Q, h1, _⟩ := h
  exact h1.shape
theorem IntSS.nil (w : World) (S : Nat → Prop) (c : Nat) (A : Option Addr) (hc : c ≤ 9223372036854775807) (hA : A = none → c = 0 := by simp) : IntSS w S (.slice A 0 c) [] :=
  ⟨[], fun _ => False, fun _ _ => False, Raw.nil w _ 1 c A hc hA, fun _ h => h.elim, fun _ _ h => h.elim, fun _ _ _ h => h.elim, fun i h => by simp at h⟩
/-- an element -/
theorem IntSS.at_ (h : IntSS w S v xss) {i : Nat} (hi : i < xss.length) : ∃ b o c A ci, v = .slice (some ⟨b, o, none⟩) xss.length c ∧ S b ∧ b < w.heap.size ∧ w.cell? ⟨b, o + i, none⟩ = some (.slice A xss[i].length ci) ∧ Ints w S (.slice A xss[i].length ci) xss[i] ∧ xss[i].length ≤ ci ∧ ci ≤ 9223372036854775807 := by
  obtain ⟨vs, R, Q, ⟨h0, A, c, rfl, h1, h2, h4, _⟩, hR, hQ, hD, h5⟩ := h
  obtain ⟨b, o, rfl, hs, hb, hc⟩ := h4 (by omega)
  obtain ⟨u, hu, hk⟩ := h5 i hi
  obtain ⟨Ai, ci, rfl, h6, h7, _⟩ := hk.shape
  obtain ⟨hlt, he⟩ := List.getElem?_eq_some_iff.1 hu
  refine ⟨b, o, c, Ai, ci, rfl, hR b hs, hb, ?_, hk.mono (fun b _ hq => (hQ i b hq).1), h6, h7⟩
  rw [← he]
  exact (hc i hlt).1
end
/-- such a row of the call's own -/
def OwnSS (w : World) (base : Nat) (v : Value) (xss : List (List Int)) : Prop :=
  ∃ (vs : List Value) (Q : Nat → Nat → Prop), w.ownsRow base 31 1 v xss.length vs ∧ (∀ i b, Q i b → base ≤ b ∧ b < w.heap.size ∧ v.ownBlock ≠ some b) ∧ (∀ i j b, Q i b → Q j b → i = j) ∧
    ∀ i (h : i < xss.length), ∃ u, vs[i]? = some u ∧ Ints w (Q i) u xss[i]
theorem OwnSS.made (w : World) (base : Nat) (hb : base ≤ w.heap.size) : OwnSS (w.alloc (.cells #[] 31)) base (.slice (some ⟨w.heap.size, 0, none⟩) 0 0) [] :=
  ⟨[], fun _ _ => False, World.ownsRow_made w _ 0 hb (by unfold Go.maxLen; omega) (by simp), fun _ _ h => h.elim, fun _ _ _ h => h.elim, fun i h => by simp at h⟩
theorem OwnSS.up {w w' : World} {base : Nat} {v : Value} {xss : List (List Int)} (h : OwnSS w base v xss) (g : Up w w') : OwnSS w' base v xss := by
  obtain ⟨vs, Q, h1, h2, h3, h4⟩ := h
  refine ⟨vs, Q, ownsRow_kept h1 g (fun _ _ h => h), fun i b hq => ?_, h3, fun i hi => ?_⟩
  · obtain ⟨a1, a2, a3⟩ := h2 i b hq
    exact ⟨a1, Nat.lt_of_lt_of_le a2 g.size, a3⟩
  · obtain ⟨u, hu, hk⟩ := h4 i hi
    exact ⟨u, hu, hk.up g⟩
theorem OwnSS.ss {w : World} {base : Nat} {v : Value} {xss : List (List Int)} (h : OwnSS w base v xss) : IntSS w (New base w.heap.size) v xss := by
  obtain ⟨vs, Q, h1, h2, h3, h4⟩ := h
  have hr := Raw.of_own h1
  obtain ⟨h0, A, c, rfl, a1, a2, a4, a5⟩ := hr
  refine ⟨vs, fun b => Value.ownBlock (.slice A xss.length c) = some b ∧ New base w.heap.size b, Q, ⟨h0, A, c, rfl, a1, a2, fun hp => ?_, a5⟩, fun b hb => hb.2, fun i b hq => ?_, h3, h4⟩
  · obtain ⟨b, o, rfl, hs, hb, hc⟩ := a4 hp
    exact ⟨b, o, rfl, ⟨rfl, hs⟩, hb, hc⟩
  · obtain ⟨q1, q2, q3⟩ := h2 i b hq
    exact ⟨⟨q1, q2⟩, fun hh => q3 hh.1⟩
theorem infoS : (Tryd.prog.info? 31).map (fun i => (i.zero, i.size, i.bytes)) = some (some (.slice none 0 0), 1, 24) := by kernel_rfl
set_option maxRecDepth 100000 in
/-- 'out = append(out, list)', where the list was made behind the row -/
theorem wp_append_ss {w : World} {ops : Array Oper} {rest : List Oper} {o : Oper} {a : Act} {Q : Exit → Act → World → Prop} (hgd : o.guard = none) (s x : Operand)
    (ho : o.op = .call { callee := .builtin .append, args := #[s, x], argTypes := #[24, 24] })
    (base : Nat) (wr : World) (v : Value) (xss : List (List Int)) (hs : a.eval s = v) (hown : OwnSS wr base v xss) (hup : Up wr w)
    (g : Nat) (u : Value) (ys : List Int) (hx : a.eval x = .slice (some ⟨g, 0, none⟩) 1 1) (hc : w.cell? ⟨g, 0, none⟩ = some u) (hu : Ints w (New wr.heap.size w.heap.size) u ys) (hlen : xss.length ≤ 1099511627) (hbase : base ≤ wr.heap.size)
    (h : ∀ v' w', OwnSS w' base v' (xss ++ [ys]) → Chg (fun k => base ≤ k) w w' → wpList Tryd.prog ops Q rest (a.put o.dst v') w') : wpList Tryd.prog ops Q (o :: rest) a w := by
  obtain ⟨i0, hi, hz0, hz1, hz2⟩ := info_parts infoS
  obtain ⟨A, c, rfl, -⟩ := hu.shape
  obtain ⟨vs, q, h1, h2, h3, h4⟩ := hown
  have hsz := hup.size
  have h1' := ownsRow_kept h1 hup (fun _ _ h => h)
  refine wpList_append_own2 (P := Tryd.prog) hgd s x 24 ho base 31 i0 (.slice none 0 0) 1 24 Tryd.underlying24 hi hz0 hz1 hz2 rfl (by decide) v xss.length _ hs h1' ⟨g, 0, none⟩ 1 1 [.slice A ys.length c] hx rfl ?_ ?_ ?_ ?_ (by omega) ?_
  · intro j r hr
    cases j with
    | zero => simp only [List.getElem?_cons_zero, Option.some.injEq] at hr; subst hr; rw [add_zero]; exact hc
    | succ j => simp at hr
  · intro r hr; simp at hr; subst hr; rfl
  · unfold Go.maxLen; omega
  · omega
  · intro v' w' k1 k2 k3
    have hlt := h1.lt
    have hown2 : ∀ b, v.ownBlock = some b → b < wr.heap.size := fun b hb => (hlt b hb).2
    have hvl : vs.length = xss.length := by have := h1.1; omega
    refine h v' w' ⟨vs ++ [.slice A ys.length c], fun i b => (i < xss.length ∧ q i b) ∨ (i = xss.length ∧ New wr.heap.size w.heap.size b), by simpa using k1, ?_, ?_, ?_⟩ ((Chg.refl _ _).grown k2 fun k hk => .inl (hlt k hk).1)
    · rintro i b (⟨hi', hq⟩ | ⟨rfl, hq⟩)
      · obtain ⟨a1, a2, a3⟩ := h2 i b hq
        refine ⟨a1, by have := k2.size; omega, fun hh => ?_⟩
        rcases k3 b hh with k4 | k4
        · exact a3 k4
        · omega
      · refine ⟨by have := hq.1; omega, by have := k2.size; have := hq.2; omega, fun hh => ?_⟩
        rcases k3 b hh with k4 | k4
        · have := hown2 b k4; have := hq.1; omega
        · have := hq.2; omega
    · rintro i j b (⟨hi', hq⟩ | ⟨rfl, hq⟩) (⟨hj', hq'⟩ | ⟨rfl, hq'⟩)
      · exact h3 i j b hq hq'
      · have := (h2 i b hq).2.1; have := hq'.1; omega
      · have := (h2 j b hq').2.1; have := hq.1; omega
      · rfl
    · intro i hi'
      have hC := Chg.of_grown k2
      by_cases he : i < xss.length
      · obtain ⟨r, hr, hk⟩ := h4 i he
        refine ⟨r, by rw [List.getElem?_append_left (by omega)]; exact hr, ?_⟩
        rw [List.getElem_append_left he]
        exact ((hk.up hup).keep hC (fun b _ hq hb => (h2 i b hq).2.2 hb)).mono (fun b _ hq => .inl ⟨he, hq⟩)
      · have hi2 : i = xss.length := by simp at hi'; omega
        subst hi2
        refine ⟨.slice A ys.length c, by rw [List.getElem?_append_right (by omega), hvl]; simp, ?_⟩
        rw [List.getElem_append_right (by omega)]
        simp only [Nat.sub_self, List.getElem_cons_zero]
        exact (hu.keep hC (fun b _ hq hb => by have := hown2 b hb; have := hq.1; omega)).mono (fun b _ hq => .inr ⟨by first | rfl | trivial, hq⟩)
end Go.Proofs.YtgdcffbakjfacaaDoor
namespace Go.Proofs.YtgdcffbakjfacaaDoor
open Go.ChangeShapes Go.WideShapes Go.ChangeAt Go.RowKit
theorem countM_succ (a : Int) (j : Nat) : countM a ((j : Int) + 1) = countM a j ++ [a + j] := by
  unfold countM
  rw [show ((j : Int) + 1).toNat = j + 1 by omega, List.range_succ]
  simp
theorem countM_len (a : Int) (j : Nat) : (countM a j).length = j := by rw [countM_length]; omega
theorem RowAt.open_ {w : World} {S : Nat → Prop} {b o : Nat} {r : RowM} (h : RowAt w S b o r) : ∃ A c, w.cell? ⟨b, o, none⟩ = some (.int .i64 r.d) ∧ w.cell? ⟨b, o + 1, none⟩ = some (.int .i64 r.c) ∧ w.cell? ⟨b, o + 2, none⟩ = some (.slice A r.xs.length c) ∧ Ints w S (.slice A r.xs.length c) r.xs ∧ r.xs.length ≤ c ∧ c ≤ 9223372036854775807 := by
  obtain ⟨A, c, h1, h2, h3, h4, h5, h6, _⟩ := h
  exact ⟨A, c, h1, h2, h3, h4, h5, h6⟩
end Go.Proofs.YtgdcffbakjfacaaDoor
namespace Go.Proofs.YtgdcffbakjfacaaDoor
open Go.ChangeShapes Go.WideShapes Go.ChangeAt Go.RowKit
def planCode (xs ys : List Int) : Int := if placesB false xs = true ∧ placesB true ys = true ∧ xs.length = ys.length then (if groupsB xs ys = true then 0 else 12) else 1
def planOut (xs ys : List Int) : List MoveM := if planCode xs ys = 0 then planM xs ys else []
theorem planCode_ok {xs ys : List Int} (h1 : placesB false xs = true) (h2 : placesB true ys = true) (h3 : xs.length = ys.length) (h4 : groupsB xs ys = true) : planCode xs ys = 0 := by unfold planCode; rw [if_pos ⟨h1, h2, h3⟩, if_pos h4]
theorem planCode_12 {xs ys : List Int} (h1 : placesB false xs = true) (h2 : placesB true ys = true) (h3 : xs.length = ys.length) (h4 : groupsB xs ys = false) : planCode xs ys = 12 := by unfold planCode; rw [if_pos ⟨h1, h2, h3⟩, if_neg (by simp [h4])]
theorem planCode_1 {xs ys : List Int} (h : placesB false xs = false ∨ placesB true ys = false ∨ xs.length ≠ ys.length) : planCode xs ys = 1 := by
  unfold planCode
  rw [if_neg]
  rintro ⟨h1, h2, h3⟩
  rcases h with h | h | h
  · simp [h1] at h
  · simp [h2] at h
  · exact h h3
theorem planOut_ok {xs ys : List Int} (h : planCode xs ys = 0) : planOut xs ys = planM xs ys := if_pos h
theorem planOut_no {xs ys : List Int} {c : Int} (h : planCode xs ys = c) (hc : c ≠ 0) : planOut xs ys = [] := if_neg (by rw [h]; exact hc)
theorem planOk_of {xs ys : List Int} (h1 : placesB false xs = true) (h2 : placesB true ys = true) (h3 : xs.length = ys.length) : PlanOk xs ys :=
  ⟨h3, places_short h1, fun i hi => places_in h1 hi, fun i hi => places_in h2 (by omega)⟩
theorem planM_len {xs ys : List Int} (h : xs.length ≤ 8) : (planM xs ys).length ≤ 384 := by
  unfold planM
  rw [List.length_append]
  have h1 := upTo_len xs ys xs.length
  have h2 := downTo_len xs ys xs.length
  omega
theorem ret_mi {v : Value} {a b : Int} (h : a = b) : Ending.returned (.tuple #[v, .int .i64 a]) = .returned (.tuple #[v, .int .i64 b]) := by rw [h]
end Go.Proofs.YtgdcffbakjfacaaDoor
