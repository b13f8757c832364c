/- The reference's draw of a row: it ends, with some row. No condition but room. -/
import Derived.Test.YtnjfhpgmogopnaaDrw
import Derived.Test.YtnjfhpgmogopnaaRow3
import Derived.Test.YtnjfhpgmogopnaaRow6
import Derived.Test.YtnjfhpgmogopnaaStkM
import Derived.Test.YtnjfhpgmogopnaaRowLaw
set_option linter.unusedSimpArgs false
set_option linter.unusedVariables false
set_option maxRecDepth 100000
set_option maxHeartbeats 1000000
namespace Go.Proofs.Ytnjfhpgmogopnaa
open Go.ChangeShapes Go.WideShapes Go.ChangeAt Go.RowKit
theorem litI (w : World) (ys : List Int) (hy : ∀ x ∈ ys, I64 x) (hl : ys.length ≤ 100) (arr : Array Value) (ha : ∀ t (ht : t < ys.length), arr[t]? = some (.int .i64 ys[t])) (n : Nat) (hn : n = ys.length) :
    Ints (w.alloc (.cells arr 2)) (fun x => x = w.heap.size) (.slice (some ⟨w.heap.size, 0, none⟩) n n) ys := by
  subst hn
  exact Ints.of_cells (xs := ys) rfl (by simp) (Nat.le_refl _) (by omega) hy (fun t ht => ⟨by rw [cell_new]; exact ha t ht, frozen_new _ _ _ _⟩)
theorem lit11 (w : World) : Ints (w.alloc (.cells #[.int .i64 1, .int .i64 1] 2)) (fun x => x = w.heap.size) (.slice (some ⟨w.heap.size, 0, none⟩) 2 2) [1, 1] :=
  litI w [1, 1] (by intro x hx; have : x = 1 := by simpa using hx
                    subst this; unfold I64; omega) (by decide) _ (by
    intro t ht
    have ht2 : t < 2 := ht
    have : t = 0 ∨ t = 1 := by omega
    rcases this with rfl | rfl <;> rfl) 2 rfl
theorem lit33 (w : World) : Ints (w.alloc (.cells #[.int .i64 3, .int .i64 3] 2)) (fun x => x = w.heap.size) (.slice (some ⟨w.heap.size, 0, none⟩) 2 2) [3, 3] :=
  litI w [3, 3] (by intro x hx; have : x = 3 := by simpa using hx
                    subst this; unfold I64; omega) (by decide) _ (by
    intro t ht
    have ht2 : t < 2 := ht
    have : t = 0 ∨ t = 1 := by omega
    rcases this with rfl | rfl <;> rfl) 2 rfl
theorem litXY (w : World) : Ints (w.alloc (.cells #[.int .i64 10, .int .i64 11, .int .i64 1] 2)) (fun x => x = w.heap.size) (.slice (some ⟨w.heap.size, 0, none⟩) 3 3) [10, 11, 1] :=
  litI w [10, 11, 1] (by intro x hx; have : x = 10 ∨ x = 11 ∨ x = 1 := by simpa using hx
                         unfold I64; omega) (by decide) _ (by
    intro t ht
    have ht2 : t < 3 := ht
    have : t = 0 ∨ t = 1 ∨ t = 2 := by omega
    rcases this with rfl | rfl | rfl <;> rfl) 3 rfl
theorem l14Bent_any (w : World) (b : Nat) (A : Option Addr) (cp : Nat) (bs : List Nat) (t seed n : Nat) (h : SrcAt w b A cp bs t seed) (ht : t ≤ 1000) (hn : n ≤ 8) :
    Calls Try.prog 195 #[.pointer (some ⟨b, 0, none⟩), .int .i64 (n : Int)] w fun e w' => ∃ (v : Value) (xs : List Int) (t' seed' : Nat), e = .returned v ∧ Ints w' (New w.heap.size w'.heap.size) v xs ∧ SrcAt w' b A cp bs t' seed' ∧ t' ≤ 1152921504606847000 ∧ Chg (fun k => k = b) w w' := by
  have hbw := h.lt
  have HAB : Hid (0 < bs.length → ∀ x, w.heap.size ≤ x → ∀ o, A ≠ some ⟨x, o, none⟩) := Lib.hid (fun hp x hx o hA => by
    obtain ⟨gb, go, hA2, -, hc⟩ := h.rd hp
    rw [hA] at hA2
    injection hA2 with hA3
    injection hA3 with hA4 _ _
    have := World.block_lt_of_cell? _ _ (hc 0 hp).1
    simp only [] at this
    omega)
  have HS := Lib.hid h
  clear h
  go_enter Try.func195, Try.ntmps195
  go_wp2_with fail
  refine (l14Draw_any _ b A cp bs t seed n HS.out ht hn).mono ?_
  rintro e w1 ⟨v1, xs, t1, sd1, rfl, o1, hxl, s1, ht1, g1⟩
  have HO1 := Lib.hid o1
  have HS1 := Lib.hid s1
  have HC1 := Lib.hid g1
  obtain ⟨Aq, cq, rfl, hlq, hcq, -⟩ := o1.ints.shape
  clear o1 s1 g1
  go_wp2_with fail
  refine (pick_any _ b A cp bs t1 sd1 14 HS1.out (by omega) (by omega) (by omega)).mono ?_
  rintro e w2 ⟨x2, sd2, rfl, hx2, s2, g2, hl2⟩
  have HS2 := Lib.hid s2
  have HO2 := Lib.hid (HO1.out.kept g2 (fun g hg h9 => by have := (HO1.out.lt hg).1; have h9 : g = b := h9; omega))
  have HC2 := Lib.hid (Chg.trans HC1.out g2)
  obtain ⟨y, hy⟩ : ∃ y, y = x2 % 14 := ⟨_, rfl⟩
  rw [← hy]
  clear s2 g2 hl2 hy HO1 HS1 HC1
  have hxl2 : Hid (xs.length ≤ 1099511627776) := Lib.hid (by omega)
  by_cases h0 : y = 0
  · subst h0
    go_wp2_with fail
    refine (pick_any _ b A cp bs (t1 + 1) sd2 14 HS2.out (by omega) (by omega) (by omega)).mono ?_
    rintro e w3 ⟨x3, sd3, rfl, hx3, s3, g3, hl3⟩
    have HS3 := Lib.hid s3
    have HO3 := Lib.hid (HO2.out.kept g3 (fun g hg h9 => by have := (HO2.out.lt hg).1; have h9 : g = b := h9; omega))
    have HC3 := Lib.hid (Chg.trans HC2.out g3)
    have hz : x3 % 14 < 14 := Nat.mod_lt _ (by omega)
    obtain ⟨z, hz2⟩ : ∃ y, y = x3 % 14 := ⟨_, rfl⟩
    rw [← hz2] at hz ⊢
    have HZI : Hid (I64 ((z : Int) - 1)) := Lib.hid (by unfold I64; omega)
    clear s3 g3 hl3 hz2
    go_wp2_with (first | (at_builtin; refine wp_append_int rfl _ _ rfl w.heap.size _ xs rfl (HO3.out.up (by repeat (first | exact Chg.refl _ _ | apply Chg.drew | apply Chg.drewN | refine Chg.alloc ?_ _))) _ ((z : Int) - 1) rfl (cell_new _ _ _ _) HZI.out hxl2.out (by have := HC3.out.size; simp [World.size_alloc]; omega) ?_; intro v5 w5 ho5 _ g5; obtain ⟨L5, HL5⟩ : ∃ L, Hid (L = xs ++ [(z : Int) - 1]) := ⟨_, Lib.hid rfl⟩; rw [← HL5.out] at ho5; obtain ⟨A5, c5, rfl, -⟩ := ho5.ints.shape; have HO5 := Lib.hid ho5; have HS5 := Lib.hid ((HS3.out.up (by repeat (first | exact Chg.refl _ _ | apply Chg.drew | apply Chg.drewN | refine Chg.alloc ?_ _))).keep g5 (fun h9 => by omega) (fun hp y _ hy o => HAB.out hp y hy o)); have HC5 := Lib.hid (show Chg (fun k => k = b) w w5 from Chg.later (Chg.trans HC3.out (by repeat (first | exact Chg.refl _ _ | apply Chg.drew | apply Chg.drewN | refine Chg.alloc ?_ _))) g5 (fun i hi h9 => by omega)); clear ho5 g5))
    go_ret
    exact ⟨_, _, _, _, rfl, HO5.out.ints, HS5.out, by omega, HC5.out⟩
  · have e0 : ((y : Int) == 0) = false := by simp; omega
    by_cases h1 : y = 1
    · subst h1
      have HL := Lib.hid (lit11 w2)
      have HLN : Hid (xs.length + [(1 : Int), 1].length ≤ 1099511627776) := Lib.hid (by simp; omega)
      go_wp2_with (first | (at_builtin; refine wp_append_ints rfl _ _ rfl w.heap.size _ xs rfl (HO2.out.up (by repeat (first | exact Chg.refl _ _ | apply Chg.drew | apply Chg.drewN | refine Chg.alloc ?_ _))) (fun x => x = w2.heap.size) _ [1, 1] rfl HL.out HLN.out (by have := HC2.out.size; simp [World.size_alloc]; omega) ?_; intro v5 w5 ho5 _ _ g5; obtain ⟨L5, HL5⟩ : ∃ L, Hid (L = xs ++ [(1 : Int), 1]) := ⟨_, Lib.hid rfl⟩; rw [← HL5.out] at ho5; obtain ⟨A5, c5, rfl, -⟩ := ho5.ints.shape; have HO5 := Lib.hid ho5; have HS5 := Lib.hid ((HS2.out.up (by repeat (first | exact Chg.refl _ _ | apply Chg.drew | apply Chg.drewN | refine Chg.alloc ?_ _))).keep g5 (fun h9 => by omega) (fun hp y _ hy o => HAB.out hp y hy o)); have HC5 := Lib.hid (show Chg (fun k => k = b) w w5 from Chg.later (Chg.trans HC2.out (by repeat (first | exact Chg.refl _ _ | apply Chg.drew | apply Chg.drewN | refine Chg.alloc ?_ _))) g5 (fun i hi h9 => by omega)); clear ho5 g5))
      go_ret
      exact ⟨_, _, _, _, rfl, HO5.out.ints, HS5.out, by omega, HC5.out⟩
    · have e1 : ((y : Int) == 1) = false := by simp; omega
      by_cases h2 : y = 2
      · subst h2
        go_wp2
        go_loopw [5] (fun q0 wr => ∃ (ys : List Int) (q : Value), q = q0 ∧ ys.length ≤ 24 ∧ Hid (OwnI wr w.heap.size q ys) ∧ Hid (SrcAt wr b A cp bs (t1 + 1) sd2) ∧ Hid (Chg (fun k => k = b) w wr)) (fun q0 _ => 24 - (match q0 with | .slice _ n _ => n | _ => 0))
        case atStart => exact ⟨xs, _, rfl, hxl, HO2, HS2, HC2⟩
        case round =>
          obtain ⟨ys, q, rfl, hyl, hq, hs, hc⟩ := hrel
          obtain ⟨Ar, cr, rfl, hlr, hcr, -⟩ := hq.out.ints.shape
          by_cases h17 : ys.length ≤ 16
          · have e3 : decide ((ys.length : Int) ≤ 16) = true := decide_eq_true (by omega)
            have HLY : Hid (ys.length ≤ 1099511627776) := Lib.hid (by omega)
            have HI3 : Hid (I64 (3 : Int)) := Lib.hid (by unfold I64; omega)
            go_wp2_with (first | (at_builtin; refine wp_append_int rfl _ _ rfl w.heap.size _ ys rfl (hq.out.up (by repeat (first | exact Chg.refl _ _ | apply Chg.drew | apply Chg.drewN | refine Chg.alloc ?_ _))) _ 3 rfl (cell_new _ _ _ _) HI3.out HLY.out (by have := hc.out.size; simp [World.size_alloc]; omega) ?_; intro v5 w5 ho5 _ g5; obtain ⟨L5, HL5⟩ : ∃ L, Hid (L = ys ++ [(3 : Int)]) := ⟨_, Lib.hid rfl⟩; rw [← HL5.out] at ho5; obtain ⟨A5, c5, rfl, -⟩ := ho5.ints.shape; have HO5 := Lib.hid ho5; have HS5 := Lib.hid ((hs.out.up (by repeat (first | exact Chg.refl _ _ | apply Chg.drew | apply Chg.drewN | refine Chg.alloc ?_ _))).keep g5 (fun h9 => by omega) (fun hp y _ hy o => HAB.out hp y hy o)); have HC5 := Lib.hid (show Chg (fun k => k = b) w w5 from Chg.later (Chg.trans hc.out (by repeat (first | exact Chg.refl _ _ | apply Chg.drew | apply Chg.drewN | refine Chg.alloc ?_ _))) g5 (fun i hi h9 => by omega)); clear ho5 g5))
            go_roundw
            case rel => exact ⟨L5, _, rfl, by rw [HL5.out]; simp; omega, HO5, HS5, HC5⟩
            case measure => (have hl5 := congrArg List.length HL5.out); simp at hl5 ⊢; omega
          · have e3 : decide ((ys.length : Int) ≤ 16) = false := decide_eq_false (by omega)
            go_wp2_with fail
            refine (pick_any _ b A cp bs (t1 + 1) sd2 2 hs.out (by omega) (by omega) (by omega)).mono ?_
            rintro e w3 ⟨x3, sd3, rfl, hx3, s3, g3, hl3⟩
            have HS3 := Lib.hid s3
            have hz : x3 % 2 < 2 := Nat.mod_lt _ (by omega)
            obtain ⟨z, hz2⟩ : ∃ y, y = x3 % 2 := ⟨_, rfl⟩
            rw [← hz2] at hz ⊢
            have HO3 := Lib.hid (hq.out.kept g3 (fun g hg h9 => by have := (hq.out.lt hg).1; have h9 : g = b := h9; omega))
            have HC3 := Lib.hid (Chg.trans hc.out g3)
            have HT := Lib.hid (HO3.out.ints.took (k := 16 + z) (by omega) rfl)
            clear s3 g3 hl3 hz2
            go_wp2
            go_ret
            exact ⟨_, _, _, _, rfl, HT.out, HS3.out, by omega, HC3.out⟩
      · have e2 : ((y : Int) == 2) = false := by simp; omega
        go_wp2
        go_ret
        exact ⟨_, _, _, _, rfl, HO2.out.ints, HS2.out, by omega, HC2.out⟩
theorem CellF.set {w : World} {p q : Addr} {u v : Value} (h : CellF w q v) (hne : q ≠ p) : CellF (w.setCell p u) q v := ⟨(World.cell?_setCell_other _ _ _ _ hne.symm).trans h.1, by simpa using h.2⟩
theorem CellF.same {w : World} {p : Addr} {u v : Value} (h : CellF w p v) : CellF (w.setCell p u) p u := ⟨World.cell?_setCell_same _ _ _ h.1, by simpa using h.2⟩
theorem row_end {w w6 wz : World} {b B : Nat} {d c : Int} {s : Value} {xs : List Int} {S : Nat → Prop} (hC : Chg (fun k => k = b) (w.alloc (.cells #[.int .i64 0, .int .i64 0, .slice none 0 0] 87)) w6) (hs : Ints w6 S s xs) (hS : ∀ x, S x → B < x) (hB : w.heap.size < B) (hd : I64 d) (hc : I64 c) (hZ : Chg (fun k => k = B ∨ k = w.heap.size) w6 wz) :
    ∃ (v : Value) (r : RowM), Ending.returned (.agg #[.int .i64 d, .int .i64 c, s]) = .returned v ∧ RowV wz (New w.heap.size wz.heap.size) v r ∧ Chg (fun k => k = b) w wz := by
  refine ⟨_, ⟨d, c, xs⟩, rfl, ⟨s, rfl, (hs.keep hZ fun x _ hx hx2 => ?_).mono fun x hl hx => ⟨?_, hl⟩, hd, hc⟩, Chg.later (Chg.trans (by repeat (first | exact Chg.refl _ _ | apply Chg.drew | apply Chg.drewN | refine Chg.alloc ?_ _)) hC) hZ fun i hi h9 => ?_⟩
  · have := hS x hx
    rcases hx2 with h9 | h9 <;> omega
  · have := hS x hx
    omega
  · rcases h9 with h9 | h9 <;> omega
theorem row_end2 {w w6 wz : World} {b B : Nat} {d c : Int} {s : Value} {xs : List Int} {S : Nat → Prop} (hC : Chg (fun k => k = b) (w.alloc (.cells #[.int .i64 0, .int .i64 0, .slice none 0 0] 87)) w6) (hs : Ints wz S s xs) (hS : ∀ x, S x → B < x) (hB : w.heap.size < B) (hd : I64 d) (hc : I64 c) (hZ : Chg (fun k => k = B ∨ k = w.heap.size) w6 wz) :
    ∃ (v : Value) (r : RowM), Ending.returned (.agg #[.int .i64 d, .int .i64 c, s]) = .returned v ∧ RowV wz (New w.heap.size wz.heap.size) v r ∧ Chg (fun k => k = b) w wz :=
  ⟨_, ⟨d, c, xs⟩, rfl, ⟨s, rfl, hs.mono fun x hl hx => ⟨by have := hS x hx; omega, hl⟩, hd, hc⟩, Chg.later (Chg.trans (by repeat (first | exact Chg.refl _ _ | apply Chg.drew | apply Chg.drewN | refine Chg.alloc ?_ _)) hC) hZ fun i hi h9 => by rcases h9 with h9 | h9 <;> omega⟩
set_option maxHeartbeats 2000000 in
theorem l20Row_any (w : World) (b : Nat) (A : Option Addr) (cp : Nat) (bs : List Nat) (t seed : Nat) (h : SrcAt w b A cp bs t seed) (ht : t ≤ 900) :
    Calls Try.prog 123 #[.pointer (some ⟨b, 0, none⟩)] w fun e w' => ∃ (v : Value) (r : RowM), e = .returned v ∧ RowV w' (New w.heap.size w'.heap.size) v r ∧ Chg (fun k => k = b) w w' := by
  have hbw := h.lt
  have HAB : Hid (0 < bs.length → ∀ x, w.heap.size ≤ x → ∀ o, A ≠ some ⟨x, o, none⟩) := Lib.hid (fun hp x hx o hA => by
    obtain ⟨gb, go, hA2, -, hc⟩ := h.rd hp
    rw [hA] at hA2
    injection hA2 with hA3
    injection hA3 with hA4 _ _
    have := World.block_lt_of_cell? _ _ (hc 0 hp).1
    simp only [] at this
    omega)
  have HS0 := Lib.hid (h.up ((Chg.refl _ _).alloc (.cells #[.int .i64 0, .int .i64 0, .slice none 0 0] 87)))
  have HR0 := Lib.hid (show ∀ i, i < 3 → ∃ u, (w.alloc (.cells #[.int .i64 0, .int .i64 0, .slice none 0 0] 87)).cell? ⟨w.heap.size, i, none⟩ = some u ∧ (w.alloc (.cells #[.int .i64 0, .int .i64 0, .slice none 0 0] 87)).frozen? ⟨w.heap.size, i, none⟩ = false from fun i hi => by
    have : i = 0 ∨ i = 1 ∨ i = 2 := by omega
    rcases this with rfl | rfl | rfl <;> exact ⟨_, cell_new _ _ _ _, frozen_new _ _ _ _⟩)
  clear h
  go_enter Try.func123, Try.ntmps123
  go_wp2_with fail
  refine (one_any _ b A cp bs t seed 2 HS0.out (by omega) (by omega) (by omega)).mono ?_
  rintro e w1 ⟨dir, sd1, rfl, s1, g1⟩
  have HS1 := Lib.hid s1
  have HC1 := Lib.hid (show Chg (fun k => k = b) (w.alloc (.cells #[.int .i64 0, .int .i64 0, .slice none 0 0] 87)) w1 from g1)
  clear s1 g1
  obtain ⟨d, hd⟩ : ∃ d : Int, d = if dir then -1 else 1 := ⟨_, rfl⟩
  have hdI : d = 1 ∨ d = -1 := by rw [hd]; cases dir <;> simp
  cases dir with
  | true =>
    have hd2 : d = -1 := by rw [hd]; rfl
    clear hd
    go_wp2_with fail
    refine (pick_any _ b A cp bs (t + 1) sd1 3 HS1.out (by omega) (by omega) (by omega)).mono ?_
    rintro e w2 ⟨x2, sd2, rfl, hx2, s2, g2, hl2⟩
    have hy3 : x2 % 3 < 3 := Nat.mod_lt _ (by omega)
    obtain ⟨y, hy⟩ : ∃ y, y = x2 % 3 := ⟨_, rfl⟩
    rw [← hy] at hy3 ⊢
    have HS2 := Lib.hid s2
    have HC2 := Lib.hid (Chg.trans HC1.out g2)
    have hz2 := HC2.out.size
    simp only [World.size_alloc] at hz2
    clear s2 g2 hl2 hy HS1 HC1
    go_wp2_with fail
    refine (pick_any _ b A cp bs (t + 1 + 1) sd2 8 (HS2.out.up (by repeat (first | exact Chg.refl _ _ | apply Chg.drew | apply Chg.drewN | refine Chg.alloc ?_ _))) (by omega) (by omega) (by omega)).mono ?_
    rintro e w3 ⟨x3, sd3, rfl, hx3, s3, g3, hl3⟩
    have hz8 : x3 % 8 < 8 := Nat.mod_lt _ (by omega)
    obtain ⟨z, hz⟩ : ∃ z, z = x3 % 8 := ⟨_, rfl⟩
    rw [← hz] at hz8 ⊢
    have HS3 := Lib.hid s3
    have HC3 := Lib.hid (show Chg (fun k => k = b) (w.alloc (.cells #[.int .i64 0, .int .i64 0, .slice none 0 0] 87)) w3 from Chg.trans HC2.out (Chg.trans (by repeat (first | exact Chg.refl _ _ | apply Chg.drew | apply Chg.drewN | refine Chg.alloc ?_ _)) g3))
    have B0 := Lib.hid (show CellF w3 ⟨w2.heap.size, 0, none⟩ (.int .i64 (-1)) from CellF.keep g3 (cellF_at rfl rfl) (fun h9 => by have h9 : w2.heap.size = b := h9; omega))
    have B1 := Lib.hid (show CellF w3 ⟨w2.heap.size, 1, none⟩ (.int .i64 (1 + (y : Int))) from CellF.keep g3 (cellF_at rfl rfl) (fun h9 => by have h9 : w2.heap.size = b := h9; omega))
    have B2 := Lib.hid (show CellF w3 ⟨w2.heap.size, 2, none⟩ (.slice none 0 0) from CellF.keep g3 (cellF_at rfl rfl) (fun h9 => by have h9 : w2.heap.size = b := h9; omega))
    have R0 := Lib.hid (show CellF w3 ⟨w.heap.size, 0, none⟩ (.int .i64 0) from CellF.keep HC3.out (cellF_at rfl rfl) (fun h9 => by have h9 : w.heap.size = b := h9; omega))
    have R1 := Lib.hid (show CellF w3 ⟨w.heap.size, 1, none⟩ (.int .i64 0) from CellF.keep HC3.out (cellF_at rfl rfl) (fun h9 => by have h9 : w.heap.size = b := h9; omega))
    have R2 := Lib.hid (show CellF w3 ⟨w.heap.size, 2, none⟩ (.slice none 0 0) from CellF.keep HC3.out (cellF_at rfl rfl) (fun h9 => by have h9 : w.heap.size = b := h9; omega))
    have hz3 := g3.size
    simp only [World.size_alloc] at hz3
    clear s3 g3 hl3 hz HS2 HC2
    go_wp2_with fail
    have ez : (1 + (z : Int)) = ((1 + z : Nat) : Int) := by omega
    rw [ez]
    refine (l14Bent_any _ b A cp bs (t + 1 + 1 + 1) sd3 (1 + z) HS3.out (by omega) (by omega)).mono ?_
    rintro e w4 ⟨v4, xs, t4, sd4, rfl, o4, s4, ht4, g4⟩
    obtain ⟨Aq, cq, rfl, hlq, hcq, -⟩ := o4.shape
    have HS4 := Lib.hid s4
    have HO4 := Lib.hid o4
    have HC4 := Lib.hid (Chg.trans HC3.out g4)
    have hz4 := g4.size
    obtain ⟨B0c, B0f⟩ := CellF.keep g4 B0.out (fun h9 => by have h9 : w2.heap.size = b := h9; omega)
    obtain ⟨B1c, B1f⟩ := CellF.keep g4 B1.out (fun h9 => by have h9 : w2.heap.size = b := h9; omega)
    obtain ⟨B2c, B2f⟩ := CellF.keep g4 B2.out (fun h9 => by have h9 : w2.heap.size = b := h9; omega)
    replace R0 := Lib.hid (CellF.keep g4 R0.out (fun h9 => by have h9 : w.heap.size = b := h9; omega))
    replace R1 := Lib.hid (CellF.keep g4 R1.out (fun h9 => by have h9 : w.heap.size = b := h9; omega))
    replace R2 := Lib.hid (CellF.keep g4 R2.out (fun h9 => by have h9 : w.heap.size = b := h9; omega))
    clear s4 o4 g4 HS3 HC3 B0 B1 B2 ez
    go_wp2_with fail
    have HAR : Hid (∀ x, w.heap.size ≤ x → 0 < bs.length → ∀ o, A ≠ some ⟨x, o, none⟩) := Lib.hid (fun x hx hp o => HAB.out hp x hx o)
    refine (pick_any _ b A cp bs t4 sd4 16 (HS4.out.keep (Chg.setCell (Chg.refl (fun k => k = w2.heap.size) w4) (p := ⟨w2.heap.size, 2, none⟩) (.inl rfl) _) (fun h9 => by have h9 : b = w2.heap.size := h9; omega) (fun hp x _ hx o => HAR.out x (by have hx : x = w2.heap.size := hx; omega) hp o)) (by omega) (by omega) (by omega)).mono ?_
    rintro e w6 ⟨x6, sd6, rfl, hx6, s6, g6, hl6⟩
    have hy6 : x6 % 16 < 16 := Nat.mod_lt _ (by omega)
    obtain ⟨k, hk⟩ : ∃ k, k = x6 % 16 := ⟨_, rfl⟩
    rw [← hk] at hy6 ⊢
    have nb : ∀ (c0 : Nat), c0 = w2.heap.size → ¬ c0 = b := fun c0 h h9 => by omega
    have nr : ∀ (c0 : Nat), c0 = w.heap.size → ¬ c0 = b := fun c0 h h9 => by omega
    have n2 : ∀ (u u' : Nat), u ≠ u' → (⟨w2.heap.size, u, none⟩ : Addr) ≠ ⟨w2.heap.size, u', none⟩ := fun u u' hu h9 => hu (by injection h9)
    have n3 : ∀ (u u' : Nat), (⟨w.heap.size, u, none⟩ : Addr) ≠ ⟨w2.heap.size, u', none⟩ := fun u u' h9 => by injection h9 with h9 _ _; omega
    have B0 := Lib.hid (CellF.keep g6 (CellF.set ⟨B0c, B0f⟩ (n2 0 2 (by omega))) (nb _ rfl))
    have B1 := Lib.hid (CellF.keep g6 (CellF.set ⟨B1c, B1f⟩ (n2 1 2 (by omega))) (nb _ rfl))
    have B2 := Lib.hid (CellF.keep g6 (CellF.same ⟨B2c, B2f⟩) (nb _ rfl))
    replace R0 := Lib.hid (CellF.keep g6 (CellF.set R0.out (n3 0 2)) (nr _ rfl))
    replace R1 := Lib.hid (CellF.keep g6 (CellF.set R1.out (n3 1 2)) (nr _ rfl))
    replace R2 := Lib.hid (CellF.keep g6 (CellF.set R2.out (n3 2 2)) (nr _ rfl))
    have HO6 := Lib.hid (HO4.out.keep (Chg.trans (Chg.setCell (Chg.refl (fun k => k = w2.heap.size ∨ k = b) w4) (p := ⟨w2.heap.size, 2, none⟩) (.inl (.inl rfl)) _) (g6.mono fun x _ hx => .inr hx)) (fun x _ hx h9 => by have := hx.1; rcases h9 with h9 | h9 <;> omega))
    have HC6 := Lib.hid (show Chg (fun k => k = b) (w.alloc (.cells #[.int .i64 0, .int .i64 0, .slice none 0 0] 87)) w6 from Chg.trans (Chg.setCell HC4.out (p := ⟨w2.heap.size, 2, none⟩) (.inr (by simp only [World.size_alloc]; omega)) _) g6)
    have hDI : I64 (-1) := by unfold I64; omega
    have hYI : I64 (1 + (y : Int)) := by unfold I64; omega
    have h0I : I64 0 := by unfold I64; omega
    have hwB : w.heap.size < w2.heap.size := by omega
    have HSB : Hid (∀ x, New w3.heap.size w4.heap.size x → w2.heap.size < x) := Lib.hid (fun x hx => by have := hx.1; omega)
    have HI := Lib.hid (And.intro hDI (And.intro hYI (And.intro h0I hwB)))
    clear s6 g6 hl6 hk nb nr n2 n3 B0c B0f B1c B1f B2c B2f HC4 HO4 HS4 hDI hYI h0I
    obtain ⟨B0c, B0f⟩ := B0.out
    obtain ⟨B1c, B1f⟩ := B1.out
    obtain ⟨B2c, B2f⟩ := B2.out
    obtain ⟨R0c, R0f⟩ := R0.out
    obtain ⟨R1c, R1f⟩ := R1.out
    obtain ⟨R2c, R2f⟩ := R2.out
    clear B0 B1 B2 R0 R1 R2
    have hz6 : w2.heap.size < w6.heap.size := World.block_lt_of_cell? _ _ B0c
    by_cases h0 : k = 0
    · subst h0
      go_wp2
      refine bodyPost_ret (v := .agg #[.int .i64 (0), .int .i64 (1 + (y : Int)), .slice Aq xs.length cq]) (by simp [results, Try.results123, go_sem, R0c, R1c, R2c, B0c, B1c, B2c]) rfl ?_
      exact row_end (B := w2.heap.size) HC6.out HO6.out HSB.out HI.out.2.2.2 HI.out.2.2.1 HI.out.2.1 (by repeat (first | exact Chg.refl _ _ | refine Chg.setCell ?_ (.inl (.inl rfl)) _ | refine Chg.setCell ?_ (.inl (.inr rfl)) _))
    · have e0 : ((k : Int) == 0) = false := by simp; omega
      by_cases h1 : k = 1
      · subst h1
        have n2 : ∀ (u u' : Nat), u ≠ u' → (⟨w2.heap.size, u, none⟩ : Addr) ≠ ⟨w2.heap.size, u', none⟩ := fun u u' hu h9 => hu (by injection h9)
        have n3 : ∀ (u u' : Nat), (⟨w.heap.size, u, none⟩ : Addr) ≠ ⟨w2.heap.size, u', none⟩ := fun u u' h9 => by injection h9 with h9 _ _; omega
        obtain ⟨b2c, b2f⟩ := (show CellF (w6.alloc (.cells #[] 2)) ⟨w2.heap.size, 2, none⟩ (.slice Aq xs.length cq) from CellF.up ((Chg.refl _ _).alloc _) ⟨B2c, B2f⟩)
        have qB0 := (show CellF ((w6.setCell ⟨w2.heap.size, 2, none⟩ (.slice (some ⟨w6.heap.size, 0, none⟩) 0 0)).alloc (.cells #[] 2)) ⟨w2.heap.size, 0, none⟩ (.int .i64 (-1)) from CellF.up ((Chg.refl _ _).alloc _) (CellF.set ⟨B0c, B0f⟩ (n2 0 2 (by omega))))
        have qB1 := (show CellF ((w6.setCell ⟨w2.heap.size, 2, none⟩ (.slice (some ⟨w6.heap.size, 0, none⟩) 0 0)).alloc (.cells #[] 2)) ⟨w2.heap.size, 1, none⟩ (.int .i64 (1 + (y : Int))) from CellF.up ((Chg.refl _ _).alloc _) (CellF.set ⟨B1c, B1f⟩ (n2 1 2 (by omega))))
        have qB2 := (show CellF ((w6.setCell ⟨w2.heap.size, 2, none⟩ (.slice (some ⟨w6.heap.size, 0, none⟩) 0 0)).alloc (.cells #[] 2)) ⟨w2.heap.size, 2, none⟩ (.slice (some ⟨w6.heap.size, 0, none⟩) 0 0) from CellF.up ((Chg.refl _ _).alloc _) (CellF.same ⟨B2c, B2f⟩))
        have qR0 := (show CellF ((w6.setCell ⟨w2.heap.size, 2, none⟩ (.slice (some ⟨w6.heap.size, 0, none⟩) 0 0)).alloc (.cells #[] 2)) ⟨w.heap.size, 0, none⟩ (.int .i64 0) from CellF.up ((Chg.refl _ _).alloc _) (CellF.set ⟨R0c, R0f⟩ (n3 0 2)))
        have qR1 := (show CellF ((w6.setCell ⟨w2.heap.size, 2, none⟩ (.slice (some ⟨w6.heap.size, 0, none⟩) 0 0)).alloc (.cells #[] 2)) ⟨w.heap.size, 1, none⟩ (.int .i64 0) from CellF.up ((Chg.refl _ _).alloc _) (CellF.set ⟨R1c, R1f⟩ (n3 1 2)))
        have qR2 := (show CellF ((w6.setCell ⟨w2.heap.size, 2, none⟩ (.slice (some ⟨w6.heap.size, 0, none⟩) 0 0)).alloc (.cells #[] 2)) ⟨w.heap.size, 2, none⟩ (.slice none 0 0) from CellF.up ((Chg.refl _ _).alloc _) (CellF.set ⟨R2c, R2f⟩ (n3 2 2)))
        have hc7 := (show Chg (fun k => k = b) (w.alloc (.cells #[.int .i64 0, .int .i64 0, .slice none 0 0] 87)) ((w6.setCell ⟨w2.heap.size, 2, none⟩ (.slice (some ⟨w6.heap.size, 0, none⟩) 0 0)).alloc (.cells #[] 2)) from Chg.alloc (Chg.setCell HC6.out (p := ⟨w2.heap.size, 2, none⟩) (.inr (by simp only [World.size_alloc]; omega)) _) _)
        have he : (w6.setCell ⟨w2.heap.size, 2, none⟩ (.slice (some ⟨w6.heap.size, 0, none⟩) 0 0)).heap.size = w6.heap.size := by simp [World.setCell]
        have hL := (show Ints ((w6.setCell ⟨w2.heap.size, 2, none⟩ (.slice (some ⟨w6.heap.size, 0, none⟩) 0 0)).alloc (.cells #[] 2)) (fun x => x = (w6.setCell ⟨w2.heap.size, 2, none⟩ (.slice (some ⟨w6.heap.size, 0, none⟩) 0 0)).heap.size) (.slice (some ⟨(w6.setCell ⟨w2.heap.size, 2, none⟩ (.slice (some ⟨w6.heap.size, 0, none⟩) 0 0)).heap.size, 0, none⟩) 0 0) [] from Ints.nil _ _ 0 _ (by omega))
        rw [he] at hL
        obtain ⟨w7, h7⟩ : ∃ w7, ((w6.setCell ⟨w2.heap.size, 2, none⟩ (.slice (some ⟨w6.heap.size, 0, none⟩) 0 0)).alloc (.cells #[] 2)) = w7 := ⟨_, rfl⟩
        rw [h7] at hL hc7 qB0 qB1 qB2 qR0 qR1 qR2
        have HL := Lib.hid hL
        have HC7 := Lib.hid hc7
        obtain ⟨B0c', B0f'⟩ := qB0
        obtain ⟨B1c', B1f'⟩ := qB1
        obtain ⟨B2c', B2f'⟩ := qB2
        obtain ⟨R0c', R0f'⟩ := qR0
        obtain ⟨R1c', R1f'⟩ := qR1
        obtain ⟨R2c', R2f'⟩ := qR2
        clear hL hc7 he n2 n3 B0c B0f B1c B1f B2c B2f R0c R0f R1c R1f R2c R2f
        go_wp2
        refine bodyPost_ret (v := .agg #[.int .i64 ((-1)), .int .i64 (1 + (y : Int)), .slice (some ⟨w6.heap.size, 0, none⟩) 0 0]) (by simp [results, Try.results123, go_sem, R0c', R1c', R2c', B0c', B1c', B2c']) rfl ?_
        exact row_end (B := w2.heap.size) HC7.out HL.out (fun x hx => by have hx : x = w6.heap.size := hx; omega) HI.out.2.2.2 HI.out.1 HI.out.2.1 (by repeat (first | exact Chg.refl _ _ | refine Chg.setCell ?_ (.inl (.inl rfl)) _ | refine Chg.setCell ?_ (.inl (.inr rfl)) _))
      · have e1 : ((k : Int) == 1) = false := by simp; omega
        by_cases h2 : k = 2
        · subst h2
          have n2 : ∀ (u u' : Nat), u ≠ u' → (⟨w2.heap.size, u, none⟩ : Addr) ≠ ⟨w2.heap.size, u', none⟩ := fun u u' hu h9 => hu (by injection h9)
          have n3 : ∀ (u u' : Nat), (⟨w.heap.size, u, none⟩ : Addr) ≠ ⟨w2.heap.size, u', none⟩ := fun u u' h9 => by injection h9 with h9 _ _; omega
          obtain ⟨b2c, b2f⟩ := (show CellF (w6.alloc (.cells #[.int .i64 10, .int .i64 11, .int .i64 1] 2)) ⟨w2.heap.size, 2, none⟩ (.slice Aq xs.length cq) from CellF.up ((Chg.refl _ _).alloc _) ⟨B2c, B2f⟩)
          have qB0 := (show CellF ((w6.setCell ⟨w2.heap.size, 2, none⟩ (.slice (some ⟨w6.heap.size, 0, none⟩) 3 3)).alloc (.cells #[.int .i64 10, .int .i64 11, .int .i64 1] 2)) ⟨w2.heap.size, 0, none⟩ (.int .i64 (-1)) from CellF.up ((Chg.refl _ _).alloc _) (CellF.set ⟨B0c, B0f⟩ (n2 0 2 (by omega))))
          have qB1 := (show CellF ((w6.setCell ⟨w2.heap.size, 2, none⟩ (.slice (some ⟨w6.heap.size, 0, none⟩) 3 3)).alloc (.cells #[.int .i64 10, .int .i64 11, .int .i64 1] 2)) ⟨w2.heap.size, 1, none⟩ (.int .i64 (1 + (y : Int))) from CellF.up ((Chg.refl _ _).alloc _) (CellF.set ⟨B1c, B1f⟩ (n2 1 2 (by omega))))
          have qB2 := (show CellF ((w6.setCell ⟨w2.heap.size, 2, none⟩ (.slice (some ⟨w6.heap.size, 0, none⟩) 3 3)).alloc (.cells #[.int .i64 10, .int .i64 11, .int .i64 1] 2)) ⟨w2.heap.size, 2, none⟩ (.slice (some ⟨w6.heap.size, 0, none⟩) 3 3) from CellF.up ((Chg.refl _ _).alloc _) (CellF.same ⟨B2c, B2f⟩))
          have qR0 := (show CellF ((w6.setCell ⟨w2.heap.size, 2, none⟩ (.slice (some ⟨w6.heap.size, 0, none⟩) 3 3)).alloc (.cells #[.int .i64 10, .int .i64 11, .int .i64 1] 2)) ⟨w.heap.size, 0, none⟩ (.int .i64 0) from CellF.up ((Chg.refl _ _).alloc _) (CellF.set ⟨R0c, R0f⟩ (n3 0 2)))
          have qR1 := (show CellF ((w6.setCell ⟨w2.heap.size, 2, none⟩ (.slice (some ⟨w6.heap.size, 0, none⟩) 3 3)).alloc (.cells #[.int .i64 10, .int .i64 11, .int .i64 1] 2)) ⟨w.heap.size, 1, none⟩ (.int .i64 0) from CellF.up ((Chg.refl _ _).alloc _) (CellF.set ⟨R1c, R1f⟩ (n3 1 2)))
          have qR2 := (show CellF ((w6.setCell ⟨w2.heap.size, 2, none⟩ (.slice (some ⟨w6.heap.size, 0, none⟩) 3 3)).alloc (.cells #[.int .i64 10, .int .i64 11, .int .i64 1] 2)) ⟨w.heap.size, 2, none⟩ (.slice none 0 0) from CellF.up ((Chg.refl _ _).alloc _) (CellF.set ⟨R2c, R2f⟩ (n3 2 2)))
          have hc7 := (show Chg (fun k => k = b) (w.alloc (.cells #[.int .i64 0, .int .i64 0, .slice none 0 0] 87)) ((w6.setCell ⟨w2.heap.size, 2, none⟩ (.slice (some ⟨w6.heap.size, 0, none⟩) 3 3)).alloc (.cells #[.int .i64 10, .int .i64 11, .int .i64 1] 2)) from Chg.alloc (Chg.setCell HC6.out (p := ⟨w2.heap.size, 2, none⟩) (.inr (by simp only [World.size_alloc]; omega)) _) _)
          have he : (w6.setCell ⟨w2.heap.size, 2, none⟩ (.slice (some ⟨w6.heap.size, 0, none⟩) 3 3)).heap.size = w6.heap.size := by simp [World.setCell]
          have hL := litXY (w6.setCell ⟨w2.heap.size, 2, none⟩ (.slice (some ⟨w6.heap.size, 0, none⟩) 3 3))
          rw [he] at hL
          obtain ⟨w7, h7⟩ : ∃ w7, ((w6.setCell ⟨w2.heap.size, 2, none⟩ (.slice (some ⟨w6.heap.size, 0, none⟩) 3 3)).alloc (.cells #[.int .i64 10, .int .i64 11, .int .i64 1] 2)) = w7 := ⟨_, rfl⟩
          rw [h7] at hL hc7 qB0 qB1 qB2 qR0 qR1 qR2
          have HL := Lib.hid hL
          have HC7 := Lib.hid hc7
          obtain ⟨B0c', B0f'⟩ := qB0
          obtain ⟨B1c', B1f'⟩ := qB1
          obtain ⟨B2c', B2f'⟩ := qB2
          obtain ⟨R0c', R0f'⟩ := qR0
          obtain ⟨R1c', R1f'⟩ := qR1
          obtain ⟨R2c', R2f'⟩ := qR2
          clear hL hc7 he n2 n3 B0c B0f B1c B1f B2c B2f R0c R0f R1c R1f R2c R2f
          go_wp2
          refine bodyPost_ret (v := .agg #[.int .i64 ((-1)), .int .i64 (1 + (y : Int)), .slice (some ⟨w6.heap.size, 0, none⟩) 3 3]) (by simp [results, Try.results123, go_sem, R0c', R1c', R2c', B0c', B1c', B2c']) rfl ?_
          exact row_end (B := w2.heap.size) HC7.out HL.out (fun x hx => by have hx : x = w6.heap.size := hx; omega) HI.out.2.2.2 HI.out.1 HI.out.2.1 (by repeat (first | exact Chg.refl _ _ | refine Chg.setCell ?_ (.inl (.inl rfl)) _ | refine Chg.setCell ?_ (.inl (.inr rfl)) _))
        · have e2 : ((k : Int) == 2) = false := by simp; omega
          by_cases h3 : k = 3
          · subst h3
            have n2 : ∀ (u u' : Nat), u ≠ u' → (⟨w2.heap.size, u, none⟩ : Addr) ≠ ⟨w2.heap.size, u', none⟩ := fun u u' hu h9 => hu (by injection h9)
            have n3 : ∀ (u u' : Nat), (⟨w.heap.size, u, none⟩ : Addr) ≠ ⟨w2.heap.size, u', none⟩ := fun u u' h9 => by injection h9 with h9 _ _; omega
            obtain ⟨b2c, b2f⟩ := (show CellF (w6.alloc (.cells #[.int .i64 3, .int .i64 3] 2)) ⟨w2.heap.size, 2, none⟩ (.slice Aq xs.length cq) from CellF.up ((Chg.refl _ _).alloc _) ⟨B2c, B2f⟩)
            have qB0 := (show CellF ((w6.setCell ⟨w2.heap.size, 2, none⟩ (.slice (some ⟨w6.heap.size, 0, none⟩) 2 2)).alloc (.cells #[.int .i64 3, .int .i64 3] 2)) ⟨w2.heap.size, 0, none⟩ (.int .i64 (-1)) from CellF.up ((Chg.refl _ _).alloc _) (CellF.set ⟨B0c, B0f⟩ (n2 0 2 (by omega))))
            have qB1 := (show CellF ((w6.setCell ⟨w2.heap.size, 2, none⟩ (.slice (some ⟨w6.heap.size, 0, none⟩) 2 2)).alloc (.cells #[.int .i64 3, .int .i64 3] 2)) ⟨w2.heap.size, 1, none⟩ (.int .i64 (1 + (y : Int))) from CellF.up ((Chg.refl _ _).alloc _) (CellF.set ⟨B1c, B1f⟩ (n2 1 2 (by omega))))
            have qB2 := (show CellF ((w6.setCell ⟨w2.heap.size, 2, none⟩ (.slice (some ⟨w6.heap.size, 0, none⟩) 2 2)).alloc (.cells #[.int .i64 3, .int .i64 3] 2)) ⟨w2.heap.size, 2, none⟩ (.slice (some ⟨w6.heap.size, 0, none⟩) 2 2) from CellF.up ((Chg.refl _ _).alloc _) (CellF.same ⟨B2c, B2f⟩))
            have qR0 := (show CellF ((w6.setCell ⟨w2.heap.size, 2, none⟩ (.slice (some ⟨w6.heap.size, 0, none⟩) 2 2)).alloc (.cells #[.int .i64 3, .int .i64 3] 2)) ⟨w.heap.size, 0, none⟩ (.int .i64 0) from CellF.up ((Chg.refl _ _).alloc _) (CellF.set ⟨R0c, R0f⟩ (n3 0 2)))
            have qR1 := (show CellF ((w6.setCell ⟨w2.heap.size, 2, none⟩ (.slice (some ⟨w6.heap.size, 0, none⟩) 2 2)).alloc (.cells #[.int .i64 3, .int .i64 3] 2)) ⟨w.heap.size, 1, none⟩ (.int .i64 0) from CellF.up ((Chg.refl _ _).alloc _) (CellF.set ⟨R1c, R1f⟩ (n3 1 2)))
            have qR2 := (show CellF ((w6.setCell ⟨w2.heap.size, 2, none⟩ (.slice (some ⟨w6.heap.size, 0, none⟩) 2 2)).alloc (.cells #[.int .i64 3, .int .i64 3] 2)) ⟨w.heap.size, 2, none⟩ (.slice none 0 0) from CellF.up ((Chg.refl _ _).alloc _) (CellF.set ⟨R2c, R2f⟩ (n3 2 2)))
            have hc7 := (show Chg (fun k => k = b) (w.alloc (.cells #[.int .i64 0, .int .i64 0, .slice none 0 0] 87)) ((w6.setCell ⟨w2.heap.size, 2, none⟩ (.slice (some ⟨w6.heap.size, 0, none⟩) 2 2)).alloc (.cells #[.int .i64 3, .int .i64 3] 2)) from Chg.alloc (Chg.setCell HC6.out (p := ⟨w2.heap.size, 2, none⟩) (.inr (by simp only [World.size_alloc]; omega)) _) _)
            have he : (w6.setCell ⟨w2.heap.size, 2, none⟩ (.slice (some ⟨w6.heap.size, 0, none⟩) 2 2)).heap.size = w6.heap.size := by simp [World.setCell]
            have hL := lit33 (w6.setCell ⟨w2.heap.size, 2, none⟩ (.slice (some ⟨w6.heap.size, 0, none⟩) 2 2))
            rw [he] at hL
            obtain ⟨w7, h7⟩ : ∃ w7, ((w6.setCell ⟨w2.heap.size, 2, none⟩ (.slice (some ⟨w6.heap.size, 0, none⟩) 2 2)).alloc (.cells #[.int .i64 3, .int .i64 3] 2)) = w7 := ⟨_, rfl⟩
            rw [h7] at hL hc7 qB0 qB1 qB2 qR0 qR1 qR2
            have HL := Lib.hid hL
            have HC7 := Lib.hid hc7
            obtain ⟨B0c', B0f'⟩ := qB0
            obtain ⟨B1c', B1f'⟩ := qB1
            obtain ⟨B2c', B2f'⟩ := qB2
            obtain ⟨R0c', R0f'⟩ := qR0
            obtain ⟨R1c', R1f'⟩ := qR1
            obtain ⟨R2c', R2f'⟩ := qR2
            clear hL hc7 he n2 n3 B0c B0f B1c B1f B2c B2f R0c R0f R1c R1f R2c R2f
            go_wp2
            refine bodyPost_ret (v := .agg #[.int .i64 ((-1)), .int .i64 (1 + (y : Int)), .slice (some ⟨w6.heap.size, 0, none⟩) 2 2]) (by simp [results, Try.results123, go_sem, R0c', R1c', R2c', B0c', B1c', B2c']) rfl ?_
            exact row_end (B := w2.heap.size) HC7.out HL.out (fun x hx => by have hx : x = w6.heap.size := hx; omega) HI.out.2.2.2 HI.out.1 HI.out.2.1 (by repeat (first | exact Chg.refl _ _ | refine Chg.setCell ?_ (.inl (.inl rfl)) _ | refine Chg.setCell ?_ (.inl (.inr rfl)) _))
          · have e3 : ((k : Int) == 3) = false := by simp; omega
            go_wp2
            refine bodyPost_ret (v := .agg #[.int .i64 ((-1)), .int .i64 (1 + (y : Int)), .slice Aq xs.length cq]) (by simp [results, Try.results123, go_sem, R0c, R1c, R2c, B0c, B1c, B2c]) rfl ?_
            exact row_end (B := w2.heap.size) HC6.out HO6.out HSB.out HI.out.2.2.2 HI.out.1 HI.out.2.1 (by repeat (first | exact Chg.refl _ _ | refine Chg.setCell ?_ (.inl (.inl rfl)) _ | refine Chg.setCell ?_ (.inl (.inr rfl)) _))
  | false =>
    have hd2 : d = 1 := by rw [hd]; rfl
    clear hd
    go_wp2_with fail
    refine (pick_any _ b A cp bs (t + 1) sd1 3 HS1.out (by omega) (by omega) (by omega)).mono ?_
    rintro e w2 ⟨x2, sd2, rfl, hx2, s2, g2, hl2⟩
    have hy3 : x2 % 3 < 3 := Nat.mod_lt _ (by omega)
    obtain ⟨y, hy⟩ : ∃ y, y = x2 % 3 := ⟨_, rfl⟩
    rw [← hy] at hy3 ⊢
    have HS2 := Lib.hid s2
    have HC2 := Lib.hid (Chg.trans HC1.out g2)
    have hz2 := HC2.out.size
    simp only [World.size_alloc] at hz2
    clear s2 g2 hl2 hy HS1 HC1
    go_wp2_with fail
    refine (pick_any _ b A cp bs (t + 1 + 1) sd2 8 (HS2.out.up (by repeat (first | exact Chg.refl _ _ | apply Chg.drew | apply Chg.drewN | refine Chg.alloc ?_ _))) (by omega) (by omega) (by omega)).mono ?_
    rintro e w3 ⟨x3, sd3, rfl, hx3, s3, g3, hl3⟩
    have hz8 : x3 % 8 < 8 := Nat.mod_lt _ (by omega)
    obtain ⟨z, hz⟩ : ∃ z, z = x3 % 8 := ⟨_, rfl⟩
    rw [← hz] at hz8 ⊢
    have HS3 := Lib.hid s3
    have HC3 := Lib.hid (show Chg (fun k => k = b) (w.alloc (.cells #[.int .i64 0, .int .i64 0, .slice none 0 0] 87)) w3 from Chg.trans HC2.out (Chg.trans (by repeat (first | exact Chg.refl _ _ | apply Chg.drew | apply Chg.drewN | refine Chg.alloc ?_ _)) g3))
    have B0 := Lib.hid (show CellF w3 ⟨w2.heap.size, 0, none⟩ (.int .i64 1) from CellF.keep g3 (cellF_at rfl rfl) (fun h9 => by have h9 : w2.heap.size = b := h9; omega))
    have B1 := Lib.hid (show CellF w3 ⟨w2.heap.size, 1, none⟩ (.int .i64 (1 + (y : Int))) from CellF.keep g3 (cellF_at rfl rfl) (fun h9 => by have h9 : w2.heap.size = b := h9; omega))
    have B2 := Lib.hid (show CellF w3 ⟨w2.heap.size, 2, none⟩ (.slice none 0 0) from CellF.keep g3 (cellF_at rfl rfl) (fun h9 => by have h9 : w2.heap.size = b := h9; omega))
    have R0 := Lib.hid (show CellF w3 ⟨w.heap.size, 0, none⟩ (.int .i64 0) from CellF.keep HC3.out (cellF_at rfl rfl) (fun h9 => by have h9 : w.heap.size = b := h9; omega))
    have R1 := Lib.hid (show CellF w3 ⟨w.heap.size, 1, none⟩ (.int .i64 0) from CellF.keep HC3.out (cellF_at rfl rfl) (fun h9 => by have h9 : w.heap.size = b := h9; omega))
    have R2 := Lib.hid (show CellF w3 ⟨w.heap.size, 2, none⟩ (.slice none 0 0) from CellF.keep HC3.out (cellF_at rfl rfl) (fun h9 => by have h9 : w.heap.size = b := h9; omega))
    have hz3 := g3.size
    simp only [World.size_alloc] at hz3
    clear s3 g3 hl3 hz HS2 HC2
    go_wp2_with fail
    have ez : (1 + (z : Int)) = ((1 + z : Nat) : Int) := by omega
    rw [ez]
    refine (l14Bent_any _ b A cp bs (t + 1 + 1 + 1) sd3 (1 + z) HS3.out (by omega) (by omega)).mono ?_
    rintro e w4 ⟨v4, xs, t4, sd4, rfl, o4, s4, ht4, g4⟩
    obtain ⟨Aq, cq, rfl, hlq, hcq, -⟩ := o4.shape
    have HS4 := Lib.hid s4
    have HO4 := Lib.hid o4
    have HC4 := Lib.hid (Chg.trans HC3.out g4)
    have hz4 := g4.size
    obtain ⟨B0c, B0f⟩ := CellF.keep g4 B0.out (fun h9 => by have h9 : w2.heap.size = b := h9; omega)
    obtain ⟨B1c, B1f⟩ := CellF.keep g4 B1.out (fun h9 => by have h9 : w2.heap.size = b := h9; omega)
    obtain ⟨B2c, B2f⟩ := CellF.keep g4 B2.out (fun h9 => by have h9 : w2.heap.size = b := h9; omega)
    replace R0 := Lib.hid (CellF.keep g4 R0.out (fun h9 => by have h9 : w.heap.size = b := h9; omega))
    replace R1 := Lib.hid (CellF.keep g4 R1.out (fun h9 => by have h9 : w.heap.size = b := h9; omega))
    replace R2 := Lib.hid (CellF.keep g4 R2.out (fun h9 => by have h9 : w.heap.size = b := h9; omega))
    clear s4 o4 g4 HS3 HC3 B0 B1 B2 ez
    go_wp2_with fail
    have HAR : Hid (∀ x, w.heap.size ≤ x → 0 < bs.length → ∀ o, A ≠ some ⟨x, o, none⟩) := Lib.hid (fun x hx hp o => HAB.out hp x hx o)
    refine (pick_any _ b A cp bs t4 sd4 16 (HS4.out.keep (Chg.setCell (Chg.refl (fun k => k = w2.heap.size) w4) (p := ⟨w2.heap.size, 2, none⟩) (.inl rfl) _) (fun h9 => by have h9 : b = w2.heap.size := h9; omega) (fun hp x _ hx o => HAR.out x (by have hx : x = w2.heap.size := hx; omega) hp o)) (by omega) (by omega) (by omega)).mono ?_
    rintro e w6 ⟨x6, sd6, rfl, hx6, s6, g6, hl6⟩
    have hy6 : x6 % 16 < 16 := Nat.mod_lt _ (by omega)
    obtain ⟨k, hk⟩ : ∃ k, k = x6 % 16 := ⟨_, rfl⟩
    rw [← hk] at hy6 ⊢
    have nb : ∀ (c0 : Nat), c0 = w2.heap.size → ¬ c0 = b := fun c0 h h9 => by omega
    have nr : ∀ (c0 : Nat), c0 = w.heap.size → ¬ c0 = b := fun c0 h h9 => by omega
    have n2 : ∀ (u u' : Nat), u ≠ u' → (⟨w2.heap.size, u, none⟩ : Addr) ≠ ⟨w2.heap.size, u', none⟩ := fun u u' hu h9 => hu (by injection h9)
    have n3 : ∀ (u u' : Nat), (⟨w.heap.size, u, none⟩ : Addr) ≠ ⟨w2.heap.size, u', none⟩ := fun u u' h9 => by injection h9 with h9 _ _; omega
    have B0 := Lib.hid (CellF.keep g6 (CellF.set ⟨B0c, B0f⟩ (n2 0 2 (by omega))) (nb _ rfl))
    have B1 := Lib.hid (CellF.keep g6 (CellF.set ⟨B1c, B1f⟩ (n2 1 2 (by omega))) (nb _ rfl))
    have B2 := Lib.hid (CellF.keep g6 (CellF.same ⟨B2c, B2f⟩) (nb _ rfl))
    replace R0 := Lib.hid (CellF.keep g6 (CellF.set R0.out (n3 0 2)) (nr _ rfl))
    replace R1 := Lib.hid (CellF.keep g6 (CellF.set R1.out (n3 1 2)) (nr _ rfl))
    replace R2 := Lib.hid (CellF.keep g6 (CellF.set R2.out (n3 2 2)) (nr _ rfl))
    have HO6 := Lib.hid (HO4.out.keep (Chg.trans (Chg.setCell (Chg.refl (fun k => k = w2.heap.size ∨ k = b) w4) (p := ⟨w2.heap.size, 2, none⟩) (.inl (.inl rfl)) _) (g6.mono fun x _ hx => .inr hx)) (fun x _ hx h9 => by have := hx.1; rcases h9 with h9 | h9 <;> omega))
    have HC6 := Lib.hid (show Chg (fun k => k = b) (w.alloc (.cells #[.int .i64 0, .int .i64 0, .slice none 0 0] 87)) w6 from Chg.trans (Chg.setCell HC4.out (p := ⟨w2.heap.size, 2, none⟩) (.inr (by simp only [World.size_alloc]; omega)) _) g6)
    have hDI : I64 1 := by unfold I64; omega
    have hYI : I64 (1 + (y : Int)) := by unfold I64; omega
    have h0I : I64 0 := by unfold I64; omega
    have hwB : w.heap.size < w2.heap.size := by omega
    have HSB : Hid (∀ x, New w3.heap.size w4.heap.size x → w2.heap.size < x) := Lib.hid (fun x hx => by have := hx.1; omega)
    have HI := Lib.hid (And.intro hDI (And.intro hYI (And.intro h0I hwB)))
    clear s6 g6 hl6 hk nb nr n2 n3 B0c B0f B1c B1f B2c B2f HC4 HO4 HS4 hDI hYI h0I
    obtain ⟨B0c, B0f⟩ := B0.out
    obtain ⟨B1c, B1f⟩ := B1.out
    obtain ⟨B2c, B2f⟩ := B2.out
    obtain ⟨R0c, R0f⟩ := R0.out
    obtain ⟨R1c, R1f⟩ := R1.out
    obtain ⟨R2c, R2f⟩ := R2.out
    clear B0 B1 B2 R0 R1 R2
    have hz6 : w2.heap.size < w6.heap.size := World.block_lt_of_cell? _ _ B0c
    by_cases h0 : k = 0
    · subst h0
      go_wp2
      refine bodyPost_ret (v := .agg #[.int .i64 (0), .int .i64 (1 + (y : Int)), .slice Aq xs.length cq]) (by simp [results, Try.results123, go_sem, R0c, R1c, R2c, B0c, B1c, B2c]) rfl ?_
      exact row_end (B := w2.heap.size) HC6.out HO6.out HSB.out HI.out.2.2.2 HI.out.2.2.1 HI.out.2.1 (by repeat (first | exact Chg.refl _ _ | refine Chg.setCell ?_ (.inl (.inl rfl)) _ | refine Chg.setCell ?_ (.inl (.inr rfl)) _))
    · have e0 : ((k : Int) == 0) = false := by simp; omega
      by_cases h1 : k = 1
      · subst h1
        have n2 : ∀ (u u' : Nat), u ≠ u' → (⟨w2.heap.size, u, none⟩ : Addr) ≠ ⟨w2.heap.size, u', none⟩ := fun u u' hu h9 => hu (by injection h9)
        have n3 : ∀ (u u' : Nat), (⟨w.heap.size, u, none⟩ : Addr) ≠ ⟨w2.heap.size, u', none⟩ := fun u u' h9 => by injection h9 with h9 _ _; omega
        obtain ⟨b2c, b2f⟩ := (show CellF (w6.alloc (.cells #[] 2)) ⟨w2.heap.size, 2, none⟩ (.slice Aq xs.length cq) from CellF.up ((Chg.refl _ _).alloc _) ⟨B2c, B2f⟩)
        have qB0 := (show CellF ((w6.setCell ⟨w2.heap.size, 2, none⟩ (.slice (some ⟨w6.heap.size, 0, none⟩) 0 0)).alloc (.cells #[] 2)) ⟨w2.heap.size, 0, none⟩ (.int .i64 1) from CellF.up ((Chg.refl _ _).alloc _) (CellF.set ⟨B0c, B0f⟩ (n2 0 2 (by omega))))
        have qB1 := (show CellF ((w6.setCell ⟨w2.heap.size, 2, none⟩ (.slice (some ⟨w6.heap.size, 0, none⟩) 0 0)).alloc (.cells #[] 2)) ⟨w2.heap.size, 1, none⟩ (.int .i64 (1 + (y : Int))) from CellF.up ((Chg.refl _ _).alloc _) (CellF.set ⟨B1c, B1f⟩ (n2 1 2 (by omega))))
        have qB2 := (show CellF ((w6.setCell ⟨w2.heap.size, 2, none⟩ (.slice (some ⟨w6.heap.size, 0, none⟩) 0 0)).alloc (.cells #[] 2)) ⟨w2.heap.size, 2, none⟩ (.slice (some ⟨w6.heap.size, 0, none⟩) 0 0) from CellF.up ((Chg.refl _ _).alloc _) (CellF.same ⟨B2c, B2f⟩))
        have qR0 := (show CellF ((w6.setCell ⟨w2.heap.size, 2, none⟩ (.slice (some ⟨w6.heap.size, 0, none⟩) 0 0)).alloc (.cells #[] 2)) ⟨w.heap.size, 0, none⟩ (.int .i64 0) from CellF.up ((Chg.refl _ _).alloc _) (CellF.set ⟨R0c, R0f⟩ (n3 0 2)))
        have qR1 := (show CellF ((w6.setCell ⟨w2.heap.size, 2, none⟩ (.slice (some ⟨w6.heap.size, 0, none⟩) 0 0)).alloc (.cells #[] 2)) ⟨w.heap.size, 1, none⟩ (.int .i64 0) from CellF.up ((Chg.refl _ _).alloc _) (CellF.set ⟨R1c, R1f⟩ (n3 1 2)))
        have qR2 := (show CellF ((w6.setCell ⟨w2.heap.size, 2, none⟩ (.slice (some ⟨w6.heap.size, 0, none⟩) 0 0)).alloc (.cells #[] 2)) ⟨w.heap.size, 2, none⟩ (.slice none 0 0) from CellF.up ((Chg.refl _ _).alloc _) (CellF.set ⟨R2c, R2f⟩ (n3 2 2)))
        have hc7 := (show Chg (fun k => k = b) (w.alloc (.cells #[.int .i64 0, .int .i64 0, .slice none 0 0] 87)) ((w6.setCell ⟨w2.heap.size, 2, none⟩ (.slice (some ⟨w6.heap.size, 0, none⟩) 0 0)).alloc (.cells #[] 2)) from Chg.alloc (Chg.setCell HC6.out (p := ⟨w2.heap.size, 2, none⟩) (.inr (by simp only [World.size_alloc]; omega)) _) _)
        have he : (w6.setCell ⟨w2.heap.size, 2, none⟩ (.slice (some ⟨w6.heap.size, 0, none⟩) 0 0)).heap.size = w6.heap.size := by simp [World.setCell]
        have hL := (show Ints ((w6.setCell ⟨w2.heap.size, 2, none⟩ (.slice (some ⟨w6.heap.size, 0, none⟩) 0 0)).alloc (.cells #[] 2)) (fun x => x = (w6.setCell ⟨w2.heap.size, 2, none⟩ (.slice (some ⟨w6.heap.size, 0, none⟩) 0 0)).heap.size) (.slice (some ⟨(w6.setCell ⟨w2.heap.size, 2, none⟩ (.slice (some ⟨w6.heap.size, 0, none⟩) 0 0)).heap.size, 0, none⟩) 0 0) [] from Ints.nil _ _ 0 _ (by omega))
        rw [he] at hL
        obtain ⟨w7, h7⟩ : ∃ w7, ((w6.setCell ⟨w2.heap.size, 2, none⟩ (.slice (some ⟨w6.heap.size, 0, none⟩) 0 0)).alloc (.cells #[] 2)) = w7 := ⟨_, rfl⟩
        rw [h7] at hL hc7 qB0 qB1 qB2 qR0 qR1 qR2
        have HL := Lib.hid hL
        have HC7 := Lib.hid hc7
        obtain ⟨B0c', B0f'⟩ := qB0
        obtain ⟨B1c', B1f'⟩ := qB1
        obtain ⟨B2c', B2f'⟩ := qB2
        obtain ⟨R0c', R0f'⟩ := qR0
        obtain ⟨R1c', R1f'⟩ := qR1
        obtain ⟨R2c', R2f'⟩ := qR2
        clear hL hc7 he n2 n3 B0c B0f B1c B1f B2c B2f R0c R0f R1c R1f R2c R2f
        go_wp2
        refine bodyPost_ret (v := .agg #[.int .i64 (1), .int .i64 (1 + (y : Int)), .slice (some ⟨w6.heap.size, 0, none⟩) 0 0]) (by simp [results, Try.results123, go_sem, R0c', R1c', R2c', B0c', B1c', B2c']) rfl ?_
        exact row_end (B := w2.heap.size) HC7.out HL.out (fun x hx => by have hx : x = w6.heap.size := hx; omega) HI.out.2.2.2 HI.out.1 HI.out.2.1 (by repeat (first | exact Chg.refl _ _ | refine Chg.setCell ?_ (.inl (.inl rfl)) _ | refine Chg.setCell ?_ (.inl (.inr rfl)) _))
      · have e1 : ((k : Int) == 1) = false := by simp; omega
        by_cases h2 : k = 2
        · subst h2
          have n2 : ∀ (u u' : Nat), u ≠ u' → (⟨w2.heap.size, u, none⟩ : Addr) ≠ ⟨w2.heap.size, u', none⟩ := fun u u' hu h9 => hu (by injection h9)
          have n3 : ∀ (u u' : Nat), (⟨w.heap.size, u, none⟩ : Addr) ≠ ⟨w2.heap.size, u', none⟩ := fun u u' h9 => by injection h9 with h9 _ _; omega
          obtain ⟨b2c, b2f⟩ := (show CellF (w6.alloc (.cells #[.int .i64 10, .int .i64 11, .int .i64 1] 2)) ⟨w2.heap.size, 2, none⟩ (.slice Aq xs.length cq) from CellF.up ((Chg.refl _ _).alloc _) ⟨B2c, B2f⟩)
          have qB0 := (show CellF ((w6.setCell ⟨w2.heap.size, 2, none⟩ (.slice (some ⟨w6.heap.size, 0, none⟩) 3 3)).alloc (.cells #[.int .i64 10, .int .i64 11, .int .i64 1] 2)) ⟨w2.heap.size, 0, none⟩ (.int .i64 1) from CellF.up ((Chg.refl _ _).alloc _) (CellF.set ⟨B0c, B0f⟩ (n2 0 2 (by omega))))
          have qB1 := (show CellF ((w6.setCell ⟨w2.heap.size, 2, none⟩ (.slice (some ⟨w6.heap.size, 0, none⟩) 3 3)).alloc (.cells #[.int .i64 10, .int .i64 11, .int .i64 1] 2)) ⟨w2.heap.size, 1, none⟩ (.int .i64 (1 + (y : Int))) from CellF.up ((Chg.refl _ _).alloc _) (CellF.set ⟨B1c, B1f⟩ (n2 1 2 (by omega))))
          have qB2 := (show CellF ((w6.setCell ⟨w2.heap.size, 2, none⟩ (.slice (some ⟨w6.heap.size, 0, none⟩) 3 3)).alloc (.cells #[.int .i64 10, .int .i64 11, .int .i64 1] 2)) ⟨w2.heap.size, 2, none⟩ (.slice (some ⟨w6.heap.size, 0, none⟩) 3 3) from CellF.up ((Chg.refl _ _).alloc _) (CellF.same ⟨B2c, B2f⟩))
          have qR0 := (show CellF ((w6.setCell ⟨w2.heap.size, 2, none⟩ (.slice (some ⟨w6.heap.size, 0, none⟩) 3 3)).alloc (.cells #[.int .i64 10, .int .i64 11, .int .i64 1] 2)) ⟨w.heap.size, 0, none⟩ (.int .i64 0) from CellF.up ((Chg.refl _ _).alloc _) (CellF.set ⟨R0c, R0f⟩ (n3 0 2)))
          have qR1 := (show CellF ((w6.setCell ⟨w2.heap.size, 2, none⟩ (.slice (some ⟨w6.heap.size, 0, none⟩) 3 3)).alloc (.cells #[.int .i64 10, .int .i64 11, .int .i64 1] 2)) ⟨w.heap.size, 1, none⟩ (.int .i64 0) from CellF.up ((Chg.refl _ _).alloc _) (CellF.set ⟨R1c, R1f⟩ (n3 1 2)))
          have qR2 := (show CellF ((w6.setCell ⟨w2.heap.size, 2, none⟩ (.slice (some ⟨w6.heap.size, 0, none⟩) 3 3)).alloc (.cells #[.int .i64 10, .int .i64 11, .int .i64 1] 2)) ⟨w.heap.size, 2, none⟩ (.slice none 0 0) from CellF.up ((Chg.refl _ _).alloc _) (CellF.set ⟨R2c, R2f⟩ (n3 2 2)))
          have hc7 := (show Chg (fun k => k = b) (w.alloc (.cells #[.int .i64 0, .int .i64 0, .slice none 0 0] 87)) ((w6.setCell ⟨w2.heap.size, 2, none⟩ (.slice (some ⟨w6.heap.size, 0, none⟩) 3 3)).alloc (.cells #[.int .i64 10, .int .i64 11, .int .i64 1] 2)) from Chg.alloc (Chg.setCell HC6.out (p := ⟨w2.heap.size, 2, none⟩) (.inr (by simp only [World.size_alloc]; omega)) _) _)
          have he : (w6.setCell ⟨w2.heap.size, 2, none⟩ (.slice (some ⟨w6.heap.size, 0, none⟩) 3 3)).heap.size = w6.heap.size := by simp [World.setCell]
          have hL := litXY (w6.setCell ⟨w2.heap.size, 2, none⟩ (.slice (some ⟨w6.heap.size, 0, none⟩) 3 3))
          rw [he] at hL
          obtain ⟨w7, h7⟩ : ∃ w7, ((w6.setCell ⟨w2.heap.size, 2, none⟩ (.slice (some ⟨w6.heap.size, 0, none⟩) 3 3)).alloc (.cells #[.int .i64 10, .int .i64 11, .int .i64 1] 2)) = w7 := ⟨_, rfl⟩
          rw [h7] at hL hc7 qB0 qB1 qB2 qR0 qR1 qR2
          have HL := Lib.hid hL
          have HC7 := Lib.hid hc7
          obtain ⟨B0c', B0f'⟩ := qB0
          obtain ⟨B1c', B1f'⟩ := qB1
          obtain ⟨B2c', B2f'⟩ := qB2
          obtain ⟨R0c', R0f'⟩ := qR0
          obtain ⟨R1c', R1f'⟩ := qR1
          obtain ⟨R2c', R2f'⟩ := qR2
          clear hL hc7 he n2 n3 B0c B0f B1c B1f B2c B2f R0c R0f R1c R1f R2c R2f
          go_wp2
          refine bodyPost_ret (v := .agg #[.int .i64 (1), .int .i64 (1 + (y : Int)), .slice (some ⟨w6.heap.size, 0, none⟩) 3 3]) (by simp [results, Try.results123, go_sem, R0c', R1c', R2c', B0c', B1c', B2c']) rfl ?_
          exact row_end (B := w2.heap.size) HC7.out HL.out (fun x hx => by have hx : x = w6.heap.size := hx; omega) HI.out.2.2.2 HI.out.1 HI.out.2.1 (by repeat (first | exact Chg.refl _ _ | refine Chg.setCell ?_ (.inl (.inl rfl)) _ | refine Chg.setCell ?_ (.inl (.inr rfl)) _))
        · have e2 : ((k : Int) == 2) = false := by simp; omega
          by_cases h3 : k = 3
          · subst h3
            have n2 : ∀ (u u' : Nat), u ≠ u' → (⟨w2.heap.size, u, none⟩ : Addr) ≠ ⟨w2.heap.size, u', none⟩ := fun u u' hu h9 => hu (by injection h9)
            have n3 : ∀ (u u' : Nat), (⟨w.heap.size, u, none⟩ : Addr) ≠ ⟨w2.heap.size, u', none⟩ := fun u u' h9 => by injection h9 with h9 _ _; omega
            obtain ⟨b2c, b2f⟩ := (show CellF (w6.alloc (.cells #[.int .i64 3, .int .i64 3] 2)) ⟨w2.heap.size, 2, none⟩ (.slice Aq xs.length cq) from CellF.up ((Chg.refl _ _).alloc _) ⟨B2c, B2f⟩)
            have qB0 := (show CellF ((w6.setCell ⟨w2.heap.size, 2, none⟩ (.slice (some ⟨w6.heap.size, 0, none⟩) 2 2)).alloc (.cells #[.int .i64 3, .int .i64 3] 2)) ⟨w2.heap.size, 0, none⟩ (.int .i64 1) from CellF.up ((Chg.refl _ _).alloc _) (CellF.set ⟨B0c, B0f⟩ (n2 0 2 (by omega))))
            have qB1 := (show CellF ((w6.setCell ⟨w2.heap.size, 2, none⟩ (.slice (some ⟨w6.heap.size, 0, none⟩) 2 2)).alloc (.cells #[.int .i64 3, .int .i64 3] 2)) ⟨w2.heap.size, 1, none⟩ (.int .i64 (1 + (y : Int))) from CellF.up ((Chg.refl _ _).alloc _) (CellF.set ⟨B1c, B1f⟩ (n2 1 2 (by omega))))
            have qB2 := (show CellF ((w6.setCell ⟨w2.heap.size, 2, none⟩ (.slice (some ⟨w6.heap.size, 0, none⟩) 2 2)).alloc (.cells #[.int .i64 3, .int .i64 3] 2)) ⟨w2.heap.size, 2, none⟩ (.slice (some ⟨w6.heap.size, 0, none⟩) 2 2) from CellF.up ((Chg.refl _ _).alloc _) (CellF.same ⟨B2c, B2f⟩))
            have qR0 := (show CellF ((w6.setCell ⟨w2.heap.size, 2, none⟩ (.slice (some ⟨w6.heap.size, 0, none⟩) 2 2)).alloc (.cells #[.int .i64 3, .int .i64 3] 2)) ⟨w.heap.size, 0, none⟩ (.int .i64 0) from CellF.up ((Chg.refl _ _).alloc _) (CellF.set ⟨R0c, R0f⟩ (n3 0 2)))
            have qR1 := (show CellF ((w6.setCell ⟨w2.heap.size, 2, none⟩ (.slice (some ⟨w6.heap.size, 0, none⟩) 2 2)).alloc (.cells #[.int .i64 3, .int .i64 3] 2)) ⟨w.heap.size, 1, none⟩ (.int .i64 0) from CellF.up ((Chg.refl _ _).alloc _) (CellF.set ⟨R1c, R1f⟩ (n3 1 2)))
            have qR2 := (show CellF ((w6.setCell ⟨w2.heap.size, 2, none⟩ (.slice (some ⟨w6.heap.size, 0, none⟩) 2 2)).alloc (.cells #[.int .i64 3, .int .i64 3] 2)) ⟨w.heap.size, 2, none⟩ (.slice none 0 0) from CellF.up ((Chg.refl _ _).alloc _) (CellF.set ⟨R2c, R2f⟩ (n3 2 2)))
            have hc7 := (show Chg (fun k => k = b) (w.alloc (.cells #[.int .i64 0, .int .i64 0, .slice none 0 0] 87)) ((w6.setCell ⟨w2.heap.size, 2, none⟩ (.slice (some ⟨w6.heap.size, 0, none⟩) 2 2)).alloc (.cells #[.int .i64 3, .int .i64 3] 2)) from Chg.alloc (Chg.setCell HC6.out (p := ⟨w2.heap.size, 2, none⟩) (.inr (by simp only [World.size_alloc]; omega)) _) _)
            have he : (w6.setCell ⟨w2.heap.size, 2, none⟩ (.slice (some ⟨w6.heap.size, 0, none⟩) 2 2)).heap.size = w6.heap.size := by simp [World.setCell]
            have hL := lit33 (w6.setCell ⟨w2.heap.size, 2, none⟩ (.slice (some ⟨w6.heap.size, 0, none⟩) 2 2))
            rw [he] at hL
            obtain ⟨w7, h7⟩ : ∃ w7, ((w6.setCell ⟨w2.heap.size, 2, none⟩ (.slice (some ⟨w6.heap.size, 0, none⟩) 2 2)).alloc (.cells #[.int .i64 3, .int .i64 3] 2)) = w7 := ⟨_, rfl⟩
            rw [h7] at hL hc7 qB0 qB1 qB2 qR0 qR1 qR2
            have HL := Lib.hid hL
            have HC7 := Lib.hid hc7
            obtain ⟨B0c', B0f'⟩ := qB0
            obtain ⟨B1c', B1f'⟩ := qB1
            obtain ⟨B2c', B2f'⟩ := qB2
            obtain ⟨R0c', R0f'⟩ := qR0
            obtain ⟨R1c', R1f'⟩ := qR1
            obtain ⟨R2c', R2f'⟩ := qR2
            clear hL hc7 he n2 n3 B0c B0f B1c B1f B2c B2f R0c R0f R1c R1f R2c R2f
            go_wp2
            refine bodyPost_ret (v := .agg #[.int .i64 (1), .int .i64 (1 + (y : Int)), .slice (some ⟨w6.heap.size, 0, none⟩) 2 2]) (by simp [results, Try.results123, go_sem, R0c', R1c', R2c', B0c', B1c', B2c']) rfl ?_
            exact row_end (B := w2.heap.size) HC7.out HL.out (fun x hx => by have hx : x = w6.heap.size := hx; omega) HI.out.2.2.2 HI.out.1 HI.out.2.1 (by repeat (first | exact Chg.refl _ _ | refine Chg.setCell ?_ (.inl (.inl rfl)) _ | refine Chg.setCell ?_ (.inl (.inr rfl)) _))
          · have e3 : ((k : Int) == 3) = false := by simp; omega
            go_wp2
            refine bodyPost_ret (v := .agg #[.int .i64 (1), .int .i64 (1 + (y : Int)), .slice Aq xs.length cq]) (by simp [results, Try.results123, go_sem, R0c, R1c, R2c, B0c, B1c, B2c]) rfl ?_
            exact row_end (B := w2.heap.size) HC6.out HO6.out HSB.out HI.out.2.2.2 HI.out.1 HI.out.2.1 (by repeat (first | exact Chg.refl _ _ | refine Chg.setCell ?_ (.inl (.inl rfl)) _ | refine Chg.setCell ?_ (.inl (.inr rfl)) _))
end Go.Proofs.Ytnjfhpgmogopnaa
