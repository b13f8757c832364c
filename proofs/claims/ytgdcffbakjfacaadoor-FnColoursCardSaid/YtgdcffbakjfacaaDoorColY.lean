/- The law on colour charts, walked. No condition. -/
import Derived.Test.YtgdcffbakjfacaaDoorFC14
import Derived.Test.YtgdcffbakjfacaaDoorFC16
import Derived.Test.YtgdcffbakjfacaaDoorFC18
set_option linter.unusedSimpArgs false
set_option linter.unusedVariables false
set_option maxRecDepth 100000
set_option maxHeartbeats 4000000
namespace Go.Proofs.YtgdcffbakjfacaaDoor
open Go.ChangeShapes Go.WideShapes Go.ChangeAt Go.RowKit
namespace fnColours
theorem a2Long_any (w : World) (A : Option Addr) (n cp : Nat) :
    Calls Tryd.prog 4 #[.slice A n cp, .slice none 0 0] w fun e w' => e = .returned (.bool (decide (3000 < (n : Int)))) ∧ w = w' := by
  by_cases h : 3000 < (n : Int)
  · have h1 : decide (3000 < (n : Int)) = true := decide_eq_true h
    rw [h1]
    go_enter Tryd.func4, Tryd.ntmps4
    go_wp2
    go_ret
    exact ⟨rfl, rfl⟩
  · have h1 : decide (3000 < (n : Int)) = false := decide_eq_false h
    rw [h1]
    go_enter Tryd.func4, Tryd.ntmps4
    go_wp2
    go_ret
    exact ⟨rfl, rfl⟩
theorem okOf {n : Nat} {rs : List (List Int)} (hn : 1 ≤ n ∧ n ≤ 8) (hr : 1 ≤ rs.length ∧ rs.length ≤ 8) (h : ∀ r ∈ rs, r.length = n ∧ ∀ x ∈ r, 1 ≤ x ∧ x ≤ 4) : okCol ⟨(n : Int), rs⟩ = true := by
  unfold okCol okLine
  simp only [Bool.and_eq_true, inB, decide_eq_true_eq, List.all_eq_true]
  refine ⟨⟨by omega, by omega⟩, fun r hr => ⟨by have := (h r hr).1; omega, fun x hx => by have := (h r hr).2 x hx; unfold carB; simp only [inB, decide_eq_true_eq]; exact this⟩⟩
theorem totC_eq {n : Nat} {rs : List (List Int)} (h : ∀ r ∈ rs, r.length = n) : ∀ t, t ≤ rs.length → totC rs t = n * t
  | 0, _ => by simp [totC]
  | t + 1, ht => by
    rw [totC, totC_eq h t (by omega), colAt_eq (by omega), h _ (List.getElem_mem _), Nat.mul_add, Nat.mul_one]
/-- the sum of what stands ahead of a place -/
theorem sum_take {xs : List Int} {j : Nat} (hj : j < xs.length) : (xs.take (j + 1)).sum = (xs.take j).sum + xs[j] := by
  rw [List.take_succ_eq_append_getElem hj, List.sum_append]; simp
theorem sum_bd {xs : List Int} (h : ∀ x ∈ xs, 0 ≤ x) (j : Nat) : 0 ≤ (xs.take j).sum ∧ (xs.take j).sum ≤ xs.sum := by
  have h1 := nnsum (xs.take j) (fun x hx => h x (List.mem_of_mem_take hx))
  have h2 := nnsum (xs.drop j) (fun x hx => h x (List.mem_of_mem_drop hx))
  have h3 : xs.sum = (xs.take j).sum + (xs.drop j).sum := by rw [← List.sum_append, List.take_append_drop]
  omega
theorem base_at {row : List Int} {k : Int} {j : Nat} (hj : j < row.length) : ix (baseSt row k) j = if row[j] = k then 1 else 7 := by
  rw [ix_eq (by rw [baseSt, List.length_map]; exact hj)]
  simp [baseSt]
theorem walk (w : World) (m : Int) (hm : w.cell? ⟨0, 0, none⟩ = some (.int .i64 m)) (A : Option Addr) (cp : Nat) (bs : List Nat) (hrd : 0 < bs.length → ∃ gb go, A = some ⟨gb, go, none⟩ ∧ ∀ i (hi : i < bs.length), w.cell? ⟨gb, go + i, none⟩ = some (.int .u8 (bs[i] : Int)) ∧ bs[i] < 256) :
    Calls Tryd.prog 3 #[.slice A bs.length cp] w fun e w' => e = .returned (.bool true) ∧ Below w.heap.size w w' := by
  by_cases hl : bs.length ≤ 3000
  rotate_left
  · have e0 : decide (3000 < (bs.length : Int)) = true := decide_eq_true (by omega)
    go_enter Tryd.func3, Tryd.ntmps3
    go_wp2_with fail
    refine (a2Long_any _ A bs.length cp).mono ?_
    rintro e w' ⟨rfl, rfl⟩
    go_wp2
    go_ret
    exact ⟨rfl, Below.refl _ _⟩
  have e0 : decide (3000 < (bs.length : Int)) = false := decide_eq_false (by omega)
  have HB := Lib.hid (show Byts w A cp bs from ⟨by omega, hrd⟩)
  have HM := Lib.hid hm
  clear hrd hm
  go_enter Tryd.func3, Tryd.ntmps3
  go_wp2_with fail
  refine (a2Long_any _ A bs.length cp).mono ?_
  rintro e w' ⟨rfl, rfl⟩
  go_wp2_with fail
  refine (A2Colours_any _ A cp bs (HB.out.up (by repeat (first | exact Chg.refl _ _ | apply Chg.drew | apply Chg.drewN | refine Chg.alloc ?_ _)))).mono ?_
  rintro e w1 ⟨n, rs, E, k, rfl, hi, hk1, hk2, hn, hr, hrow, g1⟩
  have HOK := Lib.hid (okOf hn hr hrow)
  have HI := Lib.hid hi
  have HV := Lib.hid (show ColV w1 _ _ _ (.agg #[.int .i64 (n : Int), .slice E rs.length k]) ⟨(n : Int), rs⟩ from ⟨E, k, rfl, hi, ⟨hk1, hk2⟩, show I64 (n : Int) by unfold I64; omega⟩)
  have G1 := Lib.hid (show Up w w1 from Chg.trans (by repeat (first | exact Chg.refl _ _ | apply Chg.drew | apply Chg.drewN | refine Chg.alloc ?_ _)) g1)
  have HROW := Lib.hid hrow
  clear hi hk1 hk2 g1 hrow
  obtain ⟨p, hp⟩ : ∃ x, x = w1.heap.size := ⟨_, rfl⟩
  obtain ⟨w2, hw2⟩ : ∃ x, x = w1.alloc (.cells #[.int .i64 (n : Int), .slice E rs.length k] 26) := ⟨_, rfl⟩
  have G2 := Lib.hid (show Up w1 w2 by rw [hw2]; exact (Chg.refl Nowhere w1).alloc _)
  have C0 := Lib.hid (show CellF w2 ⟨p, 0, none⟩ (.int .i64 (n : Int)) by rw [hw2, hp]; exact cellF_at rfl rfl)
  have C1 := Lib.hid (show CellF w2 ⟨p, 1, none⟩ (.slice E rs.length k) by rw [hw2, hp]; exact cellF_at rfl rfl)
  have c0 : (w1.alloc (.cells #[.int .i64 (n : Int), .slice E rs.length k] 26)).cell? ⟨w1.heap.size, 0, none⟩ = some (.int .i64 (n : Int)) := cell_new _ _ _ _
  have c1 : (w1.alloc (.cells #[.int .i64 (n : Int), .slice E rs.length k] 26)).cell? ⟨w1.heap.size, 1, none⟩ = some (.slice E rs.length k) := cell_new _ _ _ _
  go_wp2_with fail
  simp only [← hw2, ← hp]
  clear hw2 hp c0 c1
  refine (ColoursText_any _ _ _ ⟨(n : Int), rs⟩ ((HV.out.up G2.out).up (by repeat (first | exact Chg.refl _ _ | apply Chg.drew | apply Chg.drewN | refine Chg.alloc ?_ _))) HOK.out).mono ?_
  rintro e w3 ⟨s, rfl, hs, g3⟩
  have G3 := Lib.hid (show Up w2 w3 from Chg.trans (by repeat (first | exact Chg.refl _ _ | apply Chg.drew | apply Chg.drewN | refine Chg.alloc ?_ _)) g3)
  have HS := Lib.hid hs
  clear g3 hs
  go_wp2_with fail
  refine (ReadColours_any _ s ⟨(n : Int), rs⟩ HOK.out HS.out m (Chg.cell (Chg.trans (Chg.trans G1.out (Chg.trans G2.out G3.out)) (by repeat (first | exact Chg.refl _ _ | apply Chg.drew | apply Chg.drewN | refine Chg.alloc ?_ _))) HM.out id)).mono ?_
  rintro e w4 ⟨E4, k4, rfl, hi4, hl4, hk4, g4⟩
  have G4 := Lib.hid (show Up w2 w4 from Chg.trans G3.out (Chg.trans (by repeat (first | exact Chg.refl _ _ | apply Chg.drew | apply Chg.drewN | refine Chg.alloc ?_ _)) g4))
  have HI4 := Lib.hid hi4
  have c0 := (CellF.up (Chg.alloc G4.out (.cells #[.int .i64 (n : Int), .slice E4 rs.length k4] 26)) C0.out).1
  have c1 := (CellF.up (Chg.alloc G4.out (.cells #[.int .i64 (n : Int), .slice E4 rs.length k4] 26)) C1.out).1
  clear g4 hi4
  go_wp2_with fail
  clear c0 c1
  obtain ⟨p4, hp4⟩ : ∃ x, x = w4.heap.size := ⟨_, rfl⟩
  obtain ⟨w5, hw5⟩ : ∃ x, x = w4.alloc (.cells #[.int .i64 (n : Int), .slice E4 rs.length k4] 26) := ⟨_, rfl⟩
  have G5 := Lib.hid (show Up w2 w5 by rw [hw5]; exact Chg.trans G4.out ((Chg.refl Nowhere w4).alloc _))
  have D0 := Lib.hid (show CellF w5 ⟨p4, 0, none⟩ (.int .i64 (n : Int)) by rw [hw5, hp4]; exact cellF_at rfl rfl)
  have D1 := Lib.hid (show CellF w5 ⟨p4, 1, none⟩ (.slice E4 rs.length k4) by rw [hw5, hp4]; exact cellF_at rfl rfl)
  have HI5 := Lib.hid (show IntSSV w5 _ _ _ (.slice E4 rs.length k4) rs from by rw [hw5]; exact HI4.out.up ((Chg.refl Nowhere w4).alloc _))
  simp only [← hw5, ← hp4]
  clear hw5 hp4 HI4
  refine (CountColours_any _ _ _ ⟨(n : Int), rs⟩ ((HV.out.up (Chg.trans G2.out G5.out)).up (by repeat (first | exact Chg.refl _ _ | apply Chg.drew | apply Chg.drewN | refine Chg.alloc ?_ _))) HOK.out).mono ?_
  rintro e w6 ⟨u, xs, rfl, hx, hx4, hxs, hx0, g6⟩
  obtain ⟨Ax, cx, rfl, -, -, -⟩ := hx.shape
  have HX := Lib.hid hx
  have G56 := Lib.hid (show Up w5 w6 from Chg.trans (by repeat (first | exact Chg.refl _ _ | apply Chg.drew | apply Chg.drewN | refine Chg.alloc ?_ _)) g6)
  have HXS := Lib.hid (show xs.sum = ((n * rs.length : Nat) : Int) by rw [hxs]; exact congrArg _ (totC_eq (fun r hr => (HROW.out r hr).1) _ (Nat.le_refl _)))
  have HX0 := Lib.hid hx0
  have HXL := Lib.hid hx4
  have hnr : n * rs.length ≤ 8 * 8 := Nat.mul_le_mul hn.2 hr.2
  clear g6 hx hxs hx0 hx4
  go_wp2
  rw [HXL.out]
  go_loopw [7, 8] (fun q i wr => ∃ (j : Nat), j ≤ xs.length ∧ i = .int .i64 (j : Int) ∧ q = .int .i64 (xs.take j).sum ∧ Hid (Up w6 wr)) (fun _ i _ => xs.length - (intOf i).toNat)
  case atStart => exact ⟨0, by omega, rfl, by simp, Lib.hid (by first | exact Chg.refl _ _ | exact (Chg.refl _ _).drew | exact (Chg.refl _ _).drewN _)⟩
  case round =>
    obtain ⟨j, hj, rfl, rfl, hu⟩ := hrel
    by_cases hjl : j < xs.length
    · obtain ⟨b7, o7, rfl, -, hc7⟩ := ints_ixf (HX.out.up hu.out) hjl
      have f0 := (hc7 j hjl).1
      rw [ix_eq hjl] at f0
      clear hc7
      have hb1 := sum_bd HX0.out j
      have hb2 := sum_bd HX0.out (j + 1)
      rw [HXS.out] at hb1 hb2
      have hst := sum_take hjl
      rw [hst] at hb2
      have wk : IntKind.i64.wrap ((xs.take j).sum + xs[j]) = (xs.take j).sum + xs[j] := IntWalk.i64_in _ (by omega)
      have hxl := HXL.out
      have hj4 : (j : Int) < 4 := by omega
      have hj0 : (0 : Int) ≤ (j : Int) := by omega
      have htj : decide ((j : Int) < 4) = true := decide_eq_true (by omega)
      have HST := Lib.hid hst
      obtain ⟨y, hy⟩ : ∃ y, y = xs[j] := ⟨_, rfl⟩
      obtain ⟨z, hz⟩ : ∃ z, z = (xs.take j).sum := ⟨_, rfl⟩
      rw [← hy, ← hz] at wk
      rw [← hy] at f0
      rw [← hz]
      have HYZ := Lib.hid (And.intro hy hz)
      clear hst hb1 hb2 hy hz hxl
      go_wp2
      go_roundw
      case rel => exact ⟨j + 1, by omega, by go_num, by rw [HST.out, ← HYZ.out.1, ← HYZ.out.2], hu.out⟩
      case measure => first | (simp [intOf]; done) | (simp [intOf]; omega)
    · obtain rfl : j = xs.length := by omega
      rw [List.take_length, HXS.out]
      have htj : decide ((xs.length : Int) < 4) = false := decide_eq_false (by have := HXL.out; omega)
      have G7 := Lib.hid (show Up w5 wr from Chg.trans G56.out hu.out)
      have c0 := (CellF.up (Chg.trans G5.out G7.out) C0.out).1
      have c1 := (CellF.up (Chg.trans G5.out G7.out) C1.out).1
      have d0 := (CellF.up G7.out D0.out).1
      have d1 := (CellF.up G7.out D1.out).1
      have wm : IntKind.i64.wrap ((n : Int) * (rs.length : Int)) = ((n * rs.length : Nat) : Int) := by
        rw [← Int.natCast_mul]
        exact IntWalk.i64_in _ (by omega)
      obtain ⟨W0, hW0⟩ : ∃ x, x = wr := ⟨_, rfl⟩
      subst hW0
      go_wp2_with fail
      refine (SameColours_any _ _ _ n rs E4 E k4 k (HI5.out.up (Chg.trans G7.out (by repeat (first | exact Chg.refl _ _ | apply Chg.drew | apply Chg.drewN | refine Chg.alloc ?_ _)))) ((HI.out.up (Chg.trans G2.out (Chg.trans G5.out G7.out))).up (by repeat (first | exact Chg.refl _ _ | apply Chg.drew | apply Chg.drewN | refine Chg.alloc ?_ _)))).mono ?_
      rintro e w8 ⟨rfl, g8⟩
      have G8 := Lib.hid (show Up w5 w8 from Chg.trans G7.out (Chg.trans (by repeat (first | exact Chg.refl _ _ | apply Chg.drew | apply Chg.drewN | refine Chg.alloc ?_ _)) g8))
      clear c0 c1 d0 d1 g8
      have c0 := (CellF.up (Chg.trans G5.out G8.out) C0.out).1
      have c1 := (CellF.up (Chg.trans G5.out G8.out) C1.out).1
      have hne : (((n * rs.length : Nat) : Int) != ((n * rs.length : Nat) : Int)) = false := by simp
      have hl4b : (((4 : Int)) != 4) = false := by decide
      go_wp2_with fail
      refine (ChartOfColours_any _ _ _ ⟨(n : Int), rs⟩ ((HV.out.up (Chg.trans G2.out (Chg.trans G5.out G8.out))).up (by repeat (first | exact Chg.refl _ _ | apply Chg.drew | apply Chg.drewN | refine Chg.alloc ?_ _))) HOK.out).mono ?_
      rintro e w9 ⟨A9, k9, r, kc, hkc, hr9, rfl, hx9, g9⟩
      have G9 := Lib.hid (show Up w5 w9 from Chg.trans G8.out (Chg.trans (by repeat (first | exact Chg.refl _ _ | apply Chg.drew | apply Chg.drewN | refine Chg.alloc ?_ _)) g9))
      have HX9 := Lib.hid hx9
      clear c0 c1 g9 hx9 hne hl4b wm
      have c0 := (CellF.up (Chg.alloc (Chg.trans G5.out G9.out) (.cells #[.int .i64 r.n, .slice A9 r.rs.length k9] 36)) C0.out).1
      have c1 := (CellF.up (Chg.alloc (Chg.trans G5.out G9.out) (.cells #[.int .i64 r.n, .slice A9 r.rs.length k9] 36)) C1.out).1
      by_cases hcb : chartB (chartC ⟨(n : Int), rs⟩ 0) = true
      rotate_left
      · have h5 : kc = 5 := by rw [hkc.out]; unfold codeJ; rw [if_neg hcb]
        subst h5
        clear hkc
        go_wp2
        go_ret
        exact ⟨rfl, Up.below (Chg.trans G1.out (Chg.trans G2.out (Chg.trans G5.out (Chg.alloc G9.out _))))⟩
      have h0 : kc = 0 := by rw [hkc.out]; unfold codeJ; rw [if_pos hcb]
      subst h0
      clear hkc
      obtain rfl : r = chartC ⟨(n : Int), rs⟩ 0 := by rw [hr9.out]; unfold outJ; rw [if_pos hcb]
      clear hr9 hcb c0 c1
      obtain ⟨R, hR⟩ : ∃ R, R = (colTo 0 rs rs.length).rs := ⟨_, rfl⟩
      have HR := Lib.hid hR
      have eC : chartC ⟨(n : Int), rs⟩ 0 = ⟨(n : Int), R⟩ := by rw [hR]; rfl
      rw [eC] at HX9 ⊢
      clear eC hR
      obtain ⟨Ar, kr, eA, hrx, hrl, hrm⟩ := openChartX HX9.out
      obtain ⟨rfl, rfl⟩ : A9 = Ar ∧ k9 = kr := by simpa using eA
      have HRX := Lib.hid hrx
      clear HX9 eA hrx
      obtain ⟨p9, hp9⟩ : ∃ x, x = w9.heap.size := ⟨_, rfl⟩
      obtain ⟨wf, hwf⟩ : ∃ x, x = w9.alloc (.cells #[.int .i64 (n : Int), .slice A9 R.length k9] 36) := ⟨_, rfl⟩
      have GF := Lib.hid (show Up w9 wf by rw [hwf]; exact (Chg.refl Nowhere w9).alloc _)
      have E1 := Lib.hid (show CellF wf ⟨p9, 1, none⟩ (.slice A9 R.length k9) by rw [hwf, hp9]; exact cellF_at rfl rfl)
      have F0 := Lib.hid (CellF.up (Chg.trans G5.out (Chg.trans G9.out GF.out)) C0.out)
      have F1 := Lib.hid (CellF.up (Chg.trans G5.out (Chg.trans G9.out GF.out)) C1.out)
      have HRF := Lib.hid (HRX.out.up GF.out)
      have HIF := Lib.hid (HI.out.up (Chg.trans G2.out (Chg.trans G5.out (Chg.trans G9.out GF.out))))
      have UWF := Lib.hid (show Up w wf from Chg.trans G1.out (Chg.trans G2.out (Chg.trans G5.out (Chg.trans G9.out GF.out))))
      go_wp2_with fail
      simp only [← hwf, ← hp9]
      clear hwf hp9 HV HI HI5 HX HX0 HXS HXL C0 C1 D0 D1 G1 G2 G5 G7 G8 G9 GF G3 G4 G56 HRX
      have HRN := Lib.hid (show ∀ t, (colTo 0 rs t).rs.length ≤ 4 * t from fun t => (colTo_ok 0 rs t).2.2)
      go_loopw [11, 12, 13, 14, 15, 16] (fun a i _ _ _ _ wr => ∃ t : Nat, t ≤ rs.length ∧ i = .int .i64 (t : Int) ∧ a = .int .i64 (((colTo 0 rs t).rs.length : Nat) : Int) ∧ Hid (Up wf wr)) (fun _ i _ _ _ _ _ => rs.length - (intOf i).toNat)
      case atStart => exact ⟨0, by omega, rfl, rfl, Lib.hid (Chg.refl _ _)⟩
      case round =>
        obtain ⟨t, ht, rfl, rfl, hu⟩ := hrel
        obtain ⟨wk, hwk⟩ : ∃ x, x = wr := ⟨_, rfl⟩
        subst hwk
        have HUK := hu
        have c0 := (CellF.up hu.out F0.out).1
        have c1 := (CellF.up hu.out F1.out).1
        by_cases htl : t < rs.length
        rotate_left
        · obtain rfl : t = rs.length := by omega
          rw [← HR.out]
          have htd : decide ((rs.length : Int) < (rs.length : Int)) = false := decide_eq_false (by omega)
          have e1 := (CellF.up hu.out E1.out).1
          have hrr : ((R.length : Int) == (R.length : Int)) = true := by simp
          go_wp2
          go_ret
          exact ⟨rfl, Up.below (Chg.trans UWF.out (by first | exact hu.out | exact hu.out.drew | exact hu.out.drewN _))⟩
        have htd : decide ((t : Int) < (rs.length : Int)) = true := decide_eq_true (by omega)
        obtain ⟨row, hrow⟩ : ∃ row, row = rs[t] := ⟨_, rfl⟩
        have HRW := Lib.hid hrow
        have hrx := HROW.out _ (List.getElem_mem htl)
        rw [← hrow] at hrx
        obtain ⟨hrn, hr4⟩ := hrx
        have HR4 := Lib.hid hr4
        clear hrow hr4 hu
        go_wp2
        go_loopw [11, 13, 14, 15, 16] (fun a d _ _ _ wr => ∃ m : Nat, m ≤ 4 ∧ d = .int .i64 ((doneTo row m : Nat) : Int) ∧ a = .int .i64 (((colRow 0 row (colTo 0 rs t) m).rs.length : Nat) : Int) ∧ Hid (Up wk wr)) (fun _ d _ _ _ _ => row.length - (intOf d).toNat)
        case atStart => exact ⟨0, by omega, by rw [doneTo_zero (fun x hx => (HR4.out x hx).1)]; rfl, rfl, Lib.hid (by first | exact Chg.refl _ _ | exact (Chg.refl _ _).drew | exact (Chg.refl _ _).drewN _)⟩
        case round =>
          obtain ⟨m', hm4, rfl, rfl, hv⟩ := hrel
          have HUV := Lib.hid (show Up wf wr from Chg.trans HUK.out hv.out)
          clear c0 c1
          have c0 := (CellF.up HUV.out F0.out).1
          have c1 := (CellF.up HUV.out F1.out).1
          have e1 := (CellF.up HUV.out E1.out).1
          by_cases hdl : doneTo row m' < row.length
          rotate_left
          · have HEND := Lib.hid (row_end row HR4.out hm4 hdl (colTo 0 rs t))
            have hdd : decide (((doneTo row m' : Nat) : Int) < (n : Int)) = false := decide_eq_false (by omega)
            go_wp2
            go_roundw
            case rel => exact ⟨t + 1, by omega, by go_num, by rw [← HEND.out, colTo, colAt_eq htl, ← HRW.out], Lib.hid (by first | exact HUV.out | exact HUV.out.drew | exact HUV.out.drewN _)⟩
            case measure => first | (simp [intOf]; done) | (simp [intOf]; omega)
          have hdd : decide (((doneTo row m' : Nat) : Int) < (n : Int)) = true := decide_eq_true (by omega)
          obtain ⟨q, hq⟩ : ∃ q : Nat, q = (colRow 0 row (colTo 0 rs t) m').rs.length := ⟨_, rfl⟩
          have HQ := Lib.hid hq
          obtain ⟨mm, h1, h2, h3, h4, h6, dd, hq7, h8'⟩ : ∃ mm : Nat, m' ≤ mm ∧ mm < 4 ∧ ((mm : Int) + 1) ∈ row ∧ doneTo row mm = doneTo row m' ∧ (colRow 0 row (colTo 0 rs t) (mm + 1)).rs.length = q + 1 ∧ ∃ (dd : Int) (h : q < R.length), R[q] = ⟨dd, (mm : Int) + 1, baseSt row ((mm : Int) + 1)⟩ := by
            have e := HRW.out
            have e2 := HR.out
            have e4 := HR4.out
            clear HRF E1 HIF
            subst e e2 hq
            obtain ⟨mm, h1, h2, h3, h4, -, h6, h7, dd, h8⟩ := row_at rs htl e4 hm4 hdl
            exact ⟨mm, h1, h2, h3, h4, h6, dd, h7, h8⟩
          have H3 := Lib.hid h3
          have H4 := Lib.hid h4
          have H6 := Lib.hid h6
          rw [← hq]
          clear h3 h4 h6 hq
          obtain ⟨b, o, A3, k3, Qj, rfl, g0, g1, g2, -, -, hi3, -⟩ := (HRF.out.up HUV.out).at_ hq7
          rw [h8'] at g1 g2 hi3
          have hbl : (baseSt row ((mm : Int) + 1)).length = row.length := by simp [baseSt]
          rw [hbl] at g2
          have HI3 := Lib.hid hi3
          obtain ⟨b4, o4, k4', vs, he, -, -, -, hE, hc⟩ := (HIF.out.up HUV.out).at_ htl
          obtain ⟨rfl, rfl⟩ : E = some ⟨b4, o4, none⟩ ∧ k = k4' := by simpa using he
          obtain ⟨A5, k5, rfl, hi5, -⟩ := hE
          have f0 := (hc 0 _ rfl).1
          simp only [Nat.mul_one, Nat.add_zero] at f0
          rw [← HRW.out] at f0 hi5
          have HI5 := Lib.hid hi5
          have G1C := Lib.hid g1
          have G2C := Lib.hid g2
          have F0C := Lib.hid f0
          clear hc he hi5 hi3 g0
          have hqd : decide ((R.length : Int) ≤ (q : Int)) = false := decide_eq_false (by omega)
          have hqi : (q : Int) < (R.length : Int) := by omega
          have hq0 : (0 : Int) ≤ (q : Int) := by omega
          have htj : (t : Int) < (rs.length : Int) := by omega
          have ht0 : (0 : Int) ≤ (t : Int) := by omega
          have hrr : ((row.length : Int) != (row.length : Int)) = false := by simp
          go_wp2_with fail
          go_quiet (fail)
          obtain ⟨w0, hw0⟩ : ∃ x, x = wr := ⟨_, rfl⟩
          subst hw0
          go_wp2
          go_loopw [13, 15, 16] (fun d i _ wr => ∃ j : Nat, j ≤ row.length ∧ i = .int .i64 (j : Int) ∧ d = .int .i64 ((doneTo row m' + cntK (row.take j) ((mm : Int) + 1) : Nat) : Int) ∧ Hid (Up w0 wr)) (fun _ i _ _ => row.length - (intOf i).toNat)
          case atStart => exact ⟨0, by omega, rfl, by simp [cntK], Lib.hid (by first | exact Chg.refl _ _ | exact (Chg.refl _ _).drew | exact (Chg.refl _ _).drewN _)⟩
          case round =>
            obtain ⟨j, hj, rfl, rfl, hx⟩ := hrel
            have HUX := Lib.hid (show Up wf wr from Chg.trans HUV.out hx.out)
            clear c0 c1 e1 g1 g2 f0
            have c0 := (CellF.up HUX.out F0.out).1
            have c1 := (CellF.up HUX.out F1.out).1
            have e1 := (CellF.up HUX.out E1.out).1
            have g1 := Chg.cell hx.out G1C.out id
            have g2 := Chg.cell hx.out G2C.out id
            have f0 := Chg.cell hx.out F0C.out id
            by_cases hjl : j < row.length
            rotate_left
            · obtain rfl : j = row.length := by omega
              have htk : decide ((row.length : Int) < (row.length : Int)) = false := decide_eq_false (by omega)
              rw [List.take_length]
              have hcp := cntK_pos H3.out
              have hde : (((doneTo row m' + cntK row ((mm : Int) + 1) : Nat) : Int) == ((doneTo row m' : Nat) : Int)) = false := by simp; omega
              have HDS := Lib.hid (show doneTo row (mm + 1) = doneTo row m' + cntK row ((mm : Int) + 1) by rw [doneTo_succ, H4.out])
              have hdl2 := doneTo_le row (mm + 1)
              rw [HDS.out] at hdl2
              go_wp2
              go_roundw
              case rel => exact ⟨mm + 1, by omega, by rw [HDS.out], by rw [H6.out]; go_num, Lib.hid (by first | exact Chg.trans hv.out hx.out | exact (Chg.trans hv.out hx.out).drew | exact (Chg.trans hv.out hx.out).drewN _)⟩
              case measure => first | (simp [intOf]; done) | (simp [intOf]; omega)
            have htk : decide ((j : Int) < (row.length : Int)) = true := decide_eq_true (by omega)
            obtain ⟨b6, o6, rfl, -, hc6⟩ := ints_ixf (show Ints wr _ (.slice A3 (baseSt row ((mm : Int) + 1)).length k3) (baseSt row ((mm : Int) + 1)) from HI3.out.up hx.out) (show j < (baseSt row ((mm : Int) + 1)).length by rw [hbl]; exact hjl)
            have s0 := (hc6 j (by rw [hbl]; exact hjl)).1
            rw [base_at hjl] at s0
            obtain ⟨b7, o7, rfl, -, hc7⟩ := ints_ixf (HI5.out.up hx.out) hjl
            have t0 := (hc7 j hjl).1
            rw [ix_eq hjl] at t0
            have HCT := Lib.hid (cntK_take (k := (mm : Int) + 1) hjl)
            obtain ⟨y, hy⟩ : ∃ y, y = row[j] := ⟨_, rfl⟩
            rw [← hy] at HCT t0 s0
            clear hc6 hc7 hy
            have hj0 : (0 : Int) ≤ (j : Int) := by omega
            have hji : (j : Int) < (row.length : Int) := by omega
            have hcl8 : (row.take j).length ≤ 8 := by rw [List.length_take]; have := hn.2; omega
            have hcl9 : doneTo row m' + cntK (row.take j) ((mm : Int) + 1) ≤ 100 := by have h1 : cntK (row.take j) ((mm : Int) + 1) ≤ (row.take j).length := List.length_filter_le _ _; have h2 := doneTo_le row m'; have := hn.2; omega
            by_cases hym : y = (mm : Int) + 1
            · rw [if_pos hym] at s0
              have hee : (((mm : Int) + 1) == y) = true := by simp [hym]
              have HYM := Lib.hid hym
              clear hym
              go_wp2_with fail
              go_quiet (fail)
              clear c0 c1 e1 g1 g2 f0 s0 t0 hee
              go_wp2
              go_roundw
              case rel => exact ⟨j + 1, by omega, by go_num, by rw [HCT.out, if_pos HYM.out]; go_num, Lib.hid (hx.out.drewN _)⟩
              case measure => first | (simp [intOf]; done) | (simp [intOf]; omega)
            · rw [if_neg hym] at s0
              have hee : (((mm : Int) + 1) == y) = false := by simp; omega
              have HYM := Lib.hid hym
              clear hym
              go_wp2_with fail
              go_quiet (fail)
              clear c0 c1 e1 g1 g2 f0 s0 t0 hee
              go_wp2
              go_roundw
              case rel => exact ⟨j + 1, by omega, by go_num, by rw [HCT.out, if_neg HYM.out]; rfl, Lib.hid (hx.out.drewN _)⟩
              case measure => first | (simp [intOf]; done) | (simp [intOf]; omega)
end fnColours
end Go.Proofs.YtgdcffbakjfacaaDoor
