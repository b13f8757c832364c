/- The layout of a row holds what the law asks of it. No condition but room. -/
import Derived.Test.YtnjfhpgmogopnaaNdl
import Derived.Test.YtnjfhpgmogopnaaDrw3
import Derived.Test.YtnjfhpgmogopnaaLayM
import Derived.Test.YtnjfhpgmogopnaaRow8
import Derived.BigQuiet
set_option linter.unusedSimpArgs false
set_option linter.unusedVariables false
set_option maxRecDepth 100000
set_option maxHeartbeats 2000000
namespace Go.Proofs.Ytnjfhpgmogopnaa
open Go.ChangeShapes Go.WideShapes Go.ChangeAt Go.RowKit
namespace fnLayout
theorem shC_le : ∀ l : List Tr, shC l ≤ l.length
  | [] => Nat.le_refl _
  | [_] => by simp [shC]
  | x :: y :: r => by
    have := shC_le (y :: r)
    show (if y.m = x.m then 1 else 0) + shC (y :: r) ≤ _
    simp only [List.length_cons] at this ⊢
    split <;> omega
theorem tr_rd {w : World} {S : Nat → Prop} {A : Option Addr} {c : Nat} {ts : List Tr} {f : Tr → Int} (h : Ints w S (.slice A (ts.map f).length c) (ts.map f)) (hp : 0 < ts.length) : ∃ b o, A = some ⟨b, o, none⟩ ∧ ∀ k (hk : k < ts.length), w.cell? ⟨b, o + k, none⟩ = some (.int .i64 (f ts[k])) := by
  obtain ⟨b, o, hA, -, hc⟩ := h.ix (i := 0) (by simpa using hp)
  refine ⟨b, o, hA, fun k hk => ?_⟩
  have f1 := hc k (by simpa using hk)
  rw [ix_eq (by simpa using hk)] at f1
  simpa using f1
theorem walk (w : World) (A : Option Addr) (cp : Nat) (bs : List Nat) (hrd : 0 < bs.length → ∃ gb go, A = some ⟨gb, go, none⟩ ∧ ∀ i (hi : i < bs.length), w.cell? ⟨gb, go + i, none⟩ = some (.int .u8 (bs[i] : Int)) ∧ bs[i] < 256) :
    Calls Try.prog 10 #[.slice A bs.length cp] w fun e w' => e = .returned (.bool true) ∧ Below w.heap.size w w' := by
  by_cases hl : bs.length ≤ 1048576
  rotate_left
  · have e0 : decide (1048576 < (bs.length : Int)) = true := decide_eq_true (by omega)
    go_enter Try.func10, Try.ntmps10
    go_wp2_with fail
    refine (b10Long_any _ A bs.length cp).mono ?_
    rintro e w' ⟨rfl, rfl⟩
    go_wp2
    go_ret
    exact ⟨rfl, Below.refl _ _⟩
  · have e0 : decide (1048576 < (bs.length : Int)) = false := decide_eq_false (by omega)
    have HB := Lib.hid (show Byts w A cp bs from ⟨hl, hrd⟩)
    clear hrd
    go_enter Try.func10, Try.ntmps10
    go_wp2_with fail
    refine (b10Long_any _ A bs.length cp).mono ?_
    rintro e w' ⟨rfl, rfl⟩
    go_wp2_with fail
    refine (drawRow_any _ A cp bs (HB.out.up (by repeat (first | exact Chg.refl _ _ | apply Chg.drew | apply Chg.drewN | refine Chg.alloc ?_ _)))).mono ?_
    rintro e w1 ⟨v, r, rfl, k1, g1⟩
    obtain ⟨ts, hts⟩ : ∃ ts, ts = trOut r := ⟨_, rfl⟩
    have HK1 := Lib.hid k1
    obtain ⟨Ar, cr, rfl, hi1, hlr, hcr⟩ := openRow k1
    have HI1 := Lib.hid hi1
    have HG1 := Lib.hid g1
    clear k1 hi1 g1
    go_wp2_with fail
    refine (RowTargets_any _ _ _ r (HK1.out.up (by repeat (first | exact Chg.refl _ _ | apply Chg.drew | apply Chg.drewN | refine Chg.alloc ?_ _)))).mono ?_
    rintro e w2 ⟨v1, v2, v3, S1, S2, S3, rfl, i1, i2, i3, -, hnew, g2⟩
    rw [← hts] at i1 i2 i3
    have HTS := Lib.hid hts
    clear hts
    obtain ⟨A1, c1, rfl, hl1, hc1, -⟩ := i1.shape
    obtain ⟨A2, c2, rfl, hl2, hc2, -⟩ := i2.shape
    obtain ⟨A3, c3, rfl, hl3, hc3, -⟩ := i3.shape
    have J1 := Lib.hid i1
    have J2 := Lib.hid i2
    have J3 := Lib.hid i3
    have HK2 := Lib.hid ((HK1.out.up (show Up w1 (w1.alloc (.cells #[.int .i64 r.d, .int .i64 r.c, .slice Ar r.xs.length cr] 87)) from (by repeat (first | exact Chg.refl _ _ | apply Chg.drew | apply Chg.drewN | refine Chg.alloc ?_ _)))).up (Chg.trans (by repeat (first | exact Chg.refl _ _ | apply Chg.drew | apply Chg.drewN | refine Chg.alloc ?_ _)) g2))
    have B0 := Lib.hid (CellF.up (Chg.trans (by repeat (first | exact Chg.refl _ _ | apply Chg.drew | apply Chg.drewN | refine Chg.alloc ?_ _)) g2) (show CellF (w1.alloc (.cells #[.int .i64 r.d, .int .i64 r.c, .slice Ar r.xs.length cr] 87)) ⟨w1.heap.size, 0, none⟩ (.int .i64 r.d) from cellF_at rfl rfl))
    have B1 := Lib.hid (CellF.up (Chg.trans (by repeat (first | exact Chg.refl _ _ | apply Chg.drew | apply Chg.drewN | refine Chg.alloc ?_ _)) g2) (show CellF (w1.alloc (.cells #[.int .i64 r.d, .int .i64 r.c, .slice Ar r.xs.length cr] 87)) ⟨w1.heap.size, 1, none⟩ (.int .i64 r.c) from cellF_at rfl rfl))
    have B2 := Lib.hid (CellF.up (Chg.trans (by repeat (first | exact Chg.refl _ _ | apply Chg.drew | apply Chg.drewN | refine Chg.alloc ?_ _)) g2) (show CellF (w1.alloc (.cells #[.int .i64 r.d, .int .i64 r.c, .slice Ar r.xs.length cr] 87)) ⟨w1.heap.size, 2, none⟩ (.slice Ar r.xs.length cr) from cellF_at rfl rfl))
    have U2 := Lib.hid (show Up w w2 from Chg.trans HG1.out (Chg.trans (show Up w1 (w1.alloc (.cells #[.int .i64 r.d, .int .i64 r.c, .slice Ar r.xs.length cr] 87)) from (by repeat (first | exact Chg.refl _ _ | apply Chg.drew | apply Chg.drewN | refine Chg.alloc ?_ _))) (Chg.trans (by repeat (first | exact Chg.refl _ _ | apply Chg.drew | apply Chg.drewN | refine Chg.alloc ?_ _)) g2)))
    have HI2 := Lib.hid (HI1.out.up (show Up w1 w2 from Chg.trans (show Up w1 (w1.alloc (.cells #[.int .i64 r.d, .int .i64 r.c, .slice Ar r.xs.length cr] 87)) from (by repeat (first | exact Chg.refl _ _ | apply Chg.drew | apply Chg.drewN | refine Chg.alloc ?_ _))) (Chg.trans (by repeat (first | exact Chg.refl _ _ | apply Chg.drew | apply Chg.drewN | refine Chg.alloc ?_ _)) g2)))
    clear i1 i2 i3 hnew g2 HK1 HG1 HI1
    have b0 := B0.out.1
    have b1 := B1.out.1
    have b2 := B2.out.1
    go_wp2_with fail
    refine (RowSources_any _ _ _ r (HK2.out.up (by repeat (first | exact Chg.refl _ _ | apply Chg.drew | apply Chg.drewN | refine Chg.alloc ?_ _)))).mono ?_
    rintro e w3 ⟨v4, rfl, i4, g3⟩
    obtain ⟨A4, c4, rfl, hl4, hc4, -⟩ := i4.shape
    have G3 := Lib.hid (show Up w2 w3 from Chg.trans (by repeat (first | exact Chg.refl _ _ | apply Chg.drew | apply Chg.drewN | refine Chg.alloc ?_ _)) g3)
    clear i4 g3 b0 b1 b2
    have b0 := (CellF.up G3.out B0.out).1
    have b1 := (CellF.up G3.out B1.out).1
    have b2 := (CellF.up G3.out B2.out).1
    go_wp2_with fail
    refine (RowResults_any _ _ _ r (HK2.out.up (Chg.trans G3.out (by repeat (first | exact Chg.refl _ _ | apply Chg.drew | apply Chg.drewN | refine Chg.alloc ?_ _))))).mono ?_
    rintro e w4 ⟨v5, rfl, i5, g4⟩
    obtain ⟨A5, c5, rfl, hl5, hc5, -⟩ := i5.shape
    have G4 := Lib.hid (show Up w2 w4 from Chg.trans G3.out (Chg.trans (by repeat (first | exact Chg.refl _ _ | apply Chg.drew | apply Chg.drewN | refine Chg.alloc ?_ _)) g4))
    clear i5 g4 b0 b1 b2 G3
    have b0 := (CellF.up G4.out B0.out).1
    have b1 := (CellF.up G4.out B1.out).1
    have b2 := (CellF.up G4.out B2.out).1
    obtain ⟨z, hz⟩ : ∃ z, z = rowCodeM r.d r.c r.xs := ⟨_, rfl⟩
    rw [← hz]
    have HZ := Lib.hid hz
    have ez : (z != z) = false := by simp
    clear hz
    by_cases h0 : z = 0
    rotate_left
    · have en : (z != 0) = true := by simpa using h0
      go_wp2
      go_ret
      exact ⟨rfl, Up.below (Chg.trans U2.out G4.out)⟩
    · subst h0
      have hla := laid_of HZ.out.symm
      have HLO := Lib.hid (show LayOk r.xs ts from by rw [HTS.out, show trOut r = trL 0 0 r.xs from if_pos HZ.out.symm]; exact layOk_of hla)
      have HNW := Lib.hid (show newOut r = newL 0 r.xs from if_pos HZ.out.symm)
      have HSM9 := Lib.hid (show sumF madeK r.xs = sumF takenK r.xs - (shC ts : Nat) + ((newOut r).length : Int) from by rw [HNW.out, HTS.out, show trOut r = trL 0 0 r.xs from if_pos HZ.out.symm]; exact lay_sum r.xs)
      have hstb : stB r.xs = true := laid_st_sources HZ.out.symm
      have HTK := Lib.hid (show (if stB r.xs then sumF takenK r.xs else -1) = (ts.length : Int) from by rw [hstb, HLO.out.len]; rfl)
      have HMD := Lib.hid (show (if stB r.xs then sumF madeK r.xs else -1) = (ts.length : Int) - (shC ts : Nat) + ((newOut r).length : Int) from by rw [hstb, HLO.out.len]; exact HSM9.out)
      have hx16 : r.xs.length ≤ 16 := hla.len
      have htsl : ts.length ≤ 8 := by rw [HTS.out, show trOut r = trL 0 0 r.xs from if_pos HZ.out.symm]; have := (LaidRow.tr hla).len; omega
      have y1 : (ownsL ts).length = ts.length := by simp [ownsL]
      have y2 : (togL ts).length = ts.length := by simp [togL]
      have y3 : (movL ts).length = ts.length := by simp [movL]
      have y4 : (sourcesOut r).length = r.xs.length := by rw [show sourcesOut r = listsM takenK 0 r.xs from if_pos HZ.out.symm]; exact listsM_length _ _ _
      have y5 : (resultsOut r).length = r.xs.length := by rw [show resultsOut r = listsM madeK 0 r.xs from if_pos HZ.out.symm]; exact listsM_length _ _ _
      clear hla hstb
      have yn : ((ts.length : Int) != (ts.length : Int)) = false := by simp
      have yx : ((r.xs.length : Int) != (r.xs.length : Int)) = false := by simp
      go_wp2_with fail
      refine (sTakenBy_any _ _ _ r.xs (HI2.out.up (Chg.trans G4.out (by repeat (first | exact Chg.refl _ _ | apply Chg.drew | apply Chg.drewN | refine Chg.alloc ?_ _))))).mono ?_
      rintro e w5 ⟨rfl, g5⟩
      rw [HTK.out]
      have G5 := Lib.hid (show Up w2 w5 from Chg.trans G4.out (Chg.trans (by repeat (first | exact Chg.refl _ _ | apply Chg.drew | apply Chg.drewN | refine Chg.alloc ?_ _)) g5))
      clear g5 b0 b1 b2
      have b0 := (CellF.up G5.out B0.out).1
      have b1 := (CellF.up G5.out B1.out).1
      have b2 := (CellF.up G5.out B2.out).1
      go_wp2
      go_loopw [13, 14] (fun sh i wr => ∃ j : Nat, j ≤ ts.length ∧ i = .int .i64 j ∧ sh = .int .i64 ((shC (ts.take j) : Nat) : Int) ∧ Hid (Up w5 wr)) (fun _ i _ => ts.length - (intOf i).toNat)
      case atStart => exact ⟨0, by omega, rfl, rfl, by first | exact Chg.refl _ _ | exact (Chg.refl _ _).drew | exact (Chg.refl _ _).drewN _⟩
      case round =>
        obtain ⟨j, hj, rfl, rfl, hg⟩ := hrel
        by_cases hlt : j < ts.length
        · obtain ⟨n1, o1, rfl, r1⟩ := tr_rd (f := Tr.o) (J1.out.up G5.out) (by omega)
          obtain ⟨n2, o2, rfl, r2⟩ := tr_rd (f := Tr.t) (J2.out.up G5.out) (by omega)
          obtain ⟨n3, o3, rfl, r3⟩ := tr_rd (f := Tr.m) (J3.out.up G5.out) (by omega)
          clear b0 b1 b2
          cases j with
          | zero =>
            obtain ⟨oj, hoj⟩ : ∃ x, x = ts[0].o := ⟨_, rfl⟩
            obtain ⟨tj, htj⟩ : ∃ x, x = ts[0].t := ⟨_, rfl⟩
            obtain ⟨mj, hmj⟩ : ∃ x, x = ts[0].m := ⟨_, rfl⟩
            have f1 := Chg.cell hg.out (r1 0 hlt) id
            have f2 := Chg.cell hg.out (r2 0 hlt) id
            have f3 := Chg.cell hg.out (r3 0 hlt) id
            rw [Nat.add_zero] at f1 f2 f3
            have hbd := HLO.out.bd 0 hlt
            have hodd := HLO.out.odd 0 hlt
            have hown := HLO.out.own 0 hlt
            have HSH := Lib.hid (shC_take ts hlt)
            rw [← hoj] at f1 hbd hown
            rw [← htj] at f2 hbd
            rw [← hmj] at f3 hbd hodd
            have hoI : I64 oj := by unfold I64; omega
            have hmI : I64 mj := by unfold I64; omega
            have hoJ : oj = 2 * 0 + 1 := by rw [hown]; simp
            have hcol : colOf oj = 0 := by unfold colOf; rw [if_pos (by omega)]; omega
            have hok : colOk oj = true := by unfold colOk; exact decide_eq_true (by omega)
            have hok3 : colOk mj = true := by unfold colOk; exact decide_eq_true (by omega)
            have hat : fnExactNeedleOfColumn.at' 0 = oj := by unfold fnExactNeedleOfColumn.at'; rw [if_pos (by omega)]; omega
            have hok2 : fnExactNeedleOfColumn.okOf 0 = true := by unfold fnExactNeedleOfColumn.okOf; exact decide_eq_true (by omega)
            have hOI := Lib.hid hoI
            have hMI := Lib.hid hmI
            have hne : (oj != oj) = false := by simp
            have hgt : decide (oj < tj) = false := decide_eq_false (by omega)
            obtain ⟨sh, hsh⟩ : ∃ sh, sh = shC (ts.take 0) := ⟨_, rfl⟩
            have hshl := shC_le (ts.take 0)
            rw [List.length_take, Nat.min_eq_left (by omega)] at hshl
            rw [← hsh] at hshl HSH ⊢
            have hjt : decide (0 < (ts.length : Int)) = true := decide_eq_true (by omega)
            clear hown hodd hoI hmI hsh hoj htj hmj
            have HBD := Lib.hid hbd
            clear hbd hoJ
            go_wp2_with (first | (go_at_call 54; refine (fnExactColumnOfNeedle.implColumn _ _ (by first | exact hOI.out | exact hMI.out)).mono ?_; rintro e w' ⟨rfl, rfl⟩) | (go_at_call 55; refine (fnExactNeedleOfColumn.impl_any _ _).mono ?_; rintro e w' ⟨rfl, rfl⟩))
            go_quiet (fail)
            go_wp2
            go_quiet (fail)
            go_wp2
            go_quiet (fail)
            go_wp2
            go_roundw
            case rel => exact ⟨1, by omega, by first | rfl | go_num, by first | (rw [HSH.out]; simp) | (have h9 := HSH.out; simp at h9 ⊢; omega), hg.out.drewN _⟩
            case measure => first | (simp [intOf]; done) | (simp [intOf]; omega)
          | succ q =>
            obtain ⟨oj, hoj⟩ : ∃ x, x = ts[(q + 1)].o := ⟨_, rfl⟩
            obtain ⟨tj, htj⟩ : ∃ x, x = ts[(q + 1)].t := ⟨_, rfl⟩
            obtain ⟨mj, hmj⟩ : ∃ x, x = ts[(q + 1)].m := ⟨_, rfl⟩
            have f1 := Chg.cell hg.out (r1 (q + 1) hlt) id
            have f2 := Chg.cell hg.out (r2 (q + 1) hlt) id
            have f3 := Chg.cell hg.out (r3 (q + 1) hlt) id
            have hbd := HLO.out.bd (q + 1) hlt
            have hodd := HLO.out.odd (q + 1) hlt
            have hown := HLO.out.own (q + 1) hlt
            obtain ⟨tp, htp⟩ : ∃ x, x = ts[q].t := ⟨_, rfl⟩
            obtain ⟨mp, hmp⟩ : ∃ x, x = ts[q].m := ⟨_, rfl⟩
            have f4 := Chg.cell hg.out (r2 q (by omega)) id
            have f5 := Chg.cell hg.out (r3 q (by omega)) id
            have hrise := HLO.out.rise (q + 1) hlt (by omega)
            simp only [Nat.add_sub_cancel] at hrise
            rw [← htp, ← hmp, ← htj, ← hmj] at hrise
            rw [← htp] at f4
            rw [← hmp] at f5
            have HSH := Lib.hid (shC_take ts hlt)
            simp only [Nat.add_sub_cancel] at HSH
            rw [← hmp, ← hmj] at HSH
            rw [← hoj] at f1 hbd hown
            rw [← htj] at f2 hbd
            rw [← hmj] at f3 hbd hodd
            have hoI : I64 oj := by unfold I64; omega
            have hmI : I64 mj := by unfold I64; omega
            have hoJ : oj = 2 * ((q : Int) + 1) + 1 := by rw [hown]; simp
            have hcol : colOf oj = ((q : Int) + 1) := by unfold colOf; rw [if_pos (by omega)]; omega
            have hok : colOk oj = true := by unfold colOk; exact decide_eq_true (by omega)
            have hok3 : colOk mj = true := by unfold colOk; exact decide_eq_true (by omega)
            have hat : fnExactNeedleOfColumn.at' ((q : Int) + 1) = oj := by unfold fnExactNeedleOfColumn.at'; rw [if_pos (by omega)]; omega
            have hok2 : fnExactNeedleOfColumn.okOf ((q : Int) + 1) = true := by unfold fnExactNeedleOfColumn.okOf; exact decide_eq_true (by omega)
            have hOI := Lib.hid hoI
            have hMI := Lib.hid hmI
            have hne : (oj != oj) = false := by simp
            have hgt : decide (oj < tj) = false := decide_eq_false (by omega)
            obtain ⟨sh, hsh⟩ : ∃ sh, sh = shC (ts.take (q + 1)) := ⟨_, rfl⟩
            have hshl := shC_le (ts.take (q + 1))
            rw [List.length_take, Nat.min_eq_left (by omega)] at hshl
            rw [← hsh] at hshl HSH ⊢
            have hjt : decide (((q : Int) + 1) < (ts.length : Int)) = true := decide_eq_true (by omega)
            have hjj : (((q : Int) + 1) != ((q : Int) + 1)) = false := by simp
            have hpos : decide ((0 : Int) < (q : Int) + 1) = true := decide_eq_true (by omega)
            have hm1 : decide (mj < mp) = false := decide_eq_false (by omega)
            have ht1 : decide (tj < tp) = false := decide_eq_false (by omega)
            clear hown hodd hoI hmI hsh hoj htj hmj htp hmp
            have HBD := Lib.hid hbd
            have HRI := Lib.hid hrise
            clear hbd hoJ hrise
            by_cases hsm : mj = mp
            · have hst : tj = tp := by have := HRI.out.2.2; omega
              have q1 : (mj == mp) = true := by simpa using hsm
              have q2 : (tj == tp) = true := by simpa using hst
              have HSM := Lib.hid hsm
              clear hst hsm
              go_wp2_with (first | (go_at_call 54; refine (fnExactColumnOfNeedle.implColumn _ _ (by first | exact hOI.out | exact hMI.out)).mono ?_; rintro e w' ⟨rfl, rfl⟩) | (go_at_call 55; refine (fnExactNeedleOfColumn.impl_any _ _).mono ?_; rintro e w' ⟨rfl, rfl⟩))
              go_quiet (fail)
              go_wp2
              go_quiet (fail)
              go_wp2
              go_quiet (fail)
              go_wp2
              go_roundw
              case rel => exact ⟨q + 1 + 1, by omega, by first | rfl | go_num, by have h9 := HSH.out; have h8 := HSM.out; rw [h9]; simp [h8], hg.out.drewN _⟩
              case measure => first | (simp [intOf]; done) | (simp [intOf]; omega)
            · have hst : tj ≠ tp := by have := HRI.out.2.2; omega
              have q1 : (mj == mp) = false := by simpa using hsm
              have q2 : (tj == tp) = false := by simpa using hst
              have HSM := Lib.hid hsm
              clear hst hsm
              go_wp2_with (first | (go_at_call 54; refine (fnExactColumnOfNeedle.implColumn _ _ (by first | exact hOI.out | exact hMI.out)).mono ?_; rintro e w' ⟨rfl, rfl⟩) | (go_at_call 55; refine (fnExactNeedleOfColumn.impl_any _ _).mono ?_; rintro e w' ⟨rfl, rfl⟩))
              go_quiet (fail)
              go_wp2
              go_quiet (fail)
              go_wp2
              go_quiet (fail)
              go_wp2
              go_roundw
              case rel => exact ⟨q + 1 + 1, by omega, by first | rfl | go_num, by have h9 := HSH.out; have h8 := HSM.out; rw [h9]; simp [h8], hg.out.drewN _⟩
              case measure => first | (simp [intOf]; done) | (simp [intOf]; omega)
        · obtain rfl : j = ts.length := by omega
          rw [List.take_length]
          have hjt : decide ((ts.length : Int) < (ts.length : Int)) = false := decide_eq_false (by omega)
          have G6 := Lib.hid (show Up w2 wr from Chg.trans G5.out hg.out)
          clear b0 b1 b2
          have b0 := (CellF.up G6.out B0.out).1
          have b1 := (CellF.up G6.out B1.out).1
          have b2 := (CellF.up G6.out B2.out).1
          have hshl := shC_le ts
          obtain ⟨sh, hsh⟩ : ∃ sh, sh = shC ts := ⟨_, rfl⟩
          have hnl4 : (newOut r).length ≤ 64 := by rw [HNW.out]; have := newL_len r.xs 0; omega
          obtain ⟨nl, hnl⟩ : ∃ n, n = (newOut r).length := ⟨_, rfl⟩
          have hmd := HMD.out
          rw [← hsh, ← hnl] at hmd
          have HMD2 := Lib.hid hmd
          rw [← hsh] at hshl ⊢
          rw [← hnl] at hnl4
          have HNL := Lib.hid hnl
          clear hsh hmd hnl
          have hbe : ((ts.length : Int) - (sh : Int) + (nl : Int) == (ts.length : Int) - (sh : Int) + (nl : Int)) = true := by simp
          go_wp2_with fail
          refine (NewColumns_any _ _ _ r (HK2.out.up (Chg.trans G6.out (by repeat (first | exact Chg.refl _ _ | apply Chg.drew | apply Chg.drewN | refine Chg.alloc ?_ _))))).mono ?_
          rintro e w7 ⟨v6, rfl, i6, g7⟩
          obtain ⟨A6, c6, rfl, hl6, hc6, -⟩ := i6.shape
          rw [← HZ.out, ← HNL.out]
          have G7 := Lib.hid (show Up w2 w7 from Chg.trans G6.out (Chg.trans (by repeat (first | exact Chg.refl _ _ | apply Chg.drew | apply Chg.drewN | refine Chg.alloc ?_ _)) g7))
          clear i6 g7 b0 b1 b2
          have b0 := (CellF.up G7.out B0.out).1
          have b1 := (CellF.up G7.out B1.out).1
          have b2 := (CellF.up G7.out B2.out).1
          go_wp2_with (first | (go_at_call 57; refine (sMadeBy_any _ _ _ r.xs (HI2.out.up (Chg.trans G7.out (by repeat (first | exact Chg.refl _ _ | apply Chg.drew | apply Chg.drewN | refine Chg.alloc ?_ _))))).mono ?_; rintro e w8 ⟨rfl, g8⟩; rw [HMD2.out]; have G8 := Lib.hid (show Up w2 w8 from Chg.trans G7.out (Chg.trans (by repeat (first | exact Chg.refl _ _ | apply Chg.drew | apply Chg.drewN | refine Chg.alloc ?_ _)) g8)); clear g8))
          go_ret
          exact ⟨rfl, Up.below (Chg.trans U2.out G8.out)⟩
end fnLayout
end Go.Proofs.Ytnjfhpgmogopnaa
