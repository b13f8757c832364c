/- Machines: the program's tests on loops. No condition. -/
import Derived.Test.YtchfjglofmphfaaRB7
import Derived.Test.YtchfjglofmphfaaRB9
set_option linter.unusedSimpArgs false
set_option linter.unusedVariables false
set_option maxRecDepth 100000
set_option maxHeartbeats 4000000
namespace Go.Proofs.Ytchfjglofmphfaa
open Go.ChangeShapes Go.WideShapes Go.ChangeAt Go.RowKit
theorem isInfo_0 (w : World) (M H L : Nat → Prop) (bm : Nat) (wd : Int) (hwd : 1 ≤ wd ∧ wd ≤ 24) (q : w.cell? ⟨bm, 0, none⟩ = some (.int .i64 wd)) (i : Nat) (hi : i ≤ 300) (kd car bed at_ dir : Int) (ps : List Int) (A : Option Addr) (c : Nat) (hlc : ps.length ≤ c) (hcm : c ≤ 9223372036854775807) (h : Ints w L (.slice A ps.length c) ps) (hk : kdB kd = false) :
    Calls Try.prog 114 #[.pointer (some ⟨bm, 0, none⟩), .int .i64 i, .agg #[.int .i64 kd, .int .i64 car, .int .i64 bed, .int .i64 at_, .int .i64 dir, .slice A ps.length c]] w fun e w' => e = .returned (.bool (infoB ⟨kd, car, bed, at_, dir, ps⟩ wd i)) ∧ Up w w' := by
  have UB := Lib.hid ((Chg.refl Nowhere w).alloc (.cells #[.int .i64 kd, .int .i64 car, .int .i64 bed, .int .i64 at_, .int .i64 dir, .slice A ps.length c] 164))
  have HI := Lib.hid (h.up UB.out)
  clear h
  have f0 := (show (w.alloc (.cells #[.int .i64 kd, .int .i64 car, .int .i64 bed, .int .i64 at_, .int .i64 dir, .slice A ps.length c] 164)).cell? ⟨w.heap.size, 0, none⟩ = some (.int .i64 kd) from cell_new _ _ _ _)
  have f1 := (show (w.alloc (.cells #[.int .i64 kd, .int .i64 car, .int .i64 bed, .int .i64 at_, .int .i64 dir, .slice A ps.length c] 164)).cell? ⟨w.heap.size, 1, none⟩ = some (.int .i64 car) from cell_new _ _ _ _)
  have f2 := (show (w.alloc (.cells #[.int .i64 kd, .int .i64 car, .int .i64 bed, .int .i64 at_, .int .i64 dir, .slice A ps.length c] 164)).cell? ⟨w.heap.size, 2, none⟩ = some (.int .i64 bed) from cell_new _ _ _ _)
  have f3 := (show (w.alloc (.cells #[.int .i64 kd, .int .i64 car, .int .i64 bed, .int .i64 at_, .int .i64 dir, .slice A ps.length c] 164)).cell? ⟨w.heap.size, 3, none⟩ = some (.int .i64 at_) from cell_new _ _ _ _)
  have f4 := (show (w.alloc (.cells #[.int .i64 kd, .int .i64 car, .int .i64 bed, .int .i64 at_, .int .i64 dir, .slice A ps.length c] 164)).cell? ⟨w.heap.size, 4, none⟩ = some (.int .i64 dir) from cell_new _ _ _ _)
  have f5 := (show (w.alloc (.cells #[.int .i64 kd, .int .i64 car, .int .i64 bed, .int .i64 at_, .int .i64 dir, .slice A ps.length c] 164)).cell? ⟨w.heap.size, 5, none⟩ = some (.slice A ps.length c) from cell_new _ _ _ _)
  have q0 := Chg.cell UB.out q id
  clear q
  have hk' := of_decide_eq_false hk
  have HB := Lib.hid (infoB_kd (x := ⟨kd, car, bed, at_, dir, ps⟩) (wd := wd) (i := i) hk)
  have e1 : (kd != 1) = true := by simpa using fun e => hk' (.inl e)
  have e2 : (kd != 2) = true := by simpa using fun e => hk' (.inr (.inl e))
  have e5 : (kd != 5) = true := by simpa using fun e => hk' (.inr (.inr e))
  clear hk hk'
  go_enter Try.func114, Try.ntmps114
  go_wp2
  go_ret
  exact ⟨ret_bool HB.out.symm, Chg.trans UB.out (by repeat (first | exact Chg.refl _ _ | apply Chg.drew | apply Chg.drewN | refine Chg.alloc ?_ _))⟩
theorem isInfo_1 (w : World) (M H L : Nat → Prop) (bm : Nat) (wd : Int) (hwd : 1 ≤ wd ∧ wd ≤ 24) (q : w.cell? ⟨bm, 0, none⟩ = some (.int .i64 wd)) (i : Nat) (hi : i ≤ 300) (car bed at_ dir : Int) (ps : List Int) (A : Option Addr) (c : Nat) (hlc : ps.length ≤ c) (hcm : c ≤ 9223372036854775807) (h : Ints w L (.slice A ps.length c) ps) :
    Calls Try.prog 114 #[.pointer (some ⟨bm, 0, none⟩), .int .i64 i, .agg #[.int .i64 1, .int .i64 car, .int .i64 bed, .int .i64 at_, .int .i64 dir, .slice A ps.length c]] w fun e w' => e = .returned (.bool (infoB ⟨1, car, bed, at_, dir, ps⟩ wd i)) ∧ Up w w' := by
  have UB := Lib.hid ((Chg.refl Nowhere w).alloc (.cells #[.int .i64 1, .int .i64 car, .int .i64 bed, .int .i64 at_, .int .i64 dir, .slice A ps.length c] 164))
  have HI := Lib.hid (h.up UB.out)
  clear h
  have f0 := (show (w.alloc (.cells #[.int .i64 1, .int .i64 car, .int .i64 bed, .int .i64 at_, .int .i64 dir, .slice A ps.length c] 164)).cell? ⟨w.heap.size, 0, none⟩ = some (.int .i64 1) from cell_new _ _ _ _)
  have f1 := (show (w.alloc (.cells #[.int .i64 1, .int .i64 car, .int .i64 bed, .int .i64 at_, .int .i64 dir, .slice A ps.length c] 164)).cell? ⟨w.heap.size, 1, none⟩ = some (.int .i64 car) from cell_new _ _ _ _)
  have f2 := (show (w.alloc (.cells #[.int .i64 1, .int .i64 car, .int .i64 bed, .int .i64 at_, .int .i64 dir, .slice A ps.length c] 164)).cell? ⟨w.heap.size, 2, none⟩ = some (.int .i64 bed) from cell_new _ _ _ _)
  have f3 := (show (w.alloc (.cells #[.int .i64 1, .int .i64 car, .int .i64 bed, .int .i64 at_, .int .i64 dir, .slice A ps.length c] 164)).cell? ⟨w.heap.size, 3, none⟩ = some (.int .i64 at_) from cell_new _ _ _ _)
  have f4 := (show (w.alloc (.cells #[.int .i64 1, .int .i64 car, .int .i64 bed, .int .i64 at_, .int .i64 dir, .slice A ps.length c] 164)).cell? ⟨w.heap.size, 4, none⟩ = some (.int .i64 dir) from cell_new _ _ _ _)
  have f5 := (show (w.alloc (.cells #[.int .i64 1, .int .i64 car, .int .i64 bed, .int .i64 at_, .int .i64 dir, .slice A ps.length c] 164)).cell? ⟨w.heap.size, 5, none⟩ = some (.slice A ps.length c) from cell_new _ _ _ _)
  have q0 := Chg.cell UB.out q id
  clear q
  have H0 := Lib.hid f0
  have H1 := Lib.hid f1
  have H2 := Lib.hid f2
  have H3 := Lib.hid f3
  have H4 := Lib.hid f4
  have H5 := Lib.hid f5
  have HQ := Lib.hid q0
  clear f0 f1 f2 f3 f4 f5 q0
  cases h0 : carB car with
  | false =>
    have HB := Lib.hid (infoB_car (x := ⟨1, car, bed, at_, dir, ps⟩) (wd := wd) (i := i) h0)
    have HC0 := Lib.hid h0
    clear h0
    have f0 := H0.out
    have f1 := H1.out
    have f2 := H2.out
    have f3 := H3.out
    have f4 := H4.out
    have f5 := H5.out
    have q0 := HQ.out
    go_enter Try.func114, Try.ntmps114
    go_wp2
    have g0 := up_cell f0
    have g1 := up_cell f1
    have g2 := up_cell f2
    have g3 := up_cell f3
    have g4 := up_cell f4
    have g5 := up_cell f5
    have r0 := up_cell q0
    clear f0 f1 f2 f3 f4 f5 q0
    refine wp_region_up (by kernel_rfl) (by kernel_rfl) ?_
    repeat (go_big_quiet_step ((first | (go_at_call 80; exact calls_up_same (callS (isCarrier_any _ _) HC0.out)) | (go_at_call 164; exact calls_up_same (callS (isBed_any _ _) HC1.out)) | (go_at_call 165; exact calls_up_same (callS (isDirection_any _ _) HC3.out)) | (go_at_call 69; exact calls_up_same (callS (within_any _ _ _ _) HC2.out)))))
    refine wpQuiet_nil ?_
    rintro _ ⟨u, rfl⟩
    go_wp2
    go_ret
    exact ⟨ret_bool HB.out.symm, Chg.trans UB.out (Chg.trans u.up (by repeat (first | exact Chg.refl _ _ | apply Chg.drew | apply Chg.drewN | refine Chg.alloc ?_ _)))⟩
  | true =>
  have HC0 := Lib.hid h0
  clear h0
  cases h1 : bedB bed with
  | false =>
    have HB := Lib.hid (infoB_bed (x := ⟨1, car, bed, at_, dir, ps⟩) (wd := wd) (i := i) h1)
    have HC1 := Lib.hid h1
    clear h1
    have f0 := H0.out
    have f1 := H1.out
    have f2 := H2.out
    have f3 := H3.out
    have f4 := H4.out
    have f5 := H5.out
    have q0 := HQ.out
    go_enter Try.func114, Try.ntmps114
    go_wp2
    have g0 := up_cell f0
    have g1 := up_cell f1
    have g2 := up_cell f2
    have g3 := up_cell f3
    have g4 := up_cell f4
    have g5 := up_cell f5
    have r0 := up_cell q0
    clear f0 f1 f2 f3 f4 f5 q0
    refine wp_region_up (by kernel_rfl) (by kernel_rfl) ?_
    repeat (go_big_quiet_step ((first | (go_at_call 80; exact calls_up_same (callS (isCarrier_any _ _) HC0.out)) | (go_at_call 164; exact calls_up_same (callS (isBed_any _ _) HC1.out)) | (go_at_call 165; exact calls_up_same (callS (isDirection_any _ _) HC3.out)) | (go_at_call 69; exact calls_up_same (callS (within_any _ _ _ _) HC2.out)))))
    refine wpQuiet_nil ?_
    rintro _ ⟨u, rfl⟩
    go_wp2
    go_ret
    exact ⟨ret_bool HB.out.symm, Chg.trans UB.out (Chg.trans u.up (by repeat (first | exact Chg.refl _ _ | apply Chg.drew | apply Chg.drewN | refine Chg.alloc ?_ _)))⟩
  | true =>
  have HC1 := Lib.hid h1
  clear h1
  cases h2 : inB at_ 0 (wd - 1) with
  | false =>
    have HB := Lib.hid (infoB_at (x := ⟨1, car, bed, at_, dir, ps⟩) (wd := wd) (i := i) h2)
    have HC2 := Lib.hid h2
    clear h2
    have f0 := H0.out
    have f1 := H1.out
    have f2 := H2.out
    have f3 := H3.out
    have f4 := H4.out
    have f5 := H5.out
    have q0 := HQ.out
    go_enter Try.func114, Try.ntmps114
    go_wp2
    have g0 := up_cell f0
    have g1 := up_cell f1
    have g2 := up_cell f2
    have g3 := up_cell f3
    have g4 := up_cell f4
    have g5 := up_cell f5
    have r0 := up_cell q0
    clear f0 f1 f2 f3 f4 f5 q0
    refine wp_region_up (by kernel_rfl) (by kernel_rfl) ?_
    repeat (go_big_quiet_step ((first | (go_at_call 80; exact calls_up_same (callS (isCarrier_any _ _) HC0.out)) | (go_at_call 164; exact calls_up_same (callS (isBed_any _ _) HC1.out)) | (go_at_call 165; exact calls_up_same (callS (isDirection_any _ _) HC3.out)) | (go_at_call 69; exact calls_up_same (callS (within_any _ _ _ _) HC2.out)))))
    refine wpQuiet_nil ?_
    rintro _ ⟨u, rfl⟩
    go_wp2
    go_ret
    exact ⟨ret_bool HB.out.symm, Chg.trans UB.out (Chg.trans u.up (by repeat (first | exact Chg.refl _ _ | apply Chg.drew | apply Chg.drewN | refine Chg.alloc ?_ _)))⟩
  | true =>
  have HC2 := Lib.hid h2
  clear h2
  cases h3 : dirB dir with
  | false =>
    have HB := Lib.hid (infoB_dir (x := ⟨1, car, bed, at_, dir, ps⟩) (wd := wd) (i := i) h3)
    have HC3 := Lib.hid h3
    clear h3
    have f0 := H0.out
    have f1 := H1.out
    have f2 := H2.out
    have f3 := H3.out
    have f4 := H4.out
    have f5 := H5.out
    have q0 := HQ.out
    go_enter Try.func114, Try.ntmps114
    go_wp2
    have g0 := up_cell f0
    have g1 := up_cell f1
    have g2 := up_cell f2
    have g3 := up_cell f3
    have g4 := up_cell f4
    have g5 := up_cell f5
    have r0 := up_cell q0
    clear f0 f1 f2 f3 f4 f5 q0
    refine wp_region_up (by kernel_rfl) (by kernel_rfl) ?_
    repeat (go_big_quiet_step ((first | (go_at_call 80; exact calls_up_same (callS (isCarrier_any _ _) HC0.out)) | (go_at_call 164; exact calls_up_same (callS (isBed_any _ _) HC1.out)) | (go_at_call 165; exact calls_up_same (callS (isDirection_any _ _) HC3.out)) | (go_at_call 69; exact calls_up_same (callS (within_any _ _ _ _) HC2.out)))))
    refine wpQuiet_nil ?_
    rintro _ ⟨u, rfl⟩
    go_wp2
    go_ret
    exact ⟨ret_bool HB.out.symm, Chg.trans UB.out (Chg.trans u.up (by repeat (first | exact Chg.refl _ _ | apply Chg.drew | apply Chg.drewN | refine Chg.alloc ?_ _)))⟩
  | true =>
  have HC3 := Lib.hid h3
  clear h3
  by_cases hlen : ps.length ≤ 4
  rotate_left
  · have HB := Lib.hid (infoB_len (x := ⟨1, car, bed, at_, dir, ps⟩) (wd := wd) (i := i) hlen)
    have hd : decide ((ps.length : Int) > 4) = true := decide_eq_true (by omega)
    clear hlen
    have f0 := H0.out
    have f1 := H1.out
    have f2 := H2.out
    have f3 := H3.out
    have f4 := H4.out
    have f5 := H5.out
    have q0 := HQ.out
    go_enter Try.func114, Try.ntmps114
    go_wp2
    have g0 := up_cell f0
    have g1 := up_cell f1
    have g2 := up_cell f2
    have g3 := up_cell f3
    have g4 := up_cell f4
    have g5 := up_cell f5
    have r0 := up_cell q0
    clear f0 f1 f2 f3 f4 f5 q0
    refine wp_region_up (by kernel_rfl) (by kernel_rfl) ?_
    repeat (go_big_quiet_step ((first | (go_at_call 80; exact calls_up_same (callS (isCarrier_any _ _) HC0.out)) | (go_at_call 164; exact calls_up_same (callS (isBed_any _ _) HC1.out)) | (go_at_call 165; exact calls_up_same (callS (isDirection_any _ _) HC3.out)) | (go_at_call 69; exact calls_up_same (callS (within_any _ _ _ _) HC2.out)))))
    refine wpQuiet_nil ?_
    rintro _ ⟨u, rfl⟩
    go_wp2
    go_ret
    exact ⟨ret_bool HB.out.symm, Chg.trans UB.out (Chg.trans u.up (by repeat (first | exact Chg.refl _ _ | apply Chg.drew | apply Chg.drewN | refine Chg.alloc ?_ _)))⟩
  have hd : decide ((ps.length : Int) > 4) = false := decide_eq_false (by omega)
  have HLEN := Lib.hid hlen
  clear hlen
  have f0 := H0.out
  have f1 := H1.out
  have f2 := H2.out
  have f3 := H3.out
  have f4 := H4.out
  have f5 := H5.out
  have q0 := HQ.out
  go_enter Try.func114, Try.ntmps114
  go_wp2
  have g0 := up_cell f0
  have g1 := up_cell f1
  have g2 := up_cell f2
  have g3 := up_cell f3
  have g4 := up_cell f4
  have g5 := up_cell f5
  have r0 := up_cell q0
  clear f0 f1 f2 f3 f4 f5 q0
  refine wp_region_up (by kernel_rfl) (by kernel_rfl) ?_
  repeat (go_big_quiet_step ((first | (go_at_call 80; exact calls_up_same (callS (isCarrier_any _ _) HC0.out)) | (go_at_call 164; exact calls_up_same (callS (isBed_any _ _) HC1.out)) | (go_at_call 165; exact calls_up_same (callS (isDirection_any _ _) HC3.out)) | (go_at_call 69; exact calls_up_same (callS (within_any _ _ _ _) HC2.out)))))
  refine wpQuiet_nil ?_
  rintro w1 ⟨u0, hu⟩
  have gu := hu ▸ u0.up
  clear hu u0 g0 g1 g2 g3 g4 g5 r0
  have G1 := Lib.hid (show Up (w.alloc (.cells #[.int .i64 1, .int .i64 car, .int .i64 bed, .int .i64 at_, .int .i64 dir, .slice A ps.length c] 164)) w1 from Chg.trans (by repeat (first | exact Chg.refl _ _ | apply Chg.drew | apply Chg.drewN | refine Chg.alloc ?_ _)) gu)
  clear gu
  have f0 := Chg.cell G1.out H0.out id
  have f5 := Chg.cell G1.out H5.out id
  go_wp2
  clear f0 f5
  go_loopw [7, 8, 58] (fun _ _ n wr => ∃ j : Nat, j ≤ ps.length ∧ n = .int .i64 j ∧ Hid (apartB (ps.take j) i = true) ∧ Hid (Up w1 wr)) (fun _ _ n _ => ps.length - (intOf n).toNat)
  case atStart => exact ⟨0, by omega, rfl, apart_start _ _, Chg.refl _ _⟩
  case round =>
    obtain ⟨j, hj, rfl, ha, hu⟩ := hrel
    have UT := Lib.hid (Chg.trans G1.out hu.out)
    have f0 := Chg.cell UT.out H0.out id
    have f5 := Chg.cell UT.out H5.out id
    by_cases hlt : j < ps.length
    · obtain ⟨b1, o1, rfl, -, hc⟩ := (HI.out.up UT.out).ix hlt
      have f1 := hc j hlt
      rw [ix_eq hlt] at f1
      clear hc
      by_cases hr : 0 ≤ ps[j] ∧ ps[j] < i
      rotate_left
      · have HR := Lib.hid (inB_no (n := ps[j]) (lo := 0) (hi := (i : Int) - 1) (by omega))
        have HB := Lib.hid (infoB_ap (x := ⟨1, car, bed, at_, dir, ps⟩) (wd := wd) (i := i) (apart_rng_at hlt hr))
        clear hr
        go_wp2_with fail
        refine (callS (within_any _ _ _ _) HR.out).mono ?_
        rintro e w' ⟨rfl, rfl⟩
        go_wp2
        go_ret
        exact ⟨ret_bool HB.out.symm, Chg.trans UB.out UT.out⟩
      have HR := Lib.hid (inB_yes (n := ps[j]) (lo := 0) (hi := (i : Int) - 1) (by omega))
      have HR2 := Lib.hid hr
      clear hr
      by_cases hm : ps[j] ∈ ps.take j
      · have HM := Lib.hid (decide_eq_true hm)
        have HB := Lib.hid (infoB_ap (x := ⟨1, car, bed, at_, dir, ps⟩) (wd := wd) (i := i) (apart_mem_at hlt hm))
        clear hm
        go_wp2_with fail
        refine (callS (within_any _ _ _ _) HR.out).mono ?_
        rintro e w' ⟨rfl, rfl⟩
        go_wp2_with fail
        refine (callS (contains_p _ L _ (ps.take j) _ ((HI.out.up UT.out).took (by omega) rfl)) HM.out).mono ?_
        rintro e w' ⟨rfl, rfl⟩
        go_wp2
        go_ret
        exact ⟨ret_bool HB.out.symm, Chg.trans UB.out UT.out⟩
      · have HM := Lib.hid (decide_eq_false hm)
        have HN := Lib.hid (apart_next hlt ha.out HR2.out hm)
        clear hm
        go_wp2_with fail
        refine (callS (within_any _ _ _ _) HR.out).mono ?_
        rintro e w' ⟨rfl, rfl⟩
        go_wp2_with fail
        refine (callS (contains_p _ L _ (ps.take j) _ ((HI.out.up UT.out).took (by omega) rfl)) HM.out).mono ?_
        rintro e w' ⟨rfl, rfl⟩
        go_wp2
        go_roundw
        case rel => exact ⟨j + 1, by omega, by go_num, HN.out, hu.out⟩
        case measure => first | (simp [intOf]; done) | (simp [intOf]; omega)
    · obtain rfl : j = ps.length := by omega
      have HA := Lib.hid (apart_all ha.out)
      clear hlt
      have HB := Lib.hid (infoB_yes (x := ⟨1, car, bed, at_, dir, ps⟩) (wd := wd) (i := i) rfl HC0.out HC1.out HC2.out HC3.out HLEN.out HA.out (.inr (by simp)) (.inr (by simp)))
      go_wp2
      go_ret
      exact ⟨ret_bool HB.out.symm, Chg.trans UB.out UT.out⟩
theorem isInfo_2 (w : World) (M H L : Nat → Prop) (bm : Nat) (wd : Int) (hwd : 1 ≤ wd ∧ wd ≤ 24) (q : w.cell? ⟨bm, 0, none⟩ = some (.int .i64 wd)) (i : Nat) (hi : i ≤ 300) (car bed at_ dir : Int) (ps : List Int) (A : Option Addr) (c : Nat) (hlc : ps.length ≤ c) (hcm : c ≤ 9223372036854775807) (h : Ints w L (.slice A ps.length c) ps) :
    Calls Try.prog 114 #[.pointer (some ⟨bm, 0, none⟩), .int .i64 i, .agg #[.int .i64 2, .int .i64 car, .int .i64 bed, .int .i64 at_, .int .i64 dir, .slice A ps.length c]] w fun e w' => e = .returned (.bool (infoB ⟨2, car, bed, at_, dir, ps⟩ wd i)) ∧ Up w w' := by
  have UB := Lib.hid ((Chg.refl Nowhere w).alloc (.cells #[.int .i64 2, .int .i64 car, .int .i64 bed, .int .i64 at_, .int .i64 dir, .slice A ps.length c] 164))
  have HI := Lib.hid (h.up UB.out)
  clear h
  have f0 := (show (w.alloc (.cells #[.int .i64 2, .int .i64 car, .int .i64 bed, .int .i64 at_, .int .i64 dir, .slice A ps.length c] 164)).cell? ⟨w.heap.size, 0, none⟩ = some (.int .i64 2) from cell_new _ _ _ _)
  have f1 := (show (w.alloc (.cells #[.int .i64 2, .int .i64 car, .int .i64 bed, .int .i64 at_, .int .i64 dir, .slice A ps.length c] 164)).cell? ⟨w.heap.size, 1, none⟩ = some (.int .i64 car) from cell_new _ _ _ _)
  have f2 := (show (w.alloc (.cells #[.int .i64 2, .int .i64 car, .int .i64 bed, .int .i64 at_, .int .i64 dir, .slice A ps.length c] 164)).cell? ⟨w.heap.size, 2, none⟩ = some (.int .i64 bed) from cell_new _ _ _ _)
  have f3 := (show (w.alloc (.cells #[.int .i64 2, .int .i64 car, .int .i64 bed, .int .i64 at_, .int .i64 dir, .slice A ps.length c] 164)).cell? ⟨w.heap.size, 3, none⟩ = some (.int .i64 at_) from cell_new _ _ _ _)
  have f4 := (show (w.alloc (.cells #[.int .i64 2, .int .i64 car, .int .i64 bed, .int .i64 at_, .int .i64 dir, .slice A ps.length c] 164)).cell? ⟨w.heap.size, 4, none⟩ = some (.int .i64 dir) from cell_new _ _ _ _)
  have f5 := (show (w.alloc (.cells #[.int .i64 2, .int .i64 car, .int .i64 bed, .int .i64 at_, .int .i64 dir, .slice A ps.length c] 164)).cell? ⟨w.heap.size, 5, none⟩ = some (.slice A ps.length c) from cell_new _ _ _ _)
  have q0 := Chg.cell UB.out q id
  clear q
  have H0 := Lib.hid f0
  have H1 := Lib.hid f1
  have H2 := Lib.hid f2
  have H3 := Lib.hid f3
  have H4 := Lib.hid f4
  have H5 := Lib.hid f5
  have HQ := Lib.hid q0
  clear f0 f1 f2 f3 f4 f5 q0
  cases h0 : carB car with
  | false =>
    have HB := Lib.hid (infoB_car (x := ⟨2, car, bed, at_, dir, ps⟩) (wd := wd) (i := i) h0)
    have HC0 := Lib.hid h0
    clear h0
    have f0 := H0.out
    have f1 := H1.out
    have f2 := H2.out
    have f3 := H3.out
    have f4 := H4.out
    have f5 := H5.out
    have q0 := HQ.out
    go_enter Try.func114, Try.ntmps114
    go_wp2
    have g0 := up_cell f0
    have g1 := up_cell f1
    have g2 := up_cell f2
    have g3 := up_cell f3
    have g4 := up_cell f4
    have g5 := up_cell f5
    have r0 := up_cell q0
    clear f0 f1 f2 f3 f4 f5 q0
    refine wp_region_up (by kernel_rfl) (by kernel_rfl) ?_
    repeat (go_big_quiet_step ((first | (go_at_call 80; exact calls_up_same (callS (isCarrier_any _ _) HC0.out)) | (go_at_call 164; exact calls_up_same (callS (isBed_any _ _) HC1.out)) | (go_at_call 165; exact calls_up_same (callS (isDirection_any _ _) HC3.out)) | (go_at_call 69; exact calls_up_same (callS (within_any _ _ _ _) HC2.out)))))
    refine wpQuiet_nil ?_
    rintro _ ⟨u, rfl⟩
    go_wp2
    go_ret
    exact ⟨ret_bool HB.out.symm, Chg.trans UB.out (Chg.trans u.up (by repeat (first | exact Chg.refl _ _ | apply Chg.drew | apply Chg.drewN | refine Chg.alloc ?_ _)))⟩
  | true =>
  have HC0 := Lib.hid h0
  clear h0
  cases h1 : bedB bed with
  | false =>
    have HB := Lib.hid (infoB_bed (x := ⟨2, car, bed, at_, dir, ps⟩) (wd := wd) (i := i) h1)
    have HC1 := Lib.hid h1
    clear h1
    have f0 := H0.out
    have f1 := H1.out
    have f2 := H2.out
    have f3 := H3.out
    have f4 := H4.out
    have f5 := H5.out
    have q0 := HQ.out
    go_enter Try.func114, Try.ntmps114
    go_wp2
    have g0 := up_cell f0
    have g1 := up_cell f1
    have g2 := up_cell f2
    have g3 := up_cell f3
    have g4 := up_cell f4
    have g5 := up_cell f5
    have r0 := up_cell q0
    clear f0 f1 f2 f3 f4 f5 q0
    refine wp_region_up (by kernel_rfl) (by kernel_rfl) ?_
    repeat (go_big_quiet_step ((first | (go_at_call 80; exact calls_up_same (callS (isCarrier_any _ _) HC0.out)) | (go_at_call 164; exact calls_up_same (callS (isBed_any _ _) HC1.out)) | (go_at_call 165; exact calls_up_same (callS (isDirection_any _ _) HC3.out)) | (go_at_call 69; exact calls_up_same (callS (within_any _ _ _ _) HC2.out)))))
    refine wpQuiet_nil ?_
    rintro _ ⟨u, rfl⟩
    go_wp2
    go_ret
    exact ⟨ret_bool HB.out.symm, Chg.trans UB.out (Chg.trans u.up (by repeat (first | exact Chg.refl _ _ | apply Chg.drew | apply Chg.drewN | refine Chg.alloc ?_ _)))⟩
  | true =>
  have HC1 := Lib.hid h1
  clear h1
  cases h2 : inB at_ 0 (wd - 1) with
  | false =>
    have HB := Lib.hid (infoB_at (x := ⟨2, car, bed, at_, dir, ps⟩) (wd := wd) (i := i) h2)
    have HC2 := Lib.hid h2
    clear h2
    have f0 := H0.out
    have f1 := H1.out
    have f2 := H2.out
    have f3 := H3.out
    have f4 := H4.out
    have f5 := H5.out
    have q0 := HQ.out
    go_enter Try.func114, Try.ntmps114
    go_wp2
    have g0 := up_cell f0
    have g1 := up_cell f1
    have g2 := up_cell f2
    have g3 := up_cell f3
    have g4 := up_cell f4
    have g5 := up_cell f5
    have r0 := up_cell q0
    clear f0 f1 f2 f3 f4 f5 q0
    refine wp_region_up (by kernel_rfl) (by kernel_rfl) ?_
    repeat (go_big_quiet_step ((first | (go_at_call 80; exact calls_up_same (callS (isCarrier_any _ _) HC0.out)) | (go_at_call 164; exact calls_up_same (callS (isBed_any _ _) HC1.out)) | (go_at_call 165; exact calls_up_same (callS (isDirection_any _ _) HC3.out)) | (go_at_call 69; exact calls_up_same (callS (within_any _ _ _ _) HC2.out)))))
    refine wpQuiet_nil ?_
    rintro _ ⟨u, rfl⟩
    go_wp2
    go_ret
    exact ⟨ret_bool HB.out.symm, Chg.trans UB.out (Chg.trans u.up (by repeat (first | exact Chg.refl _ _ | apply Chg.drew | apply Chg.drewN | refine Chg.alloc ?_ _)))⟩
  | true =>
  have HC2 := Lib.hid h2
  clear h2
  cases h3 : dirB dir with
  | false =>
    have HB := Lib.hid (infoB_dir (x := ⟨2, car, bed, at_, dir, ps⟩) (wd := wd) (i := i) h3)
    have HC3 := Lib.hid h3
    clear h3
    have f0 := H0.out
    have f1 := H1.out
    have f2 := H2.out
    have f3 := H3.out
    have f4 := H4.out
    have f5 := H5.out
    have q0 := HQ.out
    go_enter Try.func114, Try.ntmps114
    go_wp2
    have g0 := up_cell f0
    have g1 := up_cell f1
    have g2 := up_cell f2
    have g3 := up_cell f3
    have g4 := up_cell f4
    have g5 := up_cell f5
    have r0 := up_cell q0
    clear f0 f1 f2 f3 f4 f5 q0
    refine wp_region_up (by kernel_rfl) (by kernel_rfl) ?_
    repeat (go_big_quiet_step ((first | (go_at_call 80; exact calls_up_same (callS (isCarrier_any _ _) HC0.out)) | (go_at_call 164; exact calls_up_same (callS (isBed_any _ _) HC1.out)) | (go_at_call 165; exact calls_up_same (callS (isDirection_any _ _) HC3.out)) | (go_at_call 69; exact calls_up_same (callS (within_any _ _ _ _) HC2.out)))))
    refine wpQuiet_nil ?_
    rintro _ ⟨u, rfl⟩
    go_wp2
    go_ret
    exact ⟨ret_bool HB.out.symm, Chg.trans UB.out (Chg.trans u.up (by repeat (first | exact Chg.refl _ _ | apply Chg.drew | apply Chg.drewN | refine Chg.alloc ?_ _)))⟩
  | true =>
  have HC3 := Lib.hid h3
  clear h3
  by_cases hlen : ps.length ≤ 4
  rotate_left
  · have HB := Lib.hid (infoB_len (x := ⟨2, car, bed, at_, dir, ps⟩) (wd := wd) (i := i) hlen)
    have hd : decide ((ps.length : Int) > 4) = true := decide_eq_true (by omega)
    clear hlen
    have f0 := H0.out
    have f1 := H1.out
    have f2 := H2.out
    have f3 := H3.out
    have f4 := H4.out
    have f5 := H5.out
    have q0 := HQ.out
    go_enter Try.func114, Try.ntmps114
    go_wp2
    have g0 := up_cell f0
    have g1 := up_cell f1
    have g2 := up_cell f2
    have g3 := up_cell f3
    have g4 := up_cell f4
    have g5 := up_cell f5
    have r0 := up_cell q0
    clear f0 f1 f2 f3 f4 f5 q0
    refine wp_region_up (by kernel_rfl) (by kernel_rfl) ?_
    repeat (go_big_quiet_step ((first | (go_at_call 80; exact calls_up_same (callS (isCarrier_any _ _) HC0.out)) | (go_at_call 164; exact calls_up_same (callS (isBed_any _ _) HC1.out)) | (go_at_call 165; exact calls_up_same (callS (isDirection_any _ _) HC3.out)) | (go_at_call 69; exact calls_up_same (callS (within_any _ _ _ _) HC2.out)))))
    refine wpQuiet_nil ?_
    rintro _ ⟨u, rfl⟩
    go_wp2
    go_ret
    exact ⟨ret_bool HB.out.symm, Chg.trans UB.out (Chg.trans u.up (by repeat (first | exact Chg.refl _ _ | apply Chg.drew | apply Chg.drewN | refine Chg.alloc ?_ _)))⟩
  have hd : decide ((ps.length : Int) > 4) = false := decide_eq_false (by omega)
  have HLEN := Lib.hid hlen
  clear hlen
  have f0 := H0.out
  have f1 := H1.out
  have f2 := H2.out
  have f3 := H3.out
  have f4 := H4.out
  have f5 := H5.out
  have q0 := HQ.out
  go_enter Try.func114, Try.ntmps114
  go_wp2
  have g0 := up_cell f0
  have g1 := up_cell f1
  have g2 := up_cell f2
  have g3 := up_cell f3
  have g4 := up_cell f4
  have g5 := up_cell f5
  have r0 := up_cell q0
  clear f0 f1 f2 f3 f4 f5 q0
  refine wp_region_up (by kernel_rfl) (by kernel_rfl) ?_
  repeat (go_big_quiet_step ((first | (go_at_call 80; exact calls_up_same (callS (isCarrier_any _ _) HC0.out)) | (go_at_call 164; exact calls_up_same (callS (isBed_any _ _) HC1.out)) | (go_at_call 165; exact calls_up_same (callS (isDirection_any _ _) HC3.out)) | (go_at_call 69; exact calls_up_same (callS (within_any _ _ _ _) HC2.out)))))
  refine wpQuiet_nil ?_
  rintro w1 ⟨u0, hu⟩
  have gu := hu ▸ u0.up
  clear hu u0 g0 g1 g2 g3 g4 g5 r0
  have G1 := Lib.hid (show Up (w.alloc (.cells #[.int .i64 2, .int .i64 car, .int .i64 bed, .int .i64 at_, .int .i64 dir, .slice A ps.length c] 164)) w1 from Chg.trans (by repeat (first | exact Chg.refl _ _ | apply Chg.drew | apply Chg.drewN | refine Chg.alloc ?_ _)) gu)
  clear gu
  have f0 := Chg.cell G1.out H0.out id
  have f5 := Chg.cell G1.out H5.out id
  go_wp2
  clear f0 f5
  go_loopw [7, 8, 58] (fun _ _ n wr => ∃ j : Nat, j ≤ ps.length ∧ n = .int .i64 j ∧ Hid (apartB (ps.take j) i = true) ∧ Hid (Up w1 wr)) (fun _ _ n _ => ps.length - (intOf n).toNat)
  case atStart => exact ⟨0, by omega, rfl, apart_start _ _, Chg.refl _ _⟩
  case round =>
    obtain ⟨j, hj, rfl, ha, hu⟩ := hrel
    have UT := Lib.hid (Chg.trans G1.out hu.out)
    have f0 := Chg.cell UT.out H0.out id
    have f5 := Chg.cell UT.out H5.out id
    by_cases hlt : j < ps.length
    · obtain ⟨b1, o1, rfl, -, hc⟩ := (HI.out.up UT.out).ix hlt
      have f1 := hc j hlt
      rw [ix_eq hlt] at f1
      clear hc
      by_cases hr : 0 ≤ ps[j] ∧ ps[j] < i
      rotate_left
      · have HR := Lib.hid (inB_no (n := ps[j]) (lo := 0) (hi := (i : Int) - 1) (by omega))
        have HB := Lib.hid (infoB_ap (x := ⟨2, car, bed, at_, dir, ps⟩) (wd := wd) (i := i) (apart_rng_at hlt hr))
        clear hr
        go_wp2_with fail
        refine (callS (within_any _ _ _ _) HR.out).mono ?_
        rintro e w' ⟨rfl, rfl⟩
        go_wp2
        go_ret
        exact ⟨ret_bool HB.out.symm, Chg.trans UB.out UT.out⟩
      have HR := Lib.hid (inB_yes (n := ps[j]) (lo := 0) (hi := (i : Int) - 1) (by omega))
      have HR2 := Lib.hid hr
      clear hr
      by_cases hm : ps[j] ∈ ps.take j
      · have HM := Lib.hid (decide_eq_true hm)
        have HB := Lib.hid (infoB_ap (x := ⟨2, car, bed, at_, dir, ps⟩) (wd := wd) (i := i) (apart_mem_at hlt hm))
        clear hm
        go_wp2_with fail
        refine (callS (within_any _ _ _ _) HR.out).mono ?_
        rintro e w' ⟨rfl, rfl⟩
        go_wp2_with fail
        refine (callS (contains_p _ L _ (ps.take j) _ ((HI.out.up UT.out).took (by omega) rfl)) HM.out).mono ?_
        rintro e w' ⟨rfl, rfl⟩
        go_wp2
        go_ret
        exact ⟨ret_bool HB.out.symm, Chg.trans UB.out UT.out⟩
      · have HM := Lib.hid (decide_eq_false hm)
        have HN := Lib.hid (apart_next hlt ha.out HR2.out hm)
        clear hm
        go_wp2_with fail
        refine (callS (within_any _ _ _ _) HR.out).mono ?_
        rintro e w' ⟨rfl, rfl⟩
        go_wp2_with fail
        refine (callS (contains_p _ L _ (ps.take j) _ ((HI.out.up UT.out).took (by omega) rfl)) HM.out).mono ?_
        rintro e w' ⟨rfl, rfl⟩
        go_wp2
        go_roundw
        case rel => exact ⟨j + 1, by omega, by go_num, HN.out, hu.out⟩
        case measure => first | (simp [intOf]; done) | (simp [intOf]; omega)
    · obtain rfl : j = ps.length := by omega
      have HA := Lib.hid (apart_all ha.out)
      clear hlt
      by_cases h0 : ps.length = 0
      rotate_left
      · have HB := Lib.hid (infoB_tuck (x := ⟨2, car, bed, at_, dir, ps⟩) (wd := wd) (i := i) h0 rfl)
        have e0 : ((ps.length : Int) == 0) = false := by rw [beq_eq_false_iff_ne]; omega
        clear h0
        go_wp2
        go_ret
        exact ⟨ret_bool HB.out.symm, Chg.trans UB.out UT.out⟩
      have e0 : ((ps.length : Int) == 0) = true := by rw [beq_iff_eq]; omega
      have HZ := Lib.hid h0
      clear h0
      have HB := Lib.hid (infoB_yes (x := ⟨2, car, bed, at_, dir, ps⟩) (wd := wd) (i := i) rfl HC0.out HC1.out HC2.out HC3.out HLEN.out HA.out (.inl HZ.out) (.inr (by simp)))
      go_wp2
      go_ret
      exact ⟨ret_bool HB.out.symm, Chg.trans UB.out UT.out⟩
theorem isInfo_5 (w : World) (M H L : Nat → Prop) (bm : Nat) (wd : Int) (hwd : 1 ≤ wd ∧ wd ≤ 24) (q : w.cell? ⟨bm, 0, none⟩ = some (.int .i64 wd)) (i : Nat) (hi : i ≤ 300) (car bed at_ dir : Int) (ps : List Int) (A : Option Addr) (c : Nat) (hlc : ps.length ≤ c) (hcm : c ≤ 9223372036854775807) (h : Ints w L (.slice A ps.length c) ps) :
    Calls Try.prog 114 #[.pointer (some ⟨bm, 0, none⟩), .int .i64 i, .agg #[.int .i64 5, .int .i64 car, .int .i64 bed, .int .i64 at_, .int .i64 dir, .slice A ps.length c]] w fun e w' => e = .returned (.bool (infoB ⟨5, car, bed, at_, dir, ps⟩ wd i)) ∧ Up w w' := by
  have UB := Lib.hid ((Chg.refl Nowhere w).alloc (.cells #[.int .i64 5, .int .i64 car, .int .i64 bed, .int .i64 at_, .int .i64 dir, .slice A ps.length c] 164))
  have HI := Lib.hid (h.up UB.out)
  clear h
  have f0 := (show (w.alloc (.cells #[.int .i64 5, .int .i64 car, .int .i64 bed, .int .i64 at_, .int .i64 dir, .slice A ps.length c] 164)).cell? ⟨w.heap.size, 0, none⟩ = some (.int .i64 5) from cell_new _ _ _ _)
  have f1 := (show (w.alloc (.cells #[.int .i64 5, .int .i64 car, .int .i64 bed, .int .i64 at_, .int .i64 dir, .slice A ps.length c] 164)).cell? ⟨w.heap.size, 1, none⟩ = some (.int .i64 car) from cell_new _ _ _ _)
  have f2 := (show (w.alloc (.cells #[.int .i64 5, .int .i64 car, .int .i64 bed, .int .i64 at_, .int .i64 dir, .slice A ps.length c] 164)).cell? ⟨w.heap.size, 2, none⟩ = some (.int .i64 bed) from cell_new _ _ _ _)
  have f3 := (show (w.alloc (.cells #[.int .i64 5, .int .i64 car, .int .i64 bed, .int .i64 at_, .int .i64 dir, .slice A ps.length c] 164)).cell? ⟨w.heap.size, 3, none⟩ = some (.int .i64 at_) from cell_new _ _ _ _)
  have f4 := (show (w.alloc (.cells #[.int .i64 5, .int .i64 car, .int .i64 bed, .int .i64 at_, .int .i64 dir, .slice A ps.length c] 164)).cell? ⟨w.heap.size, 4, none⟩ = some (.int .i64 dir) from cell_new _ _ _ _)
  have f5 := (show (w.alloc (.cells #[.int .i64 5, .int .i64 car, .int .i64 bed, .int .i64 at_, .int .i64 dir, .slice A ps.length c] 164)).cell? ⟨w.heap.size, 5, none⟩ = some (.slice A ps.length c) from cell_new _ _ _ _)
  have q0 := Chg.cell UB.out q id
  clear q
  have H0 := Lib.hid f0
  have H1 := Lib.hid f1
  have H2 := Lib.hid f2
  have H3 := Lib.hid f3
  have H4 := Lib.hid f4
  have H5 := Lib.hid f5
  have HQ := Lib.hid q0
  clear f0 f1 f2 f3 f4 f5 q0
  cases h0 : carB car with
  | false =>
    have HB := Lib.hid (infoB_car (x := ⟨5, car, bed, at_, dir, ps⟩) (wd := wd) (i := i) h0)
    have HC0 := Lib.hid h0
    clear h0
    have f0 := H0.out
    have f1 := H1.out
    have f2 := H2.out
    have f3 := H3.out
    have f4 := H4.out
    have f5 := H5.out
    have q0 := HQ.out
    go_enter Try.func114, Try.ntmps114
    go_wp2
    have g0 := up_cell f0
    have g1 := up_cell f1
    have g2 := up_cell f2
    have g3 := up_cell f3
    have g4 := up_cell f4
    have g5 := up_cell f5
    have r0 := up_cell q0
    clear f0 f1 f2 f3 f4 f5 q0
    refine wp_region_up (by kernel_rfl) (by kernel_rfl) ?_
    repeat (go_big_quiet_step ((first | (go_at_call 80; exact calls_up_same (callS (isCarrier_any _ _) HC0.out)) | (go_at_call 164; exact calls_up_same (callS (isBed_any _ _) HC1.out)) | (go_at_call 165; exact calls_up_same (callS (isDirection_any _ _) HC3.out)) | (go_at_call 69; exact calls_up_same (callS (within_any _ _ _ _) HC2.out)))))
    refine wpQuiet_nil ?_
    rintro _ ⟨u, rfl⟩
    go_wp2
    go_ret
    exact ⟨ret_bool HB.out.symm, Chg.trans UB.out (Chg.trans u.up (by repeat (first | exact Chg.refl _ _ | apply Chg.drew | apply Chg.drewN | refine Chg.alloc ?_ _)))⟩
  | true =>
  have HC0 := Lib.hid h0
  clear h0
  cases h1 : bedB bed with
  | false =>
    have HB := Lib.hid (infoB_bed (x := ⟨5, car, bed, at_, dir, ps⟩) (wd := wd) (i := i) h1)
    have HC1 := Lib.hid h1
    clear h1
    have f0 := H0.out
    have f1 := H1.out
    have f2 := H2.out
    have f3 := H3.out
    have f4 := H4.out
    have f5 := H5.out
    have q0 := HQ.out
    go_enter Try.func114, Try.ntmps114
    go_wp2
    have g0 := up_cell f0
    have g1 := up_cell f1
    have g2 := up_cell f2
    have g3 := up_cell f3
    have g4 := up_cell f4
    have g5 := up_cell f5
    have r0 := up_cell q0
    clear f0 f1 f2 f3 f4 f5 q0
    refine wp_region_up (by kernel_rfl) (by kernel_rfl) ?_
    repeat (go_big_quiet_step ((first | (go_at_call 80; exact calls_up_same (callS (isCarrier_any _ _) HC0.out)) | (go_at_call 164; exact calls_up_same (callS (isBed_any _ _) HC1.out)) | (go_at_call 165; exact calls_up_same (callS (isDirection_any _ _) HC3.out)) | (go_at_call 69; exact calls_up_same (callS (within_any _ _ _ _) HC2.out)))))
    refine wpQuiet_nil ?_
    rintro _ ⟨u, rfl⟩
    go_wp2
    go_ret
    exact ⟨ret_bool HB.out.symm, Chg.trans UB.out (Chg.trans u.up (by repeat (first | exact Chg.refl _ _ | apply Chg.drew | apply Chg.drewN | refine Chg.alloc ?_ _)))⟩
  | true =>
  have HC1 := Lib.hid h1
  clear h1
  cases h2 : inB at_ 0 (wd - 1) with
  | false =>
    have HB := Lib.hid (infoB_at (x := ⟨5, car, bed, at_, dir, ps⟩) (wd := wd) (i := i) h2)
    have HC2 := Lib.hid h2
    clear h2
    have f0 := H0.out
    have f1 := H1.out
    have f2 := H2.out
    have f3 := H3.out
    have f4 := H4.out
    have f5 := H5.out
    have q0 := HQ.out
    go_enter Try.func114, Try.ntmps114
    go_wp2
    have g0 := up_cell f0
    have g1 := up_cell f1
    have g2 := up_cell f2
    have g3 := up_cell f3
    have g4 := up_cell f4
    have g5 := up_cell f5
    have r0 := up_cell q0
    clear f0 f1 f2 f3 f4 f5 q0
    refine wp_region_up (by kernel_rfl) (by kernel_rfl) ?_
    repeat (go_big_quiet_step ((first | (go_at_call 80; exact calls_up_same (callS (isCarrier_any _ _) HC0.out)) | (go_at_call 164; exact calls_up_same (callS (isBed_any _ _) HC1.out)) | (go_at_call 165; exact calls_up_same (callS (isDirection_any _ _) HC3.out)) | (go_at_call 69; exact calls_up_same (callS (within_any _ _ _ _) HC2.out)))))
    refine wpQuiet_nil ?_
    rintro _ ⟨u, rfl⟩
    go_wp2
    go_ret
    exact ⟨ret_bool HB.out.symm, Chg.trans UB.out (Chg.trans u.up (by repeat (first | exact Chg.refl _ _ | apply Chg.drew | apply Chg.drewN | refine Chg.alloc ?_ _)))⟩
  | true =>
  have HC2 := Lib.hid h2
  clear h2
  cases h3 : dirB dir with
  | false =>
    have HB := Lib.hid (infoB_dir (x := ⟨5, car, bed, at_, dir, ps⟩) (wd := wd) (i := i) h3)
    have HC3 := Lib.hid h3
    clear h3
    have f0 := H0.out
    have f1 := H1.out
    have f2 := H2.out
    have f3 := H3.out
    have f4 := H4.out
    have f5 := H5.out
    have q0 := HQ.out
    go_enter Try.func114, Try.ntmps114
    go_wp2
    have g0 := up_cell f0
    have g1 := up_cell f1
    have g2 := up_cell f2
    have g3 := up_cell f3
    have g4 := up_cell f4
    have g5 := up_cell f5
    have r0 := up_cell q0
    clear f0 f1 f2 f3 f4 f5 q0
    refine wp_region_up (by kernel_rfl) (by kernel_rfl) ?_
    repeat (go_big_quiet_step ((first | (go_at_call 80; exact calls_up_same (callS (isCarrier_any _ _) HC0.out)) | (go_at_call 164; exact calls_up_same (callS (isBed_any _ _) HC1.out)) | (go_at_call 165; exact calls_up_same (callS (isDirection_any _ _) HC3.out)) | (go_at_call 69; exact calls_up_same (callS (within_any _ _ _ _) HC2.out)))))
    refine wpQuiet_nil ?_
    rintro _ ⟨u, rfl⟩
    go_wp2
    go_ret
    exact ⟨ret_bool HB.out.symm, Chg.trans UB.out (Chg.trans u.up (by repeat (first | exact Chg.refl _ _ | apply Chg.drew | apply Chg.drewN | refine Chg.alloc ?_ _)))⟩
  | true =>
  have HC3 := Lib.hid h3
  clear h3
  by_cases hlen : ps.length ≤ 4
  rotate_left
  · have HB := Lib.hid (infoB_len (x := ⟨5, car, bed, at_, dir, ps⟩) (wd := wd) (i := i) hlen)
    have hd : decide ((ps.length : Int) > 4) = true := decide_eq_true (by omega)
    clear hlen
    have f0 := H0.out
    have f1 := H1.out
    have f2 := H2.out
    have f3 := H3.out
    have f4 := H4.out
    have f5 := H5.out
    have q0 := HQ.out
    go_enter Try.func114, Try.ntmps114
    go_wp2
    have g0 := up_cell f0
    have g1 := up_cell f1
    have g2 := up_cell f2
    have g3 := up_cell f3
    have g4 := up_cell f4
    have g5 := up_cell f5
    have r0 := up_cell q0
    clear f0 f1 f2 f3 f4 f5 q0
    refine wp_region_up (by kernel_rfl) (by kernel_rfl) ?_
    repeat (go_big_quiet_step ((first | (go_at_call 80; exact calls_up_same (callS (isCarrier_any _ _) HC0.out)) | (go_at_call 164; exact calls_up_same (callS (isBed_any _ _) HC1.out)) | (go_at_call 165; exact calls_up_same (callS (isDirection_any _ _) HC3.out)) | (go_at_call 69; exact calls_up_same (callS (within_any _ _ _ _) HC2.out)))))
    refine wpQuiet_nil ?_
    rintro _ ⟨u, rfl⟩
    go_wp2
    go_ret
    exact ⟨ret_bool HB.out.symm, Chg.trans UB.out (Chg.trans u.up (by repeat (first | exact Chg.refl _ _ | apply Chg.drew | apply Chg.drewN | refine Chg.alloc ?_ _)))⟩
  have hd : decide ((ps.length : Int) > 4) = false := decide_eq_false (by omega)
  have HLEN := Lib.hid hlen
  clear hlen
  have f0 := H0.out
  have f1 := H1.out
  have f2 := H2.out
  have f3 := H3.out
  have f4 := H4.out
  have f5 := H5.out
  have q0 := HQ.out
  go_enter Try.func114, Try.ntmps114
  go_wp2
  have g0 := up_cell f0
  have g1 := up_cell f1
  have g2 := up_cell f2
  have g3 := up_cell f3
  have g4 := up_cell f4
  have g5 := up_cell f5
  have r0 := up_cell q0
  clear f0 f1 f2 f3 f4 f5 q0
  refine wp_region_up (by kernel_rfl) (by kernel_rfl) ?_
  repeat (go_big_quiet_step ((first | (go_at_call 80; exact calls_up_same (callS (isCarrier_any _ _) HC0.out)) | (go_at_call 164; exact calls_up_same (callS (isBed_any _ _) HC1.out)) | (go_at_call 165; exact calls_up_same (callS (isDirection_any _ _) HC3.out)) | (go_at_call 69; exact calls_up_same (callS (within_any _ _ _ _) HC2.out)))))
  refine wpQuiet_nil ?_
  rintro w1 ⟨u0, hu⟩
  have gu := hu ▸ u0.up
  clear hu u0 g0 g1 g2 g3 g4 g5 r0
  have G1 := Lib.hid (show Up (w.alloc (.cells #[.int .i64 5, .int .i64 car, .int .i64 bed, .int .i64 at_, .int .i64 dir, .slice A ps.length c] 164)) w1 from Chg.trans (by repeat (first | exact Chg.refl _ _ | apply Chg.drew | apply Chg.drewN | refine Chg.alloc ?_ _)) gu)
  clear gu
  have f0 := Chg.cell G1.out H0.out id
  have f5 := Chg.cell G1.out H5.out id
  go_wp2
  clear f0 f5
  go_loopw [7, 8, 58] (fun _ _ n wr => ∃ j : Nat, j ≤ ps.length ∧ n = .int .i64 j ∧ Hid (apartB (ps.take j) i = true) ∧ Hid (Up w1 wr)) (fun _ _ n _ => ps.length - (intOf n).toNat)
  case atStart => exact ⟨0, by omega, rfl, apart_start _ _, Chg.refl _ _⟩
  case round =>
    obtain ⟨j, hj, rfl, ha, hu⟩ := hrel
    have UT := Lib.hid (Chg.trans G1.out hu.out)
    have f0 := Chg.cell UT.out H0.out id
    have f5 := Chg.cell UT.out H5.out id
    by_cases hlt : j < ps.length
    · obtain ⟨b1, o1, rfl, -, hc⟩ := (HI.out.up UT.out).ix hlt
      have f1 := hc j hlt
      rw [ix_eq hlt] at f1
      clear hc
      by_cases hr : 0 ≤ ps[j] ∧ ps[j] < i
      rotate_left
      · have HR := Lib.hid (inB_no (n := ps[j]) (lo := 0) (hi := (i : Int) - 1) (by omega))
        have HB := Lib.hid (infoB_ap (x := ⟨5, car, bed, at_, dir, ps⟩) (wd := wd) (i := i) (apart_rng_at hlt hr))
        clear hr
        go_wp2_with fail
        refine (callS (within_any _ _ _ _) HR.out).mono ?_
        rintro e w' ⟨rfl, rfl⟩
        go_wp2
        go_ret
        exact ⟨ret_bool HB.out.symm, Chg.trans UB.out UT.out⟩
      have HR := Lib.hid (inB_yes (n := ps[j]) (lo := 0) (hi := (i : Int) - 1) (by omega))
      have HR2 := Lib.hid hr
      clear hr
      by_cases hm : ps[j] ∈ ps.take j
      · have HM := Lib.hid (decide_eq_true hm)
        have HB := Lib.hid (infoB_ap (x := ⟨5, car, bed, at_, dir, ps⟩) (wd := wd) (i := i) (apart_mem_at hlt hm))
        clear hm
        go_wp2_with fail
        refine (callS (within_any _ _ _ _) HR.out).mono ?_
        rintro e w' ⟨rfl, rfl⟩
        go_wp2_with fail
        refine (callS (contains_p _ L _ (ps.take j) _ ((HI.out.up UT.out).took (by omega) rfl)) HM.out).mono ?_
        rintro e w' ⟨rfl, rfl⟩
        go_wp2
        go_ret
        exact ⟨ret_bool HB.out.symm, Chg.trans UB.out UT.out⟩
      · have HM := Lib.hid (decide_eq_false hm)
        have HN := Lib.hid (apart_next hlt ha.out HR2.out hm)
        clear hm
        go_wp2_with fail
        refine (callS (within_any _ _ _ _) HR.out).mono ?_
        rintro e w' ⟨rfl, rfl⟩
        go_wp2_with fail
        refine (callS (contains_p _ L _ (ps.take j) _ ((HI.out.up UT.out).took (by omega) rfl)) HM.out).mono ?_
        rintro e w' ⟨rfl, rfl⟩
        go_wp2
        go_roundw
        case rel => exact ⟨j + 1, by omega, by go_num, HN.out, hu.out⟩
        case measure => first | (simp [intOf]; done) | (simp [intOf]; omega)
    · obtain rfl : j = ps.length := by omega
      have HA := Lib.hid (apart_all ha.out)
      clear hlt
      by_cases h0 : 0 < ps.length
      rotate_left
      · have HB := Lib.hid (infoB_split (x := ⟨5, car, bed, at_, dir, ps⟩) (wd := wd) (i := i) h0 rfl)
        have e0 : decide (0 < ps.length) = false := decide_eq_false (by omega)
        clear h0
        go_wp2
        go_ret
        exact ⟨ret_bool HB.out.symm, Chg.trans UB.out UT.out⟩
      have e0 : decide (0 < ps.length) = true := decide_eq_true (by omega)
      have HZ := Lib.hid h0
      clear h0
      have HB := Lib.hid (infoB_yes (x := ⟨5, car, bed, at_, dir, ps⟩) (wd := wd) (i := i) rfl HC0.out HC1.out HC2.out HC3.out HLEN.out HA.out (.inr (by simp)) (.inl HZ.out))
      go_wp2
      go_ret
      exact ⟨ret_bool HB.out.symm, Chg.trans UB.out UT.out⟩
theorem isInfo_any (w : World) (L : Nat → Prop) (bm : Nat) (wd : Int) (hwd : 1 ≤ wd ∧ wd ≤ 24) (q : w.cell? ⟨bm, 0, none⟩ = some (.int .i64 wd)) (i : Nat) (hi : i ≤ 300) (x : InfM) (A : Option Addr) (c : Nat) (hlc : x.ps.length ≤ c) (hcm : c ≤ 9223372036854775807) (h : Ints w L (.slice A x.ps.length c) x.ps) :
    Calls Try.prog 114 #[.pointer (some ⟨bm, 0, none⟩), .int .i64 i, .agg #[.int .i64 x.kd, .int .i64 x.car, .int .i64 x.bed, .int .i64 x.at_, .int .i64 x.dir, .slice A x.ps.length c]] w fun e w' => e = .returned (.bool (infoB x wd i)) ∧ Up w w' := by
  obtain ⟨kd, car, bed, at_, dir, ps⟩ := x
  cases hk : kdB kd with
  | false => exact isInfo_0 w Nowhere Nowhere L bm wd hwd q i hi kd car bed at_ dir ps A c hlc hcm h hk
  | true =>
    rcases of_decide_eq_true hk with rfl | rfl | rfl
    · exact isInfo_1 w Nowhere Nowhere L bm wd hwd q i hi car bed at_ dir ps A c hlc hcm h
    · exact isInfo_2 w Nowhere Nowhere L bm wd hwd q i hi car bed at_ dir ps A c hlc hcm h
    · exact isInfo_5 w Nowhere Nowhere L bm wd hwd q i hi car bed at_ dir ps A c hlc hcm h
end Go.Proofs.Ytchfjglofmphfaa
