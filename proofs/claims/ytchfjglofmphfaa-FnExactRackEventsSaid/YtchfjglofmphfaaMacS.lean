/- Machines: the reference's tests on loops. No condition. -/
import Derived.Test.YtchfjglofmphfaaRB7
import Derived.Test.YtchfjglofmphfaaRB9
set_option linter.unusedSimpArgs false
set_option linter.unusedVariables false
set_option maxRecDepth 100000
set_option maxHeartbeats 4000000
namespace Go.Proofs.Ytchfjglofmphfaa
open Go.ChangeShapes Go.WideShapes Go.ChangeAt Go.RowKit
def riseIn (xs : List Int) (lo hi : Int) : Bool := riseB xs && decide (∀ x ∈ xs, lo ≤ x ∧ x ≤ hi)
def inTo (xs : List Int) (lo hi : Int) (j : Nat) : Prop := ∀ i (h : i < xs.length), i < j → lo ≤ xs[i] ∧ xs[i] ≤ hi
theorem inTo.next {xs : List Int} {lo hi : Int} {j : Nat} (h : inTo xs lo hi j) (hj : j < xs.length) (hx : lo ≤ xs[j] ∧ xs[j] ≤ hi) : inTo xs lo hi (j + 1) := fun i hi hij => by
  by_cases e : i = j
  · subst e; exact hx
  · exact h i hi (by omega)
theorem riseIn_rng {xs : List Int} {lo hi : Int} {j : Nat} (hj : j < xs.length) (h : ¬ (lo ≤ xs[j] ∧ xs[j] ≤ hi)) : riseIn xs lo hi = false := by
  unfold riseIn
  rw [decide_eq_false (fun c => h (c _ (List.getElem_mem hj)))]
  simp
theorem riseIn_no {xs : List Int} {lo hi : Int} (h : riseB xs = false) : riseIn xs lo hi = false := by unfold riseIn; rw [h]; rfl
theorem riseIn_yes {xs : List Int} {lo hi : Int} (h : riseB xs = true) (k : inTo xs lo hi xs.length) : riseIn xs lo hi = true := by
  unfold riseIn
  rw [h, decide_eq_true]
  · rfl
  · intro x hx
    obtain ⟨i, hi, rfl⟩ := List.getElem_of_mem hx
    exact k i hi hi
theorem l07Info_0 (w : World) (L : Nat → Prop) (bi oi : Nat) (wd : Int) (hwd : 1 ≤ wd ∧ wd ≤ 24) (i : Nat) (hi : i ≤ 300) (kd car bed at_ dir : Int) (ps : List Int) (A : Option Addr) (c : Nat) (hlc : ps.length ≤ c) (hcm : c ≤ 9223372036854775807) (h : Ints w L (.slice A ps.length c) ps) (hk : kdB kd = false)
    (f0 : w.cell? ⟨bi, oi, none⟩ = some (.int .i64 kd)) (f1 : w.cell? ⟨bi, oi + 1, none⟩ = some (.int .i64 car)) (f2 : w.cell? ⟨bi, oi + 2, none⟩ = some (.int .i64 bed)) (f3 : w.cell? ⟨bi, oi + 3, none⟩ = some (.int .i64 at_)) (f4 : w.cell? ⟨bi, oi + 4, none⟩ = some (.int .i64 dir)) (f5 : w.cell? ⟨bi, oi + 5, none⟩ = some (.slice A ps.length c)) :
    Calls Try.prog 104 #[.pointer (some ⟨bi, oi, none⟩), .int .i64 wd, .int .i64 i] w fun e w' => e = .returned (.bool (infoB ⟨kd, car, bed, at_, dir, ps⟩ wd i)) ∧ Up w w' := by
  have HI := Lib.hid h
  clear h
  have hk' := of_decide_eq_false hk
  have HB := Lib.hid (infoB_kd (x := ⟨kd, car, bed, at_, dir, ps⟩) (wd := wd) (i := i) hk)
  have e1 : (kd != 1) = true := by simpa using fun e => hk' (.inl e)
  have e2 : (kd != 2) = true := by simpa using fun e => hk' (.inr (.inl e))
  have e5 : (kd != 5) = true := by simpa using fun e => hk' (.inr (.inr e))
  clear hk hk'
  go_enter Try.func104, Try.ntmps104
  go_wp2
  go_ret
  exact ⟨ret_bool HB.out.symm, (by repeat (first | exact Chg.refl _ _ | apply Chg.drew | apply Chg.drewN | refine Chg.alloc ?_ _))⟩
theorem l07Info_1 (w : World) (L : Nat → Prop) (bi oi : Nat) (wd : Int) (hwd : 1 ≤ wd ∧ wd ≤ 24) (i : Nat) (hi : i ≤ 300) (car bed at_ dir : Int) (ps : List Int) (A : Option Addr) (c : Nat) (hlc : ps.length ≤ c) (hcm : c ≤ 9223372036854775807) (h : Ints w L (.slice A ps.length c) ps)
    (f0 : w.cell? ⟨bi, oi, none⟩ = some (.int .i64 1)) (f1 : w.cell? ⟨bi, oi + 1, none⟩ = some (.int .i64 car)) (f2 : w.cell? ⟨bi, oi + 2, none⟩ = some (.int .i64 bed)) (f3 : w.cell? ⟨bi, oi + 3, none⟩ = some (.int .i64 at_)) (f4 : w.cell? ⟨bi, oi + 4, none⟩ = some (.int .i64 dir)) (f5 : w.cell? ⟨bi, oi + 5, none⟩ = some (.slice A ps.length c)) :
    Calls Try.prog 104 #[.pointer (some ⟨bi, oi, none⟩), .int .i64 wd, .int .i64 i] w fun e w' => e = .returned (.bool (infoB ⟨1, car, bed, at_, dir, ps⟩ wd i)) ∧ Up w w' := by
  have HI := Lib.hid h
  clear h
  have H0 := Lib.hid f0
  have H1 := Lib.hid f1
  have H2 := Lib.hid f2
  have H3 := Lib.hid f3
  have H4 := Lib.hid f4
  have H5 := Lib.hid f5
  cases h0 : carB car with
  | false =>
    have HB := Lib.hid (infoB_car (x := ⟨1, car, bed, at_, dir, ps⟩) (wd := wd) (i := i) h0)
    have HC0 := Lib.hid h0
    clear h0
    go_enter Try.func104, Try.ntmps104
    go_wp2_with (first | (go_at_call 119; refine (callS (l07Yarn_any _ _) HC0.out).mono ?_; rintro e w' ⟨rfl, rfl⟩) | (go_at_call 158; refine (callS (l01Bed_any _ _) HC1.out).mono ?_; rintro e w' ⟨rfl, rfl⟩) | (go_at_call 47; refine (callS (l00In_any _ _ _ _) HC2.out).mono ?_; rintro e w' ⟨rfl, rfl⟩) | (go_at_call 159; refine (callS (l07Dir_any _ _) HC3.out).mono ?_; rintro e w' ⟨rfl, rfl⟩))
    go_ret
    exact ⟨ret_bool HB.out.symm, (by repeat (first | exact Chg.refl _ _ | apply Chg.drew | apply Chg.drewN | refine Chg.alloc ?_ _))⟩
  | true =>
  have HC0 := Lib.hid h0
  clear h0
  cases h1 : bedB bed with
  | false =>
    have HB := Lib.hid (infoB_bed (x := ⟨1, car, bed, at_, dir, ps⟩) (wd := wd) (i := i) h1)
    have HC1 := Lib.hid h1
    clear h1
    go_enter Try.func104, Try.ntmps104
    go_wp2_with (first | (go_at_call 119; refine (callS (l07Yarn_any _ _) HC0.out).mono ?_; rintro e w' ⟨rfl, rfl⟩) | (go_at_call 158; refine (callS (l01Bed_any _ _) HC1.out).mono ?_; rintro e w' ⟨rfl, rfl⟩) | (go_at_call 47; refine (callS (l00In_any _ _ _ _) HC2.out).mono ?_; rintro e w' ⟨rfl, rfl⟩) | (go_at_call 159; refine (callS (l07Dir_any _ _) HC3.out).mono ?_; rintro e w' ⟨rfl, rfl⟩))
    go_ret
    exact ⟨ret_bool HB.out.symm, (by repeat (first | exact Chg.refl _ _ | apply Chg.drew | apply Chg.drewN | refine Chg.alloc ?_ _))⟩
  | true =>
  have HC1 := Lib.hid h1
  clear h1
  cases h2 : inB at_ 0 (wd - 1) with
  | false =>
    have HB := Lib.hid (infoB_at (x := ⟨1, car, bed, at_, dir, ps⟩) (wd := wd) (i := i) h2)
    have HC2 := Lib.hid h2
    clear h2
    go_enter Try.func104, Try.ntmps104
    go_wp2_with (first | (go_at_call 119; refine (callS (l07Yarn_any _ _) HC0.out).mono ?_; rintro e w' ⟨rfl, rfl⟩) | (go_at_call 158; refine (callS (l01Bed_any _ _) HC1.out).mono ?_; rintro e w' ⟨rfl, rfl⟩) | (go_at_call 47; refine (callS (l00In_any _ _ _ _) HC2.out).mono ?_; rintro e w' ⟨rfl, rfl⟩) | (go_at_call 159; refine (callS (l07Dir_any _ _) HC3.out).mono ?_; rintro e w' ⟨rfl, rfl⟩))
    go_ret
    exact ⟨ret_bool HB.out.symm, (by repeat (first | exact Chg.refl _ _ | apply Chg.drew | apply Chg.drewN | refine Chg.alloc ?_ _))⟩
  | true =>
  have HC2 := Lib.hid h2
  clear h2
  cases h3 : dirB dir with
  | false =>
    have HB := Lib.hid (infoB_dir (x := ⟨1, car, bed, at_, dir, ps⟩) (wd := wd) (i := i) h3)
    have HC3 := Lib.hid h3
    clear h3
    go_enter Try.func104, Try.ntmps104
    go_wp2_with (first | (go_at_call 119; refine (callS (l07Yarn_any _ _) HC0.out).mono ?_; rintro e w' ⟨rfl, rfl⟩) | (go_at_call 158; refine (callS (l01Bed_any _ _) HC1.out).mono ?_; rintro e w' ⟨rfl, rfl⟩) | (go_at_call 47; refine (callS (l00In_any _ _ _ _) HC2.out).mono ?_; rintro e w' ⟨rfl, rfl⟩) | (go_at_call 159; refine (callS (l07Dir_any _ _) HC3.out).mono ?_; rintro e w' ⟨rfl, rfl⟩))
    go_ret
    exact ⟨ret_bool HB.out.symm, (by repeat (first | exact Chg.refl _ _ | apply Chg.drew | apply Chg.drewN | refine Chg.alloc ?_ _))⟩
  | true =>
  have HC3 := Lib.hid h3
  clear h3
  go_enter Try.func104, Try.ntmps104
  go_wp2_with (first | (go_at_call 119; refine (callS (l07Yarn_any _ _) HC0.out).mono ?_; rintro e w' ⟨rfl, rfl⟩) | (go_at_call 158; refine (callS (l01Bed_any _ _) HC1.out).mono ?_; rintro e w' ⟨rfl, rfl⟩) | (go_at_call 47; refine (callS (l00In_any _ _ _ _) HC2.out).mono ?_; rintro e w' ⟨rfl, rfl⟩) | (go_at_call 159; refine (callS (l07Dir_any _ _) HC3.out).mono ?_; rintro e w' ⟨rfl, rfl⟩))
  clear f0 f1 f2 f3 f4 f5
  go_loopw [7] (fun n wr => ∃ j : Nat, j ≤ ps.length ∧ n = .int .i64 j ∧ Hid (apartB (ps.take j) i = true) ∧ Hid (Up w wr)) (fun n _ => ps.length - (intOf n).toNat)
  case atStart => exact ⟨0, by omega, rfl, apart_start _ _, (by repeat (first | exact Chg.refl _ _ | apply Chg.drew | apply Chg.drewN | refine Chg.alloc ?_ _))⟩
  case round =>
    obtain ⟨j, hj, rfl, ha, hu⟩ := hrel
    have f0 := Chg.cell hu.out H0.out id
    have f5 := Chg.cell hu.out H5.out id
    by_cases hlt : j < ps.length
    · obtain ⟨b1, o1, rfl, -, hc⟩ := (HI.out.up hu.out).ix hlt
      have f1 := hc j hlt
      rw [ix_eq hlt] at f1
      clear hc
      by_cases hr : 0 ≤ ps[j] ∧ ps[j] < i
      rotate_left
      · have HR := Lib.hid (inB_no (n := ps[j]) (lo := 0) (hi := (i : Int) - 1) (by omega))
        have HB := Lib.hid (infoB_ap (x := ⟨1, car, bed, at_, dir, ps⟩) (wd := wd) (i := i) (apart_rng_at hlt hr))
        clear hr
        go_wp2
        have g1 := up_cell f1
        have g5 := up_cell f5
        refine wp_region_up (by kernel_rfl) (by kernel_rfl) ?_
        repeat (go_big_quiet_step ((first | (go_at_call 47; exact calls_up_same (callS (l00In_any _ _ _ _) HR.out)))))
        refine wpQuiet_nil ?_
        rintro w1 ⟨u0, hu0⟩
        have gu := hu0 ▸ u0.up
        clear hu0 u0 g1 g5
        have U1 := Lib.hid (Chg.trans hu.out (Chg.trans (by repeat (first | exact Chg.refl _ _ | apply Chg.drew | apply Chg.drewN | refine Chg.alloc ?_ _)) gu))
        clear gu
        go_wp2
        go_ret
        exact ⟨ret_bool HB.out.symm, Chg.trans U1.out (by repeat (first | exact Chg.refl _ _ | apply Chg.drew | apply Chg.drewN | refine Chg.alloc ?_ _))⟩
      have HR := Lib.hid (inB_yes (n := ps[j]) (lo := 0) (hi := (i : Int) - 1) (by omega))
      have HR2 := Lib.hid hr
      clear hr
      by_cases hm : ps[j] ∈ ps.take j
      · have HM := Lib.hid (decide_eq_true hm)
        have HB := Lib.hid (infoB_ap (x := ⟨1, car, bed, at_, dir, ps⟩) (wd := wd) (i := i) (apart_mem_at hlt hm))
        have HHAS : ∀ u : UpOf wr, Calls Try.prog 107 #[.slice (some ⟨b1, o1, none⟩) j c, .int .i64 ps[j]] u.wd fun e w'' => e = .returned (.bool true) ∧ ∃ u' : UpOf wr, w'' = u'.wd := fun u => calls_up_same (callS (has_any _ L _ (ps.take j) _ (((HI.out.up hu.out).up u.up).took (by omega) rfl)) HM.out)
        clear hm
        go_wp2
        have g1 := up_cell f1
        have g5 := up_cell f5
        refine wp_region_up (by kernel_rfl) (by kernel_rfl) ?_
        repeat (go_big_quiet_step ((first | (go_at_call 47; exact calls_up_same (callS (l00In_any _ _ _ _) HR.out)) | (go_at_call 107; exact HHAS _))))
        refine wpQuiet_nil ?_
        rintro w1 ⟨u0, hu0⟩
        have gu := hu0 ▸ u0.up
        clear hu0 u0 g1 g5
        have U1 := Lib.hid (Chg.trans hu.out (Chg.trans (by repeat (first | exact Chg.refl _ _ | apply Chg.drew | apply Chg.drewN | refine Chg.alloc ?_ _)) gu))
        clear gu
        go_wp2
        go_ret
        exact ⟨ret_bool HB.out.symm, Chg.trans U1.out (by repeat (first | exact Chg.refl _ _ | apply Chg.drew | apply Chg.drewN | refine Chg.alloc ?_ _))⟩
      · have HM := Lib.hid (decide_eq_false hm)
        have HN := Lib.hid (apart_next hlt ha.out HR2.out hm)
        have HHAS : ∀ u : UpOf wr, Calls Try.prog 107 #[.slice (some ⟨b1, o1, none⟩) j c, .int .i64 ps[j]] u.wd fun e w'' => e = .returned (.bool false) ∧ ∃ u' : UpOf wr, w'' = u'.wd := fun u => calls_up_same (callS (has_any _ L _ (ps.take j) _ (((HI.out.up hu.out).up u.up).took (by omega) rfl)) HM.out)
        clear hm
        go_wp2
        have g1 := up_cell f1
        have g5 := up_cell f5
        refine wp_region_up (by kernel_rfl) (by kernel_rfl) ?_
        repeat (go_big_quiet_step ((first | (go_at_call 47; exact calls_up_same (callS (l00In_any _ _ _ _) HR.out)) | (go_at_call 107; exact HHAS _))))
        refine wpQuiet_nil ?_
        rintro w1 ⟨u0, hu0⟩
        have gu := hu0 ▸ u0.up
        clear hu0 u0 g1 g5
        have U1 := Lib.hid (Chg.trans hu.out (Chg.trans (by repeat (first | exact Chg.refl _ _ | apply Chg.drew | apply Chg.drewN | refine Chg.alloc ?_ _)) gu))
        clear gu
        go_wp2
        go_roundw
        case rel => exact ⟨j + 1, by omega, by go_num, HN.out, U1⟩
        case measure => first | (simp [intOf]; done) | (simp [intOf]; omega)
    · obtain rfl : j = ps.length := by omega
      have HA := Lib.hid (apart_all ha.out)
      clear hlt
      by_cases h4 : ps.length ≤ 4
      rotate_left
      · have HB := Lib.hid (infoB_len (x := ⟨1, car, bed, at_, dir, ps⟩) (wd := wd) (i := i) h4)
        have d4 : decide ((ps.length : Int) ≤ 4) = false := decide_eq_false (by omega)
        clear h4
        go_wp2
        go_ret
        exact ⟨ret_bool HB.out.symm, Chg.trans hu.out (by repeat (first | exact Chg.refl _ _ | apply Chg.drew | apply Chg.drewN | refine Chg.alloc ?_ _))⟩
      have d4 : decide ((ps.length : Int) ≤ 4) = true := decide_eq_true (by omega)
      have H4 := Lib.hid h4
      clear h4
      by_cases h0 : ps.length = 0
      · have e0 : ((ps.length : Int) == 0) = true := by rw [beq_iff_eq]; omega
        have e1 : decide (0 < ps.length) = false := decide_eq_false (by omega)
        have HB := Lib.hid (infoB_yes (x := ⟨1, car, bed, at_, dir, ps⟩) (wd := wd) (i := i) rfl HC0.out HC1.out HC2.out HC3.out H4.out HA.out (.inl h0) (.inr (by simp)))
        clear h0
        go_wp2
        go_ret
        exact ⟨ret_bool HB.out.symm, Chg.trans hu.out (by repeat (first | exact Chg.refl _ _ | apply Chg.drew | apply Chg.drewN | refine Chg.alloc ?_ _))⟩
      · have e0 : ((ps.length : Int) == 0) = false := by rw [beq_eq_false_iff_ne]; omega
        have e1 : decide (0 < ps.length) = true := decide_eq_true (by omega)
        have h1 : 0 < ps.length := by omega
        have HB := Lib.hid (infoB_yes (x := ⟨1, car, bed, at_, dir, ps⟩) (wd := wd) (i := i) rfl HC0.out HC1.out HC2.out HC3.out H4.out HA.out (.inr (by simp)) (.inl h1))
        clear h0 h1
        go_wp2
        go_ret
        exact ⟨ret_bool HB.out.symm, Chg.trans hu.out (by repeat (first | exact Chg.refl _ _ | apply Chg.drew | apply Chg.drewN | refine Chg.alloc ?_ _))⟩
theorem l07Info_2 (w : World) (L : Nat → Prop) (bi oi : Nat) (wd : Int) (hwd : 1 ≤ wd ∧ wd ≤ 24) (i : Nat) (hi : i ≤ 300) (car bed at_ dir : Int) (ps : List Int) (A : Option Addr) (c : Nat) (hlc : ps.length ≤ c) (hcm : c ≤ 9223372036854775807) (h : Ints w L (.slice A ps.length c) ps)
    (f0 : w.cell? ⟨bi, oi, none⟩ = some (.int .i64 2)) (f1 : w.cell? ⟨bi, oi + 1, none⟩ = some (.int .i64 car)) (f2 : w.cell? ⟨bi, oi + 2, none⟩ = some (.int .i64 bed)) (f3 : w.cell? ⟨bi, oi + 3, none⟩ = some (.int .i64 at_)) (f4 : w.cell? ⟨bi, oi + 4, none⟩ = some (.int .i64 dir)) (f5 : w.cell? ⟨bi, oi + 5, none⟩ = some (.slice A ps.length c)) :
    Calls Try.prog 104 #[.pointer (some ⟨bi, oi, none⟩), .int .i64 wd, .int .i64 i] w fun e w' => e = .returned (.bool (infoB ⟨2, car, bed, at_, dir, ps⟩ wd i)) ∧ Up w w' := by
  have HI := Lib.hid h
  clear h
  have H0 := Lib.hid f0
  have H1 := Lib.hid f1
  have H2 := Lib.hid f2
  have H3 := Lib.hid f3
  have H4 := Lib.hid f4
  have H5 := Lib.hid f5
  cases h0 : carB car with
  | false =>
    have HB := Lib.hid (infoB_car (x := ⟨2, car, bed, at_, dir, ps⟩) (wd := wd) (i := i) h0)
    have HC0 := Lib.hid h0
    clear h0
    go_enter Try.func104, Try.ntmps104
    go_wp2_with (first | (go_at_call 119; refine (callS (l07Yarn_any _ _) HC0.out).mono ?_; rintro e w' ⟨rfl, rfl⟩) | (go_at_call 158; refine (callS (l01Bed_any _ _) HC1.out).mono ?_; rintro e w' ⟨rfl, rfl⟩) | (go_at_call 47; refine (callS (l00In_any _ _ _ _) HC2.out).mono ?_; rintro e w' ⟨rfl, rfl⟩) | (go_at_call 159; refine (callS (l07Dir_any _ _) HC3.out).mono ?_; rintro e w' ⟨rfl, rfl⟩))
    go_ret
    exact ⟨ret_bool HB.out.symm, (by repeat (first | exact Chg.refl _ _ | apply Chg.drew | apply Chg.drewN | refine Chg.alloc ?_ _))⟩
  | true =>
  have HC0 := Lib.hid h0
  clear h0
  cases h1 : bedB bed with
  | false =>
    have HB := Lib.hid (infoB_bed (x := ⟨2, car, bed, at_, dir, ps⟩) (wd := wd) (i := i) h1)
    have HC1 := Lib.hid h1
    clear h1
    go_enter Try.func104, Try.ntmps104
    go_wp2_with (first | (go_at_call 119; refine (callS (l07Yarn_any _ _) HC0.out).mono ?_; rintro e w' ⟨rfl, rfl⟩) | (go_at_call 158; refine (callS (l01Bed_any _ _) HC1.out).mono ?_; rintro e w' ⟨rfl, rfl⟩) | (go_at_call 47; refine (callS (l00In_any _ _ _ _) HC2.out).mono ?_; rintro e w' ⟨rfl, rfl⟩) | (go_at_call 159; refine (callS (l07Dir_any _ _) HC3.out).mono ?_; rintro e w' ⟨rfl, rfl⟩))
    go_ret
    exact ⟨ret_bool HB.out.symm, (by repeat (first | exact Chg.refl _ _ | apply Chg.drew | apply Chg.drewN | refine Chg.alloc ?_ _))⟩
  | true =>
  have HC1 := Lib.hid h1
  clear h1
  cases h2 : inB at_ 0 (wd - 1) with
  | false =>
    have HB := Lib.hid (infoB_at (x := ⟨2, car, bed, at_, dir, ps⟩) (wd := wd) (i := i) h2)
    have HC2 := Lib.hid h2
    clear h2
    go_enter Try.func104, Try.ntmps104
    go_wp2_with (first | (go_at_call 119; refine (callS (l07Yarn_any _ _) HC0.out).mono ?_; rintro e w' ⟨rfl, rfl⟩) | (go_at_call 158; refine (callS (l01Bed_any _ _) HC1.out).mono ?_; rintro e w' ⟨rfl, rfl⟩) | (go_at_call 47; refine (callS (l00In_any _ _ _ _) HC2.out).mono ?_; rintro e w' ⟨rfl, rfl⟩) | (go_at_call 159; refine (callS (l07Dir_any _ _) HC3.out).mono ?_; rintro e w' ⟨rfl, rfl⟩))
    go_ret
    exact ⟨ret_bool HB.out.symm, (by repeat (first | exact Chg.refl _ _ | apply Chg.drew | apply Chg.drewN | refine Chg.alloc ?_ _))⟩
  | true =>
  have HC2 := Lib.hid h2
  clear h2
  cases h3 : dirB dir with
  | false =>
    have HB := Lib.hid (infoB_dir (x := ⟨2, car, bed, at_, dir, ps⟩) (wd := wd) (i := i) h3)
    have HC3 := Lib.hid h3
    clear h3
    go_enter Try.func104, Try.ntmps104
    go_wp2_with (first | (go_at_call 119; refine (callS (l07Yarn_any _ _) HC0.out).mono ?_; rintro e w' ⟨rfl, rfl⟩) | (go_at_call 158; refine (callS (l01Bed_any _ _) HC1.out).mono ?_; rintro e w' ⟨rfl, rfl⟩) | (go_at_call 47; refine (callS (l00In_any _ _ _ _) HC2.out).mono ?_; rintro e w' ⟨rfl, rfl⟩) | (go_at_call 159; refine (callS (l07Dir_any _ _) HC3.out).mono ?_; rintro e w' ⟨rfl, rfl⟩))
    go_ret
    exact ⟨ret_bool HB.out.symm, (by repeat (first | exact Chg.refl _ _ | apply Chg.drew | apply Chg.drewN | refine Chg.alloc ?_ _))⟩
  | true =>
  have HC3 := Lib.hid h3
  clear h3
  go_enter Try.func104, Try.ntmps104
  go_wp2_with (first | (go_at_call 119; refine (callS (l07Yarn_any _ _) HC0.out).mono ?_; rintro e w' ⟨rfl, rfl⟩) | (go_at_call 158; refine (callS (l01Bed_any _ _) HC1.out).mono ?_; rintro e w' ⟨rfl, rfl⟩) | (go_at_call 47; refine (callS (l00In_any _ _ _ _) HC2.out).mono ?_; rintro e w' ⟨rfl, rfl⟩) | (go_at_call 159; refine (callS (l07Dir_any _ _) HC3.out).mono ?_; rintro e w' ⟨rfl, rfl⟩))
  clear f0 f1 f2 f3 f4 f5
  go_loopw [7] (fun n wr => ∃ j : Nat, j ≤ ps.length ∧ n = .int .i64 j ∧ Hid (apartB (ps.take j) i = true) ∧ Hid (Up w wr)) (fun n _ => ps.length - (intOf n).toNat)
  case atStart => exact ⟨0, by omega, rfl, apart_start _ _, (by repeat (first | exact Chg.refl _ _ | apply Chg.drew | apply Chg.drewN | refine Chg.alloc ?_ _))⟩
  case round =>
    obtain ⟨j, hj, rfl, ha, hu⟩ := hrel
    have f0 := Chg.cell hu.out H0.out id
    have f5 := Chg.cell hu.out H5.out id
    by_cases hlt : j < ps.length
    · obtain ⟨b1, o1, rfl, -, hc⟩ := (HI.out.up hu.out).ix hlt
      have f1 := hc j hlt
      rw [ix_eq hlt] at f1
      clear hc
      by_cases hr : 0 ≤ ps[j] ∧ ps[j] < i
      rotate_left
      · have HR := Lib.hid (inB_no (n := ps[j]) (lo := 0) (hi := (i : Int) - 1) (by omega))
        have HB := Lib.hid (infoB_ap (x := ⟨2, car, bed, at_, dir, ps⟩) (wd := wd) (i := i) (apart_rng_at hlt hr))
        clear hr
        go_wp2
        have g1 := up_cell f1
        have g5 := up_cell f5
        refine wp_region_up (by kernel_rfl) (by kernel_rfl) ?_
        repeat (go_big_quiet_step ((first | (go_at_call 47; exact calls_up_same (callS (l00In_any _ _ _ _) HR.out)))))
        refine wpQuiet_nil ?_
        rintro w1 ⟨u0, hu0⟩
        have gu := hu0 ▸ u0.up
        clear hu0 u0 g1 g5
        have U1 := Lib.hid (Chg.trans hu.out (Chg.trans (by repeat (first | exact Chg.refl _ _ | apply Chg.drew | apply Chg.drewN | refine Chg.alloc ?_ _)) gu))
        clear gu
        go_wp2
        go_ret
        exact ⟨ret_bool HB.out.symm, Chg.trans U1.out (by repeat (first | exact Chg.refl _ _ | apply Chg.drew | apply Chg.drewN | refine Chg.alloc ?_ _))⟩
      have HR := Lib.hid (inB_yes (n := ps[j]) (lo := 0) (hi := (i : Int) - 1) (by omega))
      have HR2 := Lib.hid hr
      clear hr
      by_cases hm : ps[j] ∈ ps.take j
      · have HM := Lib.hid (decide_eq_true hm)
        have HB := Lib.hid (infoB_ap (x := ⟨2, car, bed, at_, dir, ps⟩) (wd := wd) (i := i) (apart_mem_at hlt hm))
        have HHAS : ∀ u : UpOf wr, Calls Try.prog 107 #[.slice (some ⟨b1, o1, none⟩) j c, .int .i64 ps[j]] u.wd fun e w'' => e = .returned (.bool true) ∧ ∃ u' : UpOf wr, w'' = u'.wd := fun u => calls_up_same (callS (has_any _ L _ (ps.take j) _ (((HI.out.up hu.out).up u.up).took (by omega) rfl)) HM.out)
        clear hm
        go_wp2
        have g1 := up_cell f1
        have g5 := up_cell f5
        refine wp_region_up (by kernel_rfl) (by kernel_rfl) ?_
        repeat (go_big_quiet_step ((first | (go_at_call 47; exact calls_up_same (callS (l00In_any _ _ _ _) HR.out)) | (go_at_call 107; exact HHAS _))))
        refine wpQuiet_nil ?_
        rintro w1 ⟨u0, hu0⟩
        have gu := hu0 ▸ u0.up
        clear hu0 u0 g1 g5
        have U1 := Lib.hid (Chg.trans hu.out (Chg.trans (by repeat (first | exact Chg.refl _ _ | apply Chg.drew | apply Chg.drewN | refine Chg.alloc ?_ _)) gu))
        clear gu
        go_wp2
        go_ret
        exact ⟨ret_bool HB.out.symm, Chg.trans U1.out (by repeat (first | exact Chg.refl _ _ | apply Chg.drew | apply Chg.drewN | refine Chg.alloc ?_ _))⟩
      · have HM := Lib.hid (decide_eq_false hm)
        have HN := Lib.hid (apart_next hlt ha.out HR2.out hm)
        have HHAS : ∀ u : UpOf wr, Calls Try.prog 107 #[.slice (some ⟨b1, o1, none⟩) j c, .int .i64 ps[j]] u.wd fun e w'' => e = .returned (.bool false) ∧ ∃ u' : UpOf wr, w'' = u'.wd := fun u => calls_up_same (callS (has_any _ L _ (ps.take j) _ (((HI.out.up hu.out).up u.up).took (by omega) rfl)) HM.out)
        clear hm
        go_wp2
        have g1 := up_cell f1
        have g5 := up_cell f5
        refine wp_region_up (by kernel_rfl) (by kernel_rfl) ?_
        repeat (go_big_quiet_step ((first | (go_at_call 47; exact calls_up_same (callS (l00In_any _ _ _ _) HR.out)) | (go_at_call 107; exact HHAS _))))
        refine wpQuiet_nil ?_
        rintro w1 ⟨u0, hu0⟩
        have gu := hu0 ▸ u0.up
        clear hu0 u0 g1 g5
        have U1 := Lib.hid (Chg.trans hu.out (Chg.trans (by repeat (first | exact Chg.refl _ _ | apply Chg.drew | apply Chg.drewN | refine Chg.alloc ?_ _)) gu))
        clear gu
        go_wp2
        go_roundw
        case rel => exact ⟨j + 1, by omega, by go_num, HN.out, U1⟩
        case measure => first | (simp [intOf]; done) | (simp [intOf]; omega)
    · obtain rfl : j = ps.length := by omega
      have HA := Lib.hid (apart_all ha.out)
      clear hlt
      by_cases h4 : ps.length ≤ 4
      rotate_left
      · have HB := Lib.hid (infoB_len (x := ⟨2, car, bed, at_, dir, ps⟩) (wd := wd) (i := i) h4)
        have d4 : decide ((ps.length : Int) ≤ 4) = false := decide_eq_false (by omega)
        clear h4
        go_wp2
        go_ret
        exact ⟨ret_bool HB.out.symm, Chg.trans hu.out (by repeat (first | exact Chg.refl _ _ | apply Chg.drew | apply Chg.drewN | refine Chg.alloc ?_ _))⟩
      have d4 : decide ((ps.length : Int) ≤ 4) = true := decide_eq_true (by omega)
      have H4 := Lib.hid h4
      clear h4
      by_cases h0 : ps.length = 0
      · have e0 : ((ps.length : Int) == 0) = true := by rw [beq_iff_eq]; omega
        have e1 : decide (0 < ps.length) = false := decide_eq_false (by omega)
        have HB := Lib.hid (infoB_yes (x := ⟨2, car, bed, at_, dir, ps⟩) (wd := wd) (i := i) rfl HC0.out HC1.out HC2.out HC3.out H4.out HA.out (.inl h0) (.inr (by simp)))
        clear h0
        go_wp2
        go_ret
        exact ⟨ret_bool HB.out.symm, Chg.trans hu.out (by repeat (first | exact Chg.refl _ _ | apply Chg.drew | apply Chg.drewN | refine Chg.alloc ?_ _))⟩
      · have e0 : ((ps.length : Int) == 0) = false := by rw [beq_eq_false_iff_ne]; omega
        have e1 : decide (0 < ps.length) = true := decide_eq_true (by omega)
        have h1 : 0 < ps.length := by omega
        have HB := Lib.hid (infoB_tuck (x := ⟨2, car, bed, at_, dir, ps⟩) (wd := wd) (i := i) h0 rfl)
        clear h0 h1
        go_wp2
        go_ret
        exact ⟨ret_bool HB.out.symm, Chg.trans hu.out (by repeat (first | exact Chg.refl _ _ | apply Chg.drew | apply Chg.drewN | refine Chg.alloc ?_ _))⟩
theorem l07Info_5 (w : World) (L : Nat → Prop) (bi oi : Nat) (wd : Int) (hwd : 1 ≤ wd ∧ wd ≤ 24) (i : Nat) (hi : i ≤ 300) (car bed at_ dir : Int) (ps : List Int) (A : Option Addr) (c : Nat) (hlc : ps.length ≤ c) (hcm : c ≤ 9223372036854775807) (h : Ints w L (.slice A ps.length c) ps)
    (f0 : w.cell? ⟨bi, oi, none⟩ = some (.int .i64 5)) (f1 : w.cell? ⟨bi, oi + 1, none⟩ = some (.int .i64 car)) (f2 : w.cell? ⟨bi, oi + 2, none⟩ = some (.int .i64 bed)) (f3 : w.cell? ⟨bi, oi + 3, none⟩ = some (.int .i64 at_)) (f4 : w.cell? ⟨bi, oi + 4, none⟩ = some (.int .i64 dir)) (f5 : w.cell? ⟨bi, oi + 5, none⟩ = some (.slice A ps.length c)) :
    Calls Try.prog 104 #[.pointer (some ⟨bi, oi, none⟩), .int .i64 wd, .int .i64 i] w fun e w' => e = .returned (.bool (infoB ⟨5, car, bed, at_, dir, ps⟩ wd i)) ∧ Up w w' := by
  have HI := Lib.hid h
  clear h
  have H0 := Lib.hid f0
  have H1 := Lib.hid f1
  have H2 := Lib.hid f2
  have H3 := Lib.hid f3
  have H4 := Lib.hid f4
  have H5 := Lib.hid f5
  cases h0 : carB car with
  | false =>
    have HB := Lib.hid (infoB_car (x := ⟨5, car, bed, at_, dir, ps⟩) (wd := wd) (i := i) h0)
    have HC0 := Lib.hid h0
    clear h0
    go_enter Try.func104, Try.ntmps104
    go_wp2_with (first | (go_at_call 119; refine (callS (l07Yarn_any _ _) HC0.out).mono ?_; rintro e w' ⟨rfl, rfl⟩) | (go_at_call 158; refine (callS (l01Bed_any _ _) HC1.out).mono ?_; rintro e w' ⟨rfl, rfl⟩) | (go_at_call 47; refine (callS (l00In_any _ _ _ _) HC2.out).mono ?_; rintro e w' ⟨rfl, rfl⟩) | (go_at_call 159; refine (callS (l07Dir_any _ _) HC3.out).mono ?_; rintro e w' ⟨rfl, rfl⟩))
    go_ret
    exact ⟨ret_bool HB.out.symm, (by repeat (first | exact Chg.refl _ _ | apply Chg.drew | apply Chg.drewN | refine Chg.alloc ?_ _))⟩
  | true =>
  have HC0 := Lib.hid h0
  clear h0
  cases h1 : bedB bed with
  | false =>
    have HB := Lib.hid (infoB_bed (x := ⟨5, car, bed, at_, dir, ps⟩) (wd := wd) (i := i) h1)
    have HC1 := Lib.hid h1
    clear h1
    go_enter Try.func104, Try.ntmps104
    go_wp2_with (first | (go_at_call 119; refine (callS (l07Yarn_any _ _) HC0.out).mono ?_; rintro e w' ⟨rfl, rfl⟩) | (go_at_call 158; refine (callS (l01Bed_any _ _) HC1.out).mono ?_; rintro e w' ⟨rfl, rfl⟩) | (go_at_call 47; refine (callS (l00In_any _ _ _ _) HC2.out).mono ?_; rintro e w' ⟨rfl, rfl⟩) | (go_at_call 159; refine (callS (l07Dir_any _ _) HC3.out).mono ?_; rintro e w' ⟨rfl, rfl⟩))
    go_ret
    exact ⟨ret_bool HB.out.symm, (by repeat (first | exact Chg.refl _ _ | apply Chg.drew | apply Chg.drewN | refine Chg.alloc ?_ _))⟩
  | true =>
  have HC1 := Lib.hid h1
  clear h1
  cases h2 : inB at_ 0 (wd - 1) with
  | false =>
    have HB := Lib.hid (infoB_at (x := ⟨5, car, bed, at_, dir, ps⟩) (wd := wd) (i := i) h2)
    have HC2 := Lib.hid h2
    clear h2
    go_enter Try.func104, Try.ntmps104
    go_wp2_with (first | (go_at_call 119; refine (callS (l07Yarn_any _ _) HC0.out).mono ?_; rintro e w' ⟨rfl, rfl⟩) | (go_at_call 158; refine (callS (l01Bed_any _ _) HC1.out).mono ?_; rintro e w' ⟨rfl, rfl⟩) | (go_at_call 47; refine (callS (l00In_any _ _ _ _) HC2.out).mono ?_; rintro e w' ⟨rfl, rfl⟩) | (go_at_call 159; refine (callS (l07Dir_any _ _) HC3.out).mono ?_; rintro e w' ⟨rfl, rfl⟩))
    go_ret
    exact ⟨ret_bool HB.out.symm, (by repeat (first | exact Chg.refl _ _ | apply Chg.drew | apply Chg.drewN | refine Chg.alloc ?_ _))⟩
  | true =>
  have HC2 := Lib.hid h2
  clear h2
  cases h3 : dirB dir with
  | false =>
    have HB := Lib.hid (infoB_dir (x := ⟨5, car, bed, at_, dir, ps⟩) (wd := wd) (i := i) h3)
    have HC3 := Lib.hid h3
    clear h3
    go_enter Try.func104, Try.ntmps104
    go_wp2_with (first | (go_at_call 119; refine (callS (l07Yarn_any _ _) HC0.out).mono ?_; rintro e w' ⟨rfl, rfl⟩) | (go_at_call 158; refine (callS (l01Bed_any _ _) HC1.out).mono ?_; rintro e w' ⟨rfl, rfl⟩) | (go_at_call 47; refine (callS (l00In_any _ _ _ _) HC2.out).mono ?_; rintro e w' ⟨rfl, rfl⟩) | (go_at_call 159; refine (callS (l07Dir_any _ _) HC3.out).mono ?_; rintro e w' ⟨rfl, rfl⟩))
    go_ret
    exact ⟨ret_bool HB.out.symm, (by repeat (first | exact Chg.refl _ _ | apply Chg.drew | apply Chg.drewN | refine Chg.alloc ?_ _))⟩
  | true =>
  have HC3 := Lib.hid h3
  clear h3
  go_enter Try.func104, Try.ntmps104
  go_wp2_with (first | (go_at_call 119; refine (callS (l07Yarn_any _ _) HC0.out).mono ?_; rintro e w' ⟨rfl, rfl⟩) | (go_at_call 158; refine (callS (l01Bed_any _ _) HC1.out).mono ?_; rintro e w' ⟨rfl, rfl⟩) | (go_at_call 47; refine (callS (l00In_any _ _ _ _) HC2.out).mono ?_; rintro e w' ⟨rfl, rfl⟩) | (go_at_call 159; refine (callS (l07Dir_any _ _) HC3.out).mono ?_; rintro e w' ⟨rfl, rfl⟩))
  clear f0 f1 f2 f3 f4 f5
  go_loopw [7] (fun n wr => ∃ j : Nat, j ≤ ps.length ∧ n = .int .i64 j ∧ Hid (apartB (ps.take j) i = true) ∧ Hid (Up w wr)) (fun n _ => ps.length - (intOf n).toNat)
  case atStart => exact ⟨0, by omega, rfl, apart_start _ _, (by repeat (first | exact Chg.refl _ _ | apply Chg.drew | apply Chg.drewN | refine Chg.alloc ?_ _))⟩
  case round =>
    obtain ⟨j, hj, rfl, ha, hu⟩ := hrel
    have f0 := Chg.cell hu.out H0.out id
    have f5 := Chg.cell hu.out H5.out id
    by_cases hlt : j < ps.length
    · obtain ⟨b1, o1, rfl, -, hc⟩ := (HI.out.up hu.out).ix hlt
      have f1 := hc j hlt
      rw [ix_eq hlt] at f1
      clear hc
      by_cases hr : 0 ≤ ps[j] ∧ ps[j] < i
      rotate_left
      · have HR := Lib.hid (inB_no (n := ps[j]) (lo := 0) (hi := (i : Int) - 1) (by omega))
        have HB := Lib.hid (infoB_ap (x := ⟨5, car, bed, at_, dir, ps⟩) (wd := wd) (i := i) (apart_rng_at hlt hr))
        clear hr
        go_wp2
        have g1 := up_cell f1
        have g5 := up_cell f5
        refine wp_region_up (by kernel_rfl) (by kernel_rfl) ?_
        repeat (go_big_quiet_step ((first | (go_at_call 47; exact calls_up_same (callS (l00In_any _ _ _ _) HR.out)))))
        refine wpQuiet_nil ?_
        rintro w1 ⟨u0, hu0⟩
        have gu := hu0 ▸ u0.up
        clear hu0 u0 g1 g5
        have U1 := Lib.hid (Chg.trans hu.out (Chg.trans (by repeat (first | exact Chg.refl _ _ | apply Chg.drew | apply Chg.drewN | refine Chg.alloc ?_ _)) gu))
        clear gu
        go_wp2
        go_ret
        exact ⟨ret_bool HB.out.symm, Chg.trans U1.out (by repeat (first | exact Chg.refl _ _ | apply Chg.drew | apply Chg.drewN | refine Chg.alloc ?_ _))⟩
      have HR := Lib.hid (inB_yes (n := ps[j]) (lo := 0) (hi := (i : Int) - 1) (by omega))
      have HR2 := Lib.hid hr
      clear hr
      by_cases hm : ps[j] ∈ ps.take j
      · have HM := Lib.hid (decide_eq_true hm)
        have HB := Lib.hid (infoB_ap (x := ⟨5, car, bed, at_, dir, ps⟩) (wd := wd) (i := i) (apart_mem_at hlt hm))
        have HHAS : ∀ u : UpOf wr, Calls Try.prog 107 #[.slice (some ⟨b1, o1, none⟩) j c, .int .i64 ps[j]] u.wd fun e w'' => e = .returned (.bool true) ∧ ∃ u' : UpOf wr, w'' = u'.wd := fun u => calls_up_same (callS (has_any _ L _ (ps.take j) _ (((HI.out.up hu.out).up u.up).took (by omega) rfl)) HM.out)
        clear hm
        go_wp2
        have g1 := up_cell f1
        have g5 := up_cell f5
        refine wp_region_up (by kernel_rfl) (by kernel_rfl) ?_
        repeat (go_big_quiet_step ((first | (go_at_call 47; exact calls_up_same (callS (l00In_any _ _ _ _) HR.out)) | (go_at_call 107; exact HHAS _))))
        refine wpQuiet_nil ?_
        rintro w1 ⟨u0, hu0⟩
        have gu := hu0 ▸ u0.up
        clear hu0 u0 g1 g5
        have U1 := Lib.hid (Chg.trans hu.out (Chg.trans (by repeat (first | exact Chg.refl _ _ | apply Chg.drew | apply Chg.drewN | refine Chg.alloc ?_ _)) gu))
        clear gu
        go_wp2
        go_ret
        exact ⟨ret_bool HB.out.symm, Chg.trans U1.out (by repeat (first | exact Chg.refl _ _ | apply Chg.drew | apply Chg.drewN | refine Chg.alloc ?_ _))⟩
      · have HM := Lib.hid (decide_eq_false hm)
        have HN := Lib.hid (apart_next hlt ha.out HR2.out hm)
        have HHAS : ∀ u : UpOf wr, Calls Try.prog 107 #[.slice (some ⟨b1, o1, none⟩) j c, .int .i64 ps[j]] u.wd fun e w'' => e = .returned (.bool false) ∧ ∃ u' : UpOf wr, w'' = u'.wd := fun u => calls_up_same (callS (has_any _ L _ (ps.take j) _ (((HI.out.up hu.out).up u.up).took (by omega) rfl)) HM.out)
        clear hm
        go_wp2
        have g1 := up_cell f1
        have g5 := up_cell f5
        refine wp_region_up (by kernel_rfl) (by kernel_rfl) ?_
        repeat (go_big_quiet_step ((first | (go_at_call 47; exact calls_up_same (callS (l00In_any _ _ _ _) HR.out)) | (go_at_call 107; exact HHAS _))))
        refine wpQuiet_nil ?_
        rintro w1 ⟨u0, hu0⟩
        have gu := hu0 ▸ u0.up
        clear hu0 u0 g1 g5
        have U1 := Lib.hid (Chg.trans hu.out (Chg.trans (by repeat (first | exact Chg.refl _ _ | apply Chg.drew | apply Chg.drewN | refine Chg.alloc ?_ _)) gu))
        clear gu
        go_wp2
        go_roundw
        case rel => exact ⟨j + 1, by omega, by go_num, HN.out, U1⟩
        case measure => first | (simp [intOf]; done) | (simp [intOf]; omega)
    · obtain rfl : j = ps.length := by omega
      have HA := Lib.hid (apart_all ha.out)
      clear hlt
      by_cases h4 : ps.length ≤ 4
      rotate_left
      · have HB := Lib.hid (infoB_len (x := ⟨5, car, bed, at_, dir, ps⟩) (wd := wd) (i := i) h4)
        have d4 : decide ((ps.length : Int) ≤ 4) = false := decide_eq_false (by omega)
        clear h4
        go_wp2
        go_ret
        exact ⟨ret_bool HB.out.symm, Chg.trans hu.out (by repeat (first | exact Chg.refl _ _ | apply Chg.drew | apply Chg.drewN | refine Chg.alloc ?_ _))⟩
      have d4 : decide ((ps.length : Int) ≤ 4) = true := decide_eq_true (by omega)
      have H4 := Lib.hid h4
      clear h4
      by_cases h0 : ps.length = 0
      · have e0 : ((ps.length : Int) == 0) = true := by rw [beq_iff_eq]; omega
        have e1 : decide (0 < ps.length) = false := decide_eq_false (by omega)
        have HB := Lib.hid (infoB_split (x := ⟨5, car, bed, at_, dir, ps⟩) (wd := wd) (i := i) (show ¬ 0 < ps.length by omega) rfl)
        clear h0
        go_wp2
        go_ret
        exact ⟨ret_bool HB.out.symm, Chg.trans hu.out (by repeat (first | exact Chg.refl _ _ | apply Chg.drew | apply Chg.drewN | refine Chg.alloc ?_ _))⟩
      · have e0 : ((ps.length : Int) == 0) = false := by rw [beq_eq_false_iff_ne]; omega
        have e1 : decide (0 < ps.length) = true := decide_eq_true (by omega)
        have h1 : 0 < ps.length := by omega
        have HB := Lib.hid (infoB_yes (x := ⟨5, car, bed, at_, dir, ps⟩) (wd := wd) (i := i) rfl HC0.out HC1.out HC2.out HC3.out H4.out HA.out (.inr (by simp)) (.inl h1))
        clear h0 h1
        go_wp2
        go_ret
        exact ⟨ret_bool HB.out.symm, Chg.trans hu.out (by repeat (first | exact Chg.refl _ _ | apply Chg.drew | apply Chg.drewN | refine Chg.alloc ?_ _))⟩
theorem l07Info_any (w : World) (L : Nat → Prop) (bi oi : Nat) (wd : Int) (hwd : 1 ≤ wd ∧ wd ≤ 24) (i : Nat) (hi : i ≤ 300) (x : InfM) (A : Option Addr) (c : Nat) (hlc : x.ps.length ≤ c) (hcm : c ≤ 9223372036854775807) (h : Ints w L (.slice A x.ps.length c) x.ps)
    (f0 : w.cell? ⟨bi, oi, none⟩ = some (.int .i64 x.kd)) (f1 : w.cell? ⟨bi, oi + 1, none⟩ = some (.int .i64 x.car)) (f2 : w.cell? ⟨bi, oi + 2, none⟩ = some (.int .i64 x.bed)) (f3 : w.cell? ⟨bi, oi + 3, none⟩ = some (.int .i64 x.at_)) (f4 : w.cell? ⟨bi, oi + 4, none⟩ = some (.int .i64 x.dir)) (f5 : w.cell? ⟨bi, oi + 5, none⟩ = some (.slice A x.ps.length c)) :
    Calls Try.prog 104 #[.pointer (some ⟨bi, oi, none⟩), .int .i64 wd, .int .i64 i] w fun e w' => e = .returned (.bool (infoB x wd i)) ∧ Up w w' := by
  obtain ⟨kd, car, bed, at_, dir, ps⟩ := x
  cases hk : kdB kd with
  | false => exact l07Info_0 w L bi oi wd hwd i hi kd car bed at_ dir ps A c hlc hcm h hk f0 f1 f2 f3 f4 f5
  | true =>
    rcases of_decide_eq_true hk with rfl | rfl | rfl
    · exact l07Info_1 w L bi oi wd hwd i hi car bed at_ dir ps A c hlc hcm h f0 f1 f2 f3 f4 f5
    · exact l07Info_2 w L bi oi wd hwd i hi car bed at_ dir ps A c hlc hcm h f0 f1 f2 f3 f4 f5
    · exact l07Info_5 w L bi oi wd hwd i hi car bed at_ dir ps A c hlc hcm h f0 f1 f2 f3 f4 f5
theorem l00Rises_any (w : World) (S : Nat → Prop) (v : Value) (xs : List Int) (lo hi : Int) (h : Ints w S v xs) :
    Calls Try.prog 106 #[v, .int .i64 lo, .int .i64 hi] w fun e w' => e = .returned (.bool (riseIn xs lo hi)) ∧ Up w w' := by
  obtain ⟨A, c, rfl, hlc, hcm, -⟩ := h.shape
  have H := Lib.hid h
  clear h
  go_enter Try.func106, Try.ntmps106
  go_wp2
  go_loopw [7] (fun n wr => ∃ j : Nat, j ≤ xs.length ∧ n = .int .i64 j ∧ Hid (Up w wr) ∧ Hid (upw xs j) ∧ Hid (inTo xs lo hi j)) (fun n _ => xs.length - (intOf n).toNat)
  case atStart => exact ⟨0, by omega, rfl, (by repeat (first | exact Chg.refl _ _ | apply Chg.drew | apply Chg.drewN | refine Chg.alloc ?_ _)), upw.start _, Lib.hid fun i hi h => absurd h (Nat.not_lt_zero _)⟩
  case round =>
    obtain ⟨j, hj, rfl, hu, hup, hin⟩ := hrel
    by_cases hlt : j < xs.length
    · obtain ⟨b1, o1, rfl, -, hc⟩ := (H.out.up hu.out).ix hlt
      have f1 := hc j hlt
      rw [ix_eq hlt] at f1
      by_cases hr : lo ≤ xs[j] ∧ xs[j] ≤ hi
      rotate_left
      · have HR := Lib.hid (inB_no (n := xs[j]) (lo := lo) (hi := hi) (by omega))
        have HB := Lib.hid (riseIn_rng hlt hr)
        clear hr hc
        go_wp2
        have g1 := up_cell f1
        refine wp_region_up (by kernel_rfl) (by kernel_rfl) ?_
        repeat (go_big_quiet_step ((first | (go_at_call 47; exact calls_up_same (callS (l00In_any _ _ _ _) HR.out)))))
        refine wpQuiet_nil ?_
        rintro w1 ⟨u0, hu0⟩
        have gu := hu0 ▸ u0.up
        clear hu0 u0 g1
        have U1 := Lib.hid (Chg.trans hu.out (Chg.trans (by repeat (first | exact Chg.refl _ _ | apply Chg.drew | apply Chg.drewN | refine Chg.alloc ?_ _)) gu))
        clear gu
        go_wp2
        go_ret
        exact ⟨ret_bool HB.out.symm, Chg.trans U1.out (by repeat (first | exact Chg.refl _ _ | apply Chg.drew | apply Chg.drewN | refine Chg.alloc ?_ _))⟩
      have HR := Lib.hid (inB_yes (n := xs[j]) (lo := lo) (hi := hi) hr)
      have HNI := Lib.hid (hin.out.next hlt hr)
      clear hr
      by_cases h0 : j = 0
      · subst h0
        have HN := Lib.hid (hup.out.next hlt (fun h => absurd h (Nat.lt_irrefl _)))
        rw [Nat.add_zero] at f1
        clear hc
        go_wp2
        have g1 := up_cell f1
        refine wp_region_up (by kernel_rfl) (by kernel_rfl) ?_
        repeat (go_big_quiet_step ((first | (go_at_call 47; exact calls_up_same (callS (l00In_any _ _ _ _) HR.out)))))
        refine wpQuiet_nil ?_
        rintro w1 ⟨u0, hu0⟩
        have gu := hu0 ▸ u0.up
        clear hu0 u0 g1
        have U1 := Lib.hid (Chg.trans hu.out (Chg.trans (by repeat (first | exact Chg.refl _ _ | apply Chg.drew | apply Chg.drewN | refine Chg.alloc ?_ _)) gu))
        clear gu
        go_wp2
        go_roundw
        case rel => exact ⟨0 + 1, by omega, by go_num, U1, HN, HNI⟩
        case measure => first | (simp [intOf]; done) | (simp [intOf]; omega)
      obtain ⟨m, rfl⟩ : ∃ m, j = m + 1 := ⟨j - 1, by omega⟩
      have hm : m < xs.length := by omega
      have f2 := hc m hm
      rw [ix_eq hm] at f2
      clear hc h0
      have t0 : decide ((0 : Int) < (m : Int) + 1) = true := decide_eq_true (by omega)
      have w1 : IntKind.i64.wrap ((m : Int) + 1 - 1) = m := by rw [show (m : Int) + 1 - 1 = m by omega]; exact IntWalk.i64_in _ (by omega)
      have i1 : (m : Int) + 1 < (xs.length : Int) := by omega
      have i2 : (m : Int) < (xs.length : Int) := by omega
      by_cases hx : xs[m + 1] ≤ xs[m]
      · have HB := Lib.hid (riseIn_no (lo := lo) (hi := hi) (rise_no hlt (by omega) (by simpa using hx)))
        have t1 : decide (xs[m + 1] ≤ xs[m]) = true := decide_eq_true hx
        have t2 : decide (xs[m] ≥ xs[m + 1]) = true := decide_eq_true hx
        clear hx
        go_wp2
        have g1 := up_cell f1
        have g2 := up_cell f2
        refine wp_region_up (by kernel_rfl) (by kernel_rfl) ?_
        repeat (go_big_quiet_step ((first | (go_at_call 47; exact calls_up_same (callS (l00In_any _ _ _ _) HR.out)))))
        refine wpQuiet_nil ?_
        rintro w1 ⟨u0, hu0⟩
        have gu := hu0 ▸ u0.up
        clear hu0 u0 g1 g2
        have U1 := Lib.hid (Chg.trans hu.out (Chg.trans (by repeat (first | exact Chg.refl _ _ | apply Chg.drew | apply Chg.drewN | refine Chg.alloc ?_ _)) gu))
        clear gu
        go_wp2
        go_ret
        exact ⟨ret_bool HB.out.symm, Chg.trans U1.out (by repeat (first | exact Chg.refl _ _ | apply Chg.drew | apply Chg.drewN | refine Chg.alloc ?_ _))⟩
      · have HN := Lib.hid (hup.out.next hlt (fun _ => by simpa using Int.not_le.1 hx))
        have t1 : decide (xs[m + 1] ≤ xs[m]) = false := decide_eq_false hx
        have t2 : decide (xs[m] ≥ xs[m + 1]) = false := decide_eq_false hx
        clear hx
        go_wp2
        have g1 := up_cell f1
        have g2 := up_cell f2
        refine wp_region_up (by kernel_rfl) (by kernel_rfl) ?_
        repeat (go_big_quiet_step ((first | (go_at_call 47; exact calls_up_same (callS (l00In_any _ _ _ _) HR.out)))))
        refine wpQuiet_nil ?_
        rintro w1 ⟨u0, hu0⟩
        have gu := hu0 ▸ u0.up
        clear hu0 u0 g1 g2
        have U1 := Lib.hid (Chg.trans hu.out (Chg.trans (by repeat (first | exact Chg.refl _ _ | apply Chg.drew | apply Chg.drewN | refine Chg.alloc ?_ _)) gu))
        clear gu
        go_wp2
        go_roundw
        case rel => exact ⟨m + 1 + 1, by omega, by go_num, U1, HN, HNI⟩
        case measure => first | (simp [intOf]; done) | (simp [intOf]; omega)
    · obtain rfl : j = xs.length := by omega
      have HB := Lib.hid (riseIn_yes hup.out.all hin.out)
      go_wp2
      go_ret
      exact ⟨ret_bool HB.out.symm, Chg.trans hu.out (by repeat (first | exact Chg.refl _ _ | apply Chg.drew | apply Chg.drewN | refine Chg.alloc ?_ _))⟩
end Go.Proofs.Ytchfjglofmphfaa
