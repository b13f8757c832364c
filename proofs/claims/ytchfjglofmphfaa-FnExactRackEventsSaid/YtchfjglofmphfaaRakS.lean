/- Racking: the reference's steps. No condition. -/
import Derived.Test.YtchfjglofmphfaaRB7
import Derived.Test.YtchfjglofmphfaaMacT
set_option linter.unusedSimpArgs false
set_option linter.unusedVariables false
set_option maxRecDepth 100000
set_option maxHeartbeats 400000
namespace Go.Proofs.Ytchfjglofmphfaa
open Go.ChangeShapes Go.WideShapes Go.ChangeAt Go.RowKit
theorem preL_min {xss : List (List Int)} {j X : Nat} (h : j < xss.length) : preL xss (min (j + 1) X) = preL xss (min j X) + if j < X then xss[j].length else 0 := by
  by_cases c : j < X
  · rw [if_pos c, Nat.min_eq_left (by omega), Nat.min_eq_left (by omega), preL_succ h]
  · rw [if_neg c, Nat.min_eq_right (by omega), Nat.min_eq_right (by omega), Nat.add_zero]
theorem preL_top {xss : List (List Int)} (X : Nat) : preL xss (min xss.length X) = preL xss X := by
  by_cases c : X ≤ xss.length
  · rw [Nat.min_eq_right c]
  · rw [Nat.min_eq_left (by omega), preL_over (show xss.length ≤ X by omega)]
theorem sPlace_front (w : World) (at_ r x : Int) (hx : x = at_) (h : -10 ≤ at_ ∧ at_ ≤ 100) (hr : -10 ≤ r ∧ r ≤ 10) : Calls Try.prog 161 #[.agg #[.int .i64 1, .int .i64 at_], .int .i64 r] w fun e w' => e = .returned (.int .i64 x) ∧ Up w w' := by
  subst hx
  go_enter Try.func161, Try.ntmps161
  go_wp2
  go_ret
  exact ⟨rfl, (by repeat (first | exact Chg.refl _ _ | apply Chg.drew | apply Chg.drewN | refine Chg.alloc ?_ _))⟩
theorem sPlace_back (w : World) (at_ r x : Int) (hx : x = at_ + r) (h : -10 ≤ at_ ∧ at_ ≤ 100) (hr : -10 ≤ r ∧ r ≤ 10) : Calls Try.prog 161 #[.agg #[.int .i64 2, .int .i64 at_], .int .i64 r] w fun e w' => e = .returned (.int .i64 x) ∧ Up w w' := by
  subst hx
  go_enter Try.func161, Try.ntmps161
  go_wp2
  go_ret
  exact ⟨rfl, (by repeat (first | exact Chg.refl _ _ | apply Chg.drew | apply Chg.drewN | refine Chg.alloc ?_ _))⟩
theorem Before_front (w : World) (M H L : Nat → Prop) (bm : Nat) (p : MacM) (hp : FewM p) (r : Int) (hr : -10 ≤ r ∧ r ≤ 10) (A0 A1 : Option Addr) (c0 c1 : Nat) (q0 : w.cell? ⟨bm, 0, none⟩ = some (.int .i64 p.wd)) (q1 : w.cell? ⟨bm, 1, none⟩ = some (.int .i64 r)) (q2 : w.cell? ⟨bm, 2, none⟩ = some (.slice A0 p.fr.length c0)) (q3 : w.cell? ⟨bm, 3, none⟩ = some (.slice A1 p.bk.length c1)) (h0 : IntSSV w M H L (.slice A0 p.fr.length c0) p.fr) (h1 : IntSSV w M H L (.slice A1 p.bk.length c1) p.bk) (at_ : Int) (hat : 0 ≤ at_ ∧ at_ < p.fr.length) :
    Calls Try.prog 109 #[.pointer (some ⟨bm, 0, none⟩), .agg #[.int .i64 1, .int .i64 at_]] w fun e w' => e = .returned (.int .i64 (befM p at_ (at_ - r))) ∧ Up w w' := by
  have H0 := Lib.hid h0
  have H1 := Lib.hid h1
  have Q0 := Lib.hid q0
  have Q1 := Lib.hid q1
  have Q2 := Lib.hid q2
  have Q3 := Lib.hid q3
  have HP := Lib.hid hp
  have hn := hp.n1
  have HR := Lib.hid hr
  have HAT := Lib.hid hat
  clear h0 h1
  have b0 := (show (w.alloc (.cells #[.int .i64 1, .int .i64 at_] 102)).cell? ⟨w.heap.size, 0, none⟩ = some (.int .i64 1) from cell_new _ _ _ _)
  have b1 := (show (w.alloc (.cells #[.int .i64 1, .int .i64 at_] 102)).cell? ⟨w.heap.size, 1, none⟩ = some (.int .i64 at_) from cell_new _ _ _ _)
  have B0 := Lib.hid b0
  have q1' := Chg.cell ((Chg.refl Nowhere w).alloc (.cells #[.int .i64 1, .int .i64 at_] 102)) q1 id
  obtain ⟨x, hx⟩ : ∃ x, x = at_ := ⟨_, rfl⟩
  have HX := Lib.hid hx
  have HPL : ∀ u : UpOf (w.alloc (.cells #[.int .i64 1, .int .i64 at_] 102)), Calls Try.prog 161 #[.agg #[.int .i64 1, .int .i64 at_], .int .i64 r] u.wd fun e w'' => e = .returned (.int .i64 x) ∧ ∃ u' : UpOf (w.alloc (.cells #[.int .i64 1, .int .i64 at_] 102)), w'' = u'.wd := fun u => calls_up (sPlace_front u.wd at_ r x hx (by omega) hr)
  clear hx
  clear q0 q2 q3
  go_enter Try.func109, Try.ntmps109
  go_wp2
  have g0 := up_cell b0
  have g1 := up_cell b1
  have g2 := up_cell q1'
  refine wp_region_up (by kernel_rfl) (by kernel_rfl) ?_
  repeat (go_big_quiet_step ((first | (go_at_call 161; exact HPL _))))
  refine wpQuiet_nil ?_
  rintro w1 ⟨u0, hu0⟩
  have gu := hu0 ▸ u0.up
  clear hu0 u0 g0 g1 g2 HPL b0 b1 q1' q1
  have UB := Lib.hid (show Up (w.alloc (.cells #[.int .i64 1, .int .i64 at_] 102)) w1 from Chg.trans (by repeat (first | exact Chg.refl _ _ | apply Chg.drew | apply Chg.drewN | refine Chg.alloc ?_ _)) gu)
  have U1 := Lib.hid (Chg.trans ((Chg.refl Nowhere w).alloc (.cells #[.int .i64 1, .int .i64 at_] 102)) UB.out)
  clear gu
  go_wp2
  go_loopw [6, 7] (fun s i wr => ∃ j : Nat, j ≤ p.fr.length ∧ i = .int .i64 j ∧ s = .int .i64 ((preL p.fr (min j x.toNat) : Int) + preL p.bk (min j (x - r).toNat)) ∧ Hid (Up w1 wr)) (fun _ i _ => p.fr.length - (intOf i).toNat)
  case atStart => exact ⟨0, by omega, rfl, by simp [preL_zero], Chg.refl _ _⟩
  case round =>
    obtain ⟨j, hj, rfl, rfl, hu⟩ := hrel
    have U2 := Lib.hid (Chg.trans U1.out hu.out)
    have q0 := Chg.cell U2.out Q0.out id
    have q1 := Chg.cell U2.out Q1.out id
    have q2 := Chg.cell U2.out Q2.out id
    have q3 := Chg.cell U2.out Q3.out id
    have b0 := Chg.cell (Chg.trans UB.out hu.out) B0.out id
    rw [HP.out.wd] at q0
    by_cases hlt : j < p.fr.length
    · have hjb : j < p.bk.length := by have := HP.out.n2; omega
      obtain ⟨b3, o3, c3', vs3, he3, -, -, -, hE3, hc3⟩ := (H1.out.up U2.out).at_ hjb
      obtain ⟨rfl, rfl⟩ : A1 = some ⟨b3, o3, none⟩ ∧ c1 = c3' := by simpa using he3
      obtain ⟨A7, k7, rfl, -, -, -⟩ := hE3.val
      have e1 := (hc3 0 _ rfl).1
      simp only [Nat.mul_one, Nat.add_zero] at e1
      clear hc3 he3 hE3
      obtain ⟨b4, o4, c4', vs4, he4, -, -, -, hE4, hc4⟩ := (H0.out.up U2.out).at_ hlt
      obtain ⟨rfl, rfl⟩ : A0 = some ⟨b4, o4, none⟩ ∧ c0 = c4' := by simpa using he4
      obtain ⟨A8, k8, rfl, -, -, -⟩ := hE4.val
      have e2 := (hc4 0 _ rfl).1
      simp only [Nat.mul_one, Nat.add_zero] at e2
      clear hc4 he4 hE4
      have HF := Lib.hid (preL_min (X := x.toNat) hlt)
      have HB := Lib.hid (preL_min (X := (x - r).toNat) hjb)
      have hlf := preL_le HP.out.f (min j x.toNat)
      have hlb := preL_le HP.out.b (min j (x - r).toNat)
      have hbb := HP.out.n2
      obtain ⟨sf, hsf⟩ : ∃ s, s = preL p.fr (min j x.toNat) := ⟨_, rfl⟩
      obtain ⟨sb, hsb⟩ : ∃ s, s = preL p.bk (min j (x - r).toNat) := ⟨_, rfl⟩
      rw [← hsf] at HF hlf ⊢
      rw [← hsb] at HB hlb ⊢
      have HSF := Lib.hid hsf
      have HSB := Lib.hid hsb
      clear hsf hsb
      have f4 := HP.out.f j hlt
      have b4' := HP.out.b j hjb
      have hr2 := HR.out
      have hat2 := HAT.out
      have hx2 := HX.out
      have HX2 : Hid (-10 ≤ x ∧ x ≤ 40) := Lib.hid (by omega)
      clear hx2
      have hxb := HX2.out
      rcases Int.lt_trichotomy (j : Int) x with hc | hc | hc
      · skip
        have d1 : decide ((j : Int) < x) = true := decide_eq_true hc
        have HFV := Lib.hid (HF.out.trans (by rw [if_pos (by omega)]))
        by_cases hd : (j : Int) + r < x
        · have d2 : decide ((j : Int) + r < x) = true := decide_eq_true hd
          have HBV := Lib.hid (HB.out.trans (by rw [if_pos (by omega)]))
          clear hd hc
          go_wp2
          go_roundw
          case rel => exact ⟨j + 1, by omega, by go_num, by rw [HFV.out, HBV.out]; simp only [Value.int.injEq, true_and]; omega, hu⟩
          case measure => first | (simp [intOf]; done) | (simp [intOf]; omega)
        · have d2 : decide ((j : Int) + r < x) = false := decide_eq_false hd
          have HBV := Lib.hid (HB.out.trans (by rw [if_neg (by omega)]))
          clear hd hc
          go_wp2
          go_roundw
          case rel => exact ⟨j + 1, by omega, by go_num, by rw [HFV.out, HBV.out]; simp only [Value.int.injEq, true_and]; omega, hu⟩
          case measure => first | (simp [intOf]; done) | (simp [intOf]; omega)
      · skip
        have d1 : decide ((j : Int) < x) = false := decide_eq_false (by omega)
        have d3 : ((j : Int) == x) = true := by simp [hc]
        have HFV := Lib.hid (HF.out.trans (by rw [if_neg (by omega)]))
        by_cases hd : (j : Int) + r < x
        · have d2 : decide ((j : Int) + r < x) = true := decide_eq_true hd
          have HBV := Lib.hid (HB.out.trans (by rw [if_pos (by omega)]))
          clear hd hc
          go_wp2
          go_roundw
          case rel => exact ⟨j + 1, by omega, by go_num, by rw [HFV.out, HBV.out]; simp only [Value.int.injEq, true_and]; omega, hu⟩
          case measure => first | (simp [intOf]; done) | (simp [intOf]; omega)
        · have d2 : decide ((j : Int) + r < x) = false := decide_eq_false hd
          have HBV := Lib.hid (HB.out.trans (by rw [if_neg (by omega)]))
          clear hd hc
          go_wp2
          go_roundw
          case rel => exact ⟨j + 1, by omega, by go_num, by rw [HFV.out, HBV.out]; simp only [Value.int.injEq, true_and]; omega, hu⟩
          case measure => first | (simp [intOf]; done) | (simp [intOf]; omega)
      · skip
        have d1 : decide ((j : Int) < x) = false := decide_eq_false (by omega)
        have d3 : ((j : Int) == x) = false := by rw [beq_eq_false_iff_ne]; omega
        have HFV := Lib.hid (HF.out.trans (by rw [if_neg (by omega)]))
        by_cases hd : (j : Int) + r < x
        · have d2 : decide ((j : Int) + r < x) = true := decide_eq_true hd
          have HBV := Lib.hid (HB.out.trans (by rw [if_pos (by omega)]))
          clear hd hc
          go_wp2
          go_roundw
          case rel => exact ⟨j + 1, by omega, by go_num, by rw [HFV.out, HBV.out]; simp only [Value.int.injEq, true_and]; omega, hu⟩
          case measure => first | (simp [intOf]; done) | (simp [intOf]; omega)
        · have d2 : decide ((j : Int) + r < x) = false := decide_eq_false hd
          have HBV := Lib.hid (HB.out.trans (by rw [if_neg (by omega)]))
          clear hd hc
          go_wp2
          go_roundw
          case rel => exact ⟨j + 1, by omega, by go_num, by rw [HFV.out, HBV.out]; simp only [Value.int.injEq, true_and]; omega, hu⟩
          case measure => first | (simp [intOf]; done) | (simp [intOf]; omega)
    · obtain rfl : j = p.fr.length := by omega
      have HRES := Lib.hid (show (preL p.fr (min p.fr.length x.toNat) : Int) + preL p.bk (min p.fr.length (x - r).toNat) = befM p at_ (at_ - r) by
        rw [preL_top, ← HP.out.n2, preL_top, HX.out]
        rfl)
      go_wp2
      go_ret
      exact ⟨ret_int HRES.out, U2.out⟩
theorem Before_back (w : World) (M H L : Nat → Prop) (bm : Nat) (p : MacM) (hp : FewM p) (r : Int) (hr : -10 ≤ r ∧ r ≤ 10) (A0 A1 : Option Addr) (c0 c1 : Nat) (q0 : w.cell? ⟨bm, 0, none⟩ = some (.int .i64 p.wd)) (q1 : w.cell? ⟨bm, 1, none⟩ = some (.int .i64 r)) (q2 : w.cell? ⟨bm, 2, none⟩ = some (.slice A0 p.fr.length c0)) (q3 : w.cell? ⟨bm, 3, none⟩ = some (.slice A1 p.bk.length c1)) (h0 : IntSSV w M H L (.slice A0 p.fr.length c0) p.fr) (h1 : IntSSV w M H L (.slice A1 p.bk.length c1) p.bk) (at_ : Int) (hat : 0 ≤ at_ ∧ at_ < p.fr.length) :
    Calls Try.prog 109 #[.pointer (some ⟨bm, 0, none⟩), .agg #[.int .i64 2, .int .i64 at_]] w fun e w' => e = .returned (.int .i64 (befM p (at_ + r + 1) at_)) ∧ Up w w' := by
  have H0 := Lib.hid h0
  have H1 := Lib.hid h1
  have Q0 := Lib.hid q0
  have Q1 := Lib.hid q1
  have Q2 := Lib.hid q2
  have Q3 := Lib.hid q3
  have HP := Lib.hid hp
  have hn := hp.n1
  have HR := Lib.hid hr
  have HAT := Lib.hid hat
  clear h0 h1
  have b0 := (show (w.alloc (.cells #[.int .i64 2, .int .i64 at_] 102)).cell? ⟨w.heap.size, 0, none⟩ = some (.int .i64 2) from cell_new _ _ _ _)
  have b1 := (show (w.alloc (.cells #[.int .i64 2, .int .i64 at_] 102)).cell? ⟨w.heap.size, 1, none⟩ = some (.int .i64 at_) from cell_new _ _ _ _)
  have B0 := Lib.hid b0
  have q1' := Chg.cell ((Chg.refl Nowhere w).alloc (.cells #[.int .i64 2, .int .i64 at_] 102)) q1 id
  obtain ⟨x, hx⟩ : ∃ x, x = at_ + r := ⟨_, rfl⟩
  have HX := Lib.hid hx
  have HPL : ∀ u : UpOf (w.alloc (.cells #[.int .i64 2, .int .i64 at_] 102)), Calls Try.prog 161 #[.agg #[.int .i64 2, .int .i64 at_], .int .i64 r] u.wd fun e w'' => e = .returned (.int .i64 x) ∧ ∃ u' : UpOf (w.alloc (.cells #[.int .i64 2, .int .i64 at_] 102)), w'' = u'.wd := fun u => calls_up (sPlace_back u.wd at_ r x hx (by omega) hr)
  clear hx
  clear q0 q2 q3
  go_enter Try.func109, Try.ntmps109
  go_wp2
  have g0 := up_cell b0
  have g1 := up_cell b1
  have g2 := up_cell q1'
  refine wp_region_up (by kernel_rfl) (by kernel_rfl) ?_
  repeat (go_big_quiet_step ((first | (go_at_call 161; exact HPL _))))
  refine wpQuiet_nil ?_
  rintro w1 ⟨u0, hu0⟩
  have gu := hu0 ▸ u0.up
  clear hu0 u0 g0 g1 g2 HPL b0 b1 q1' q1
  have UB := Lib.hid (show Up (w.alloc (.cells #[.int .i64 2, .int .i64 at_] 102)) w1 from Chg.trans (by repeat (first | exact Chg.refl _ _ | apply Chg.drew | apply Chg.drewN | refine Chg.alloc ?_ _)) gu)
  have U1 := Lib.hid (Chg.trans ((Chg.refl Nowhere w).alloc (.cells #[.int .i64 2, .int .i64 at_] 102)) UB.out)
  clear gu
  go_wp2
  go_loopw [6, 7] (fun s i wr => ∃ j : Nat, j ≤ p.fr.length ∧ i = .int .i64 j ∧ s = .int .i64 ((preL p.fr (min j (x + 1).toNat) : Int) + preL p.bk (min j (x - r).toNat)) ∧ Hid (Up w1 wr)) (fun _ i _ => p.fr.length - (intOf i).toNat)
  case atStart => exact ⟨0, by omega, rfl, by simp [preL_zero], Chg.refl _ _⟩
  case round =>
    obtain ⟨j, hj, rfl, rfl, hu⟩ := hrel
    have U2 := Lib.hid (Chg.trans U1.out hu.out)
    have q0 := Chg.cell U2.out Q0.out id
    have q1 := Chg.cell U2.out Q1.out id
    have q2 := Chg.cell U2.out Q2.out id
    have q3 := Chg.cell U2.out Q3.out id
    have b0 := Chg.cell (Chg.trans UB.out hu.out) B0.out id
    rw [HP.out.wd] at q0
    by_cases hlt : j < p.fr.length
    · have hjb : j < p.bk.length := by have := HP.out.n2; omega
      obtain ⟨b3, o3, c3', vs3, he3, -, -, -, hE3, hc3⟩ := (H1.out.up U2.out).at_ hjb
      obtain ⟨rfl, rfl⟩ : A1 = some ⟨b3, o3, none⟩ ∧ c1 = c3' := by simpa using he3
      obtain ⟨A7, k7, rfl, -, -, -⟩ := hE3.val
      have e1 := (hc3 0 _ rfl).1
      simp only [Nat.mul_one, Nat.add_zero] at e1
      clear hc3 he3 hE3
      obtain ⟨b4, o4, c4', vs4, he4, -, -, -, hE4, hc4⟩ := (H0.out.up U2.out).at_ hlt
      obtain ⟨rfl, rfl⟩ : A0 = some ⟨b4, o4, none⟩ ∧ c0 = c4' := by simpa using he4
      obtain ⟨A8, k8, rfl, -, -, -⟩ := hE4.val
      have e2 := (hc4 0 _ rfl).1
      simp only [Nat.mul_one, Nat.add_zero] at e2
      clear hc4 he4 hE4
      have HF := Lib.hid (preL_min (X := (x + 1).toNat) hlt)
      have HB := Lib.hid (preL_min (X := (x - r).toNat) hjb)
      have hlf := preL_le HP.out.f (min j (x + 1).toNat)
      have hlb := preL_le HP.out.b (min j (x - r).toNat)
      have hbb := HP.out.n2
      obtain ⟨sf, hsf⟩ : ∃ s, s = preL p.fr (min j (x + 1).toNat) := ⟨_, rfl⟩
      obtain ⟨sb, hsb⟩ : ∃ s, s = preL p.bk (min j (x - r).toNat) := ⟨_, rfl⟩
      rw [← hsf] at HF hlf ⊢
      rw [← hsb] at HB hlb ⊢
      have HSF := Lib.hid hsf
      have HSB := Lib.hid hsb
      clear hsf hsb
      have f4 := HP.out.f j hlt
      have b4' := HP.out.b j hjb
      have hr2 := HR.out
      have hat2 := HAT.out
      have hx2 := HX.out
      have HX2 : Hid (-10 ≤ x ∧ x ≤ 40) := Lib.hid (by omega)
      clear hx2
      have hxb := HX2.out
      rcases Int.lt_trichotomy (j : Int) x with hc | hc | hc
      · skip
        have d1 : decide ((j : Int) < x) = true := decide_eq_true hc
        have HFV := Lib.hid (HF.out.trans (by rw [if_pos (by omega)]))
        by_cases hd : (j : Int) + r < x
        · have d2 : decide ((j : Int) + r < x) = true := decide_eq_true hd
          have HBV := Lib.hid (HB.out.trans (by rw [if_pos (by omega)]))
          clear hd hc
          go_wp2
          go_roundw
          case rel => exact ⟨j + 1, by omega, by go_num, by rw [HFV.out, HBV.out]; simp only [Value.int.injEq, true_and]; omega, hu⟩
          case measure => first | (simp [intOf]; done) | (simp [intOf]; omega)
        · have d2 : decide ((j : Int) + r < x) = false := decide_eq_false hd
          have HBV := Lib.hid (HB.out.trans (by rw [if_neg (by omega)]))
          clear hd hc
          go_wp2
          go_roundw
          case rel => exact ⟨j + 1, by omega, by go_num, by rw [HFV.out, HBV.out]; simp only [Value.int.injEq, true_and]; omega, hu⟩
          case measure => first | (simp [intOf]; done) | (simp [intOf]; omega)
      · skip
        have d1 : decide ((j : Int) < x) = false := decide_eq_false (by omega)
        have d3 : ((j : Int) == x) = true := by simp [hc]
        have HFV := Lib.hid (HF.out.trans (by rw [if_pos (by omega)]))
        by_cases hd : (j : Int) + r < x
        · have d2 : decide ((j : Int) + r < x) = true := decide_eq_true hd
          have HBV := Lib.hid (HB.out.trans (by rw [if_pos (by omega)]))
          clear hd hc
          go_wp2
          go_roundw
          case rel => exact ⟨j + 1, by omega, by go_num, by rw [HFV.out, HBV.out]; simp only [Value.int.injEq, true_and]; omega, hu⟩
          case measure => first | (simp [intOf]; done) | (simp [intOf]; omega)
        · have d2 : decide ((j : Int) + r < x) = false := decide_eq_false hd
          have HBV := Lib.hid (HB.out.trans (by rw [if_neg (by omega)]))
          clear hd hc
          go_wp2
          go_roundw
          case rel => exact ⟨j + 1, by omega, by go_num, by rw [HFV.out, HBV.out]; simp only [Value.int.injEq, true_and]; omega, hu⟩
          case measure => first | (simp [intOf]; done) | (simp [intOf]; omega)
      · skip
        have d1 : decide ((j : Int) < x) = false := decide_eq_false (by omega)
        have d3 : ((j : Int) == x) = false := by rw [beq_eq_false_iff_ne]; omega
        have HFV := Lib.hid (HF.out.trans (by rw [if_neg (by omega)]))
        by_cases hd : (j : Int) + r < x
        · have d2 : decide ((j : Int) + r < x) = true := decide_eq_true hd
          have HBV := Lib.hid (HB.out.trans (by rw [if_pos (by omega)]))
          clear hd hc
          go_wp2
          go_roundw
          case rel => exact ⟨j + 1, by omega, by go_num, by rw [HFV.out, HBV.out]; simp only [Value.int.injEq, true_and]; omega, hu⟩
          case measure => first | (simp [intOf]; done) | (simp [intOf]; omega)
        · have d2 : decide ((j : Int) + r < x) = false := decide_eq_false hd
          have HBV := Lib.hid (HB.out.trans (by rw [if_neg (by omega)]))
          clear hd hc
          go_wp2
          go_roundw
          case rel => exact ⟨j + 1, by omega, by go_num, by rw [HFV.out, HBV.out]; simp only [Value.int.injEq, true_and]; omega, hu⟩
          case measure => first | (simp [intOf]; done) | (simp [intOf]; omega)
    · obtain rfl : j = p.fr.length := by omega
      have HRES := Lib.hid (show (preL p.fr (min p.fr.length (x + 1).toNat) : Int) + preL p.bk (min p.fr.length (x - r).toNat) = befM p (at_ + r + 1) at_ by
        rw [preL_top, ← HP.out.n2, preL_top, HX.out]
        rw [show at_ + r - r = at_ by omega]; rfl)
      go_wp2
      go_ret
      exact ⟨ret_int HRES.out, U2.out⟩
end Go.Proofs.Ytchfjglofmphfaa
