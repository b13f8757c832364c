/- SameProof on both sides. No condition. -/
import Derived.Test.YtjgdcjhmfbefdaaPrfA
set_option linter.unusedSimpArgs false
set_option linter.unusedVariables false
set_option maxRecDepth 100000
set_option maxHeartbeats 1000000
namespace Go.Proofs.Ytjgdcjhmfbefdaa
open Go.ChangeShapes Go.WideShapes Go.ChangeAt Go.RowKit
theorem callB {f : FuncId} {args : Array Value} {w : World} {b c : Bool} (h : Calls Try.prog f args w fun e w' => e = .returned (.bool b) ∧ Up w w') (hb : b = c) : Calls Try.prog f args w fun e w' => e = .returned (.bool c) ∧ Up w w' := hb ▸ h
theorem eqInts1_any (w : World) (S S' : Nat → Prop) (v u : Value) (xs ys : List Int) (h : Ints w S v xs) (h2 : Ints w S' u ys) :
    Calls Try.prog 134 #[v, u] w fun e w' => e = .returned (.bool (sameL xs ys)) ∧ Up w w' := by
  obtain ⟨A, c, rfl, hlc, hcm, -⟩ := h.shape
  obtain ⟨A2, c2, rfl, hlc2, hcm2, -⟩ := h2.shape
  have H := Lib.hid h
  have H2 := Lib.hid h2
  clear h h2
  go_enter Try.func134, Try.ntmps134
  go_wp2_with fail
  refine (equalInts_any _ _ _ _ _ _ _ H.out H2.out).mono ?_
  rintro e w1 ⟨rfl, g1⟩
  have G := Lib.hid g1
  clear g1
  go_wp2
  go_ret
  exact ⟨rfl, G.out⟩
theorem eqEvs1_any (w : World) (S S' : Nat → Prop) (v u : Value) (xs ys : List EvM) (h : Evs w S v xs) (h2 : Evs w S' u ys) :
    Calls Try.prog 59 #[v, u] w fun e w' => e = .returned (.bool (sameL xs ys)) ∧ Up w w' := by
  obtain ⟨A, c, rfl, hlc, hcm, -⟩ := h.shape
  obtain ⟨A2, c2, rfl, hlc2, hcm2, -⟩ := h2.shape
  have H := Lib.hid h
  have H2 := Lib.hid h2
  clear h h2
  go_enter Try.func59, Try.ntmps59
  go_wp2_with fail
  refine (equalEvs_any _ _ _ _ _ _ _ H.out H2.out).mono ?_
  rintro e w1 ⟨rfl, g1⟩
  have G := Lib.hid g1
  clear g1
  go_wp2
  go_ret
  exact ⟨rfl, G.out⟩
theorem eqfInts_any (w : World) (M H L M' H' L' : Nat → Prop) (v u : Value) (xs ys : List (List Int)) (h : IntSSV w M H L v xs) (h2 : IntSSV w M' H' L' u ys) :
    Calls Try.prog 133 #[v, u, .func (.func 134) #[] #[]] w fun e w' => e = .returned (.bool (sameL xs ys)) ∧ Up w w' := by
  obtain ⟨A, c, rfl, hlc, hcm, -⟩ := h.shape
  obtain ⟨A2, c2, rfl, hlc2, hcm2, -⟩ := h2.shape
  by_cases hl : xs.length = ys.length
  rotate_left
  · have HB := Lib.hid (sameL_len hl)
    have hb : ((xs.length : Int) != ys.length) = true := by simp; omega
    clear hl h h2
    go_enter Try.func133, Try.ntmps133
    go_wp2
    go_ret
    exact ⟨ret_bool HB.out.symm, Chg.refl _ _⟩
  have HL := Lib.hid hl
  have hb : ((xs.length : Int) != ys.length) = false := by simp; omega
  have H := Lib.hid h
  have H2 := Lib.hid h2
  clear h h2 hl
  go_enter Try.func133, Try.ntmps133
  go_wp2
  go_loopw [17] (fun i wr => ∃ (j : Nat), j ≤ xs.length ∧ i = .int .i64 j ∧ Hid (Up w wr) ∧ Hid (AgreeTo xs ys j)) (fun i _ => xs.length - (intOf i).toNat)
  case atStart => exact ⟨0, by omega, rfl, Chg.refl _ _, AgreeTo.start _ _⟩
  case round =>
    obtain ⟨j, hj, rfl, hu, hp⟩ := hrel
    by_cases hlt : j < xs.length
    · have hlt2 : j < ys.length := by have := HL.out; omega
      obtain ⟨b3, o3, c3', vs3, he3, -, -, -, hE3, hc3⟩ := (H.out.up hu.out).at_ hlt
      obtain ⟨rfl, rfl⟩ : A = some ⟨b3, o3, none⟩ ∧ c = c3' := by simpa using he3
      obtain ⟨A3, k3, rfl, hv3, -⟩ := IntsE.val hE3
      have f0 := (hc3 0 _ rfl).1
      simp only [Nat.mul_one, Nat.add_zero] at f0
      have HV3 := Lib.hid hv3
      clear hc3 hv3 he3
      obtain ⟨b5, o5, c5', vs5, he5, -, -, -, hE5, hc5⟩ := (H2.out.up hu.out).at_ hlt2
      obtain ⟨rfl, rfl⟩ : A2 = some ⟨b5, o5, none⟩ ∧ c2 = c5' := by simpa using he5
      obtain ⟨A5, k5, rfl, hv5, -⟩ := IntsE.val hE5
      have e0 := (hc5 0 _ rfl).1
      simp only [Nat.mul_one, Nat.add_zero] at e0
      have HV5 := Lib.hid hv5
      clear hc5 hv5 he5
      by_cases he : xs[j] = ys[j]
      · have HE := Lib.hid he
        have HS : Hid (sameL xs[j] ys[j] = true) := Lib.hid (decide_eq_true he)
        clear he
        go_wp2_with fail
        refine (eqInts1_any _ _ _ _ _ _ _ (HV3.out.up (by repeat (first | exact Chg.refl _ _ | apply Chg.drew | apply Chg.drewN | refine Chg.alloc ?_ _))) (HV5.out.up (by repeat (first | exact Chg.refl _ _ | apply Chg.drew | apply Chg.drewN | refine Chg.alloc ?_ _)))).mono ?_
        rintro e w1 ⟨rfl, g1⟩
        have GX := Lib.hid (show Up wr _ from Chg.trans (by repeat (first | exact Chg.refl _ _ | apply Chg.drew | apply Chg.drewN | refine Chg.alloc ?_ _)) g1)
        clear g1
        rw [HS.out]
        clear f0 e0
        go_wp2
        go_roundw
        case rel => exact ⟨j + 1, by omega, by go_num, Lib.hid (Chg.trans hu.out GX.out), Lib.hid (AgreeTo.next hp.out hlt hlt2 HE.out)⟩
        case measure => first | (simp [intOf]; done) | (simp [intOf]; omega)
      · have HB := Lib.hid (sameL_at hlt hlt2 he)
        have HS : Hid (sameL xs[j] ys[j] = false) := Lib.hid (decide_eq_false he)
        clear he
        go_wp2_with fail
        refine (eqInts1_any _ _ _ _ _ _ _ (HV3.out.up (by repeat (first | exact Chg.refl _ _ | apply Chg.drew | apply Chg.drewN | refine Chg.alloc ?_ _))) (HV5.out.up (by repeat (first | exact Chg.refl _ _ | apply Chg.drew | apply Chg.drewN | refine Chg.alloc ?_ _)))).mono ?_
        rintro e w1 ⟨rfl, g1⟩
        have GX := Lib.hid (show Up wr _ from Chg.trans (by repeat (first | exact Chg.refl _ _ | apply Chg.drew | apply Chg.drewN | refine Chg.alloc ?_ _)) g1)
        clear g1
        rw [HS.out]
        clear f0 e0
        go_wp2
        go_ret
        exact ⟨ret_bool HB.out.symm, Chg.trans hu.out GX.out⟩
    · obtain rfl : j = xs.length := by omega
      have HB := Lib.hid (sameL_all hp.out HL.out)
      go_wp2
      go_ret
      exact ⟨ret_bool HB.out.symm, hu.out⟩
theorem eqfEvs_any (w : World) (M H L M' H' L' : Nat → Prop) (v u : Value) (xs ys : List (List EvM)) (h : EvSV w M H L v xs) (h2 : EvSV w M' H' L' u ys) :
    Calls Try.prog 58 #[v, u, .func (.func 59) #[] #[]] w fun e w' => e = .returned (.bool (sameL xs ys)) ∧ Up w w' := by
  obtain ⟨A, c, rfl, hlc, hcm, -⟩ := h.shape
  obtain ⟨A2, c2, rfl, hlc2, hcm2, -⟩ := h2.shape
  by_cases hl : xs.length = ys.length
  rotate_left
  · have HB := Lib.hid (sameL_len hl)
    have hb : ((xs.length : Int) != ys.length) = true := by simp; omega
    clear hl h h2
    go_enter Try.func58, Try.ntmps58
    go_wp2
    go_ret
    exact ⟨ret_bool HB.out.symm, Chg.refl _ _⟩
  have HL := Lib.hid hl
  have hb : ((xs.length : Int) != ys.length) = false := by simp; omega
  have H := Lib.hid h
  have H2 := Lib.hid h2
  clear h h2 hl
  go_enter Try.func58, Try.ntmps58
  go_wp2
  go_loopw [17] (fun i wr => ∃ (j : Nat), j ≤ xs.length ∧ i = .int .i64 j ∧ Hid (Up w wr) ∧ Hid (AgreeTo xs ys j)) (fun i _ => xs.length - (intOf i).toNat)
  case atStart => exact ⟨0, by omega, rfl, Chg.refl _ _, AgreeTo.start _ _⟩
  case round =>
    obtain ⟨j, hj, rfl, hu, hp⟩ := hrel
    by_cases hlt : j < xs.length
    · have hlt2 : j < ys.length := by have := HL.out; omega
      obtain ⟨b3, o3, c3', vs3, he3, -, -, -, hE3, hc3⟩ := (H.out.up hu.out).at_ hlt
      obtain ⟨rfl, rfl⟩ : A = some ⟨b3, o3, none⟩ ∧ c = c3' := by simpa using he3
      obtain ⟨A3, k3, rfl, hv3, -⟩ := EvsE.val hE3
      have f0 := (hc3 0 _ rfl).1
      simp only [Nat.mul_one, Nat.add_zero] at f0
      have HV3 := Lib.hid hv3
      clear hc3 hv3 he3
      obtain ⟨b5, o5, c5', vs5, he5, -, -, -, hE5, hc5⟩ := (H2.out.up hu.out).at_ hlt2
      obtain ⟨rfl, rfl⟩ : A2 = some ⟨b5, o5, none⟩ ∧ c2 = c5' := by simpa using he5
      obtain ⟨A5, k5, rfl, hv5, -⟩ := EvsE.val hE5
      have e0 := (hc5 0 _ rfl).1
      simp only [Nat.mul_one, Nat.add_zero] at e0
      have HV5 := Lib.hid hv5
      clear hc5 hv5 he5
      by_cases he : xs[j] = ys[j]
      · have HE := Lib.hid he
        have HS : Hid (sameL xs[j] ys[j] = true) := Lib.hid (decide_eq_true he)
        clear he
        go_wp2_with fail
        refine (eqEvs1_any _ _ _ _ _ _ _ (HV3.out.up (by repeat (first | exact Chg.refl _ _ | apply Chg.drew | apply Chg.drewN | refine Chg.alloc ?_ _))) (HV5.out.up (by repeat (first | exact Chg.refl _ _ | apply Chg.drew | apply Chg.drewN | refine Chg.alloc ?_ _)))).mono ?_
        rintro e w1 ⟨rfl, g1⟩
        have GX := Lib.hid (show Up wr _ from Chg.trans (by repeat (first | exact Chg.refl _ _ | apply Chg.drew | apply Chg.drewN | refine Chg.alloc ?_ _)) g1)
        clear g1
        rw [HS.out]
        clear f0 e0
        go_wp2
        go_roundw
        case rel => exact ⟨j + 1, by omega, by go_num, Lib.hid (Chg.trans hu.out GX.out), Lib.hid (AgreeTo.next hp.out hlt hlt2 HE.out)⟩
        case measure => first | (simp [intOf]; done) | (simp [intOf]; omega)
      · have HB := Lib.hid (sameL_at hlt hlt2 he)
        have HS : Hid (sameL xs[j] ys[j] = false) := Lib.hid (decide_eq_false he)
        clear he
        go_wp2_with fail
        refine (eqEvs1_any _ _ _ _ _ _ _ (HV3.out.up (by repeat (first | exact Chg.refl _ _ | apply Chg.drew | apply Chg.drewN | refine Chg.alloc ?_ _))) (HV5.out.up (by repeat (first | exact Chg.refl _ _ | apply Chg.drew | apply Chg.drewN | refine Chg.alloc ?_ _)))).mono ?_
        rintro e w1 ⟨rfl, g1⟩
        have GX := Lib.hid (show Up wr _ from Chg.trans (by repeat (first | exact Chg.refl _ _ | apply Chg.drew | apply Chg.drewN | refine Chg.alloc ?_ _)) g1)
        clear g1
        rw [HS.out]
        clear f0 e0
        go_wp2
        go_ret
        exact ⟨ret_bool HB.out.symm, Chg.trans hu.out GX.out⟩
    · obtain rfl : j = xs.length := by omega
      have HB := Lib.hid (sameL_all hp.out HL.out)
      go_wp2
      go_ret
      exact ⟨ret_bool HB.out.symm, hu.out⟩
theorem pSameNormal_any (w : World) (M H L M' H' L' : Nat → Prop) (v u : Value) (x y : NormM) (hv : NormV w M H L v x) (hu : NormV w M' H' L' u y) :
    Calls Try.prog 57 #[v, u] w fun e w' => e = .returned (.bool (sameN x y)) ∧ Up w w' := by
  obtain ⟨A, c, rfl, h0, h1, h2, h3⟩ := hv
  obtain ⟨B, d, rfl, g0, g1, g2, g3⟩ := hu
  have U0 := Lib.hid (show Up w ((w.alloc (.cells #[.int .i64 x.n, .int .i64 x.p, .slice A x.fs.length c] 100)).alloc (.cells #[.int .i64 y.n, .int .i64 y.p, .slice B y.fs.length d] 100)) from (by repeat (first | exact Chg.refl _ _ | apply Chg.drew | apply Chg.drewN | refine Chg.alloc ?_ _)))
  have H0 := Lib.hid (h0.up U0.out)
  have G0 := Lib.hid (g0.up U0.out)
  obtain ⟨hla0, hca0⟩ := h1
  obtain ⟨hlb0, hcb0⟩ := g1
  clear h0 h2 h3 g0 g2 g3
  have q0 := Chg.cell ((Chg.refl Nowhere (w.alloc (.cells #[.int .i64 x.n, .int .i64 x.p, .slice A x.fs.length c] 100))).alloc (.cells #[.int .i64 y.n, .int .i64 y.p, .slice B y.fs.length d] 100)) (show (w.alloc (.cells #[.int .i64 x.n, .int .i64 x.p, .slice A x.fs.length c] 100)).cell? ⟨w.heap.size, 0, none⟩ = some (.int .i64 x.n) from cell_new _ _ _ _) id
  have q1 := Chg.cell ((Chg.refl Nowhere (w.alloc (.cells #[.int .i64 x.n, .int .i64 x.p, .slice A x.fs.length c] 100))).alloc (.cells #[.int .i64 y.n, .int .i64 y.p, .slice B y.fs.length d] 100)) (show (w.alloc (.cells #[.int .i64 x.n, .int .i64 x.p, .slice A x.fs.length c] 100)).cell? ⟨w.heap.size, 1, none⟩ = some (.int .i64 x.p) from cell_new _ _ _ _) id
  have q2 := Chg.cell ((Chg.refl Nowhere (w.alloc (.cells #[.int .i64 x.n, .int .i64 x.p, .slice A x.fs.length c] 100))).alloc (.cells #[.int .i64 y.n, .int .i64 y.p, .slice B y.fs.length d] 100)) (show (w.alloc (.cells #[.int .i64 x.n, .int .i64 x.p, .slice A x.fs.length c] 100)).cell? ⟨w.heap.size, 2, none⟩ = some (.slice A x.fs.length c) from cell_new _ _ _ _) id
  have p0 := (show ((w.alloc (.cells #[.int .i64 x.n, .int .i64 x.p, .slice A x.fs.length c] 100)).alloc (.cells #[.int .i64 y.n, .int .i64 y.p, .slice B y.fs.length d] 100)).cell? ⟨w.heap.size + 1, 0, none⟩ = some (.int .i64 y.n) from (cellF_at (by simp) rfl).1)
  have p1 := (show ((w.alloc (.cells #[.int .i64 x.n, .int .i64 x.p, .slice A x.fs.length c] 100)).alloc (.cells #[.int .i64 y.n, .int .i64 y.p, .slice B y.fs.length d] 100)).cell? ⟨w.heap.size + 1, 1, none⟩ = some (.int .i64 y.p) from (cellF_at (by simp) rfl).1)
  have p2 := (show ((w.alloc (.cells #[.int .i64 x.n, .int .i64 x.p, .slice A x.fs.length c] 100)).alloc (.cells #[.int .i64 y.n, .int .i64 y.p, .slice B y.fs.length d] 100)).cell? ⟨w.heap.size + 1, 2, none⟩ = some (.slice B y.fs.length d) from (cellF_at (by simp) rfl).1)
  by_cases e0 : x.n = y.n
  rotate_left
  · have b0 : ((x.n : Int) == y.n) = false := by simpa using e0
    have HB := Lib.hid (show sameN x y = false from decide_eq_false fun e => e0 (by rw [e]))
    clear e0
    go_enter Try.func57, Try.ntmps57
    go_wp2
    go_ret
    exact ⟨ret_bool HB.out.symm, Chg.trans U0.out (by repeat (first | exact Chg.refl _ _ | apply Chg.drew | apply Chg.drewN | refine Chg.alloc ?_ _))⟩
  have b0 : ((x.n : Int) == y.n) = true := by simp [e0]
  have E0 := Lib.hid e0
  clear e0
  by_cases e1 : x.p = y.p
  rotate_left
  · have b1 : ((x.p : Int) == y.p) = false := by simpa using e1
    have HB := Lib.hid (show sameN x y = false from decide_eq_false fun e => e1 (by rw [e]))
    clear e1
    go_enter Try.func57, Try.ntmps57
    go_wp2
    go_ret
    exact ⟨ret_bool HB.out.symm, Chg.trans U0.out (by repeat (first | exact Chg.refl _ _ | apply Chg.drew | apply Chg.drewN | refine Chg.alloc ?_ _))⟩
  have b1 : ((x.p : Int) == y.p) = true := by simp [e1]
  have E1 := Lib.hid e1
  clear e1
  have HB := Lib.hid (show sameN x y = sameL x.fs y.fs by rw [sameN_and, decide_eq_true E0.out, decide_eq_true E1.out]; rfl)
  go_enter Try.func57, Try.ntmps57
  go_wp2_with fail
  refine (eqfInts_any _ M H L M' H' L' _ _ x.fs y.fs (H0.out.up (by repeat (first | exact Chg.refl _ _ | apply Chg.drew | apply Chg.drewN | refine Chg.alloc ?_ _))) (G0.out.up (by repeat (first | exact Chg.refl _ _ | apply Chg.drew | apply Chg.drewN | refine Chg.alloc ?_ _)))).mono ?_
  rintro e w1 ⟨rfl, g1⟩
  have GX := Lib.hid (Chg.trans U0.out (Chg.trans (by repeat (first | exact Chg.refl _ _ | apply Chg.drew | apply Chg.drewN | refine Chg.alloc ?_ _)) g1))
  clear g1
  go_wp2
  go_ret
  exact ⟨ret_bool HB.out.symm, GX.out⟩
theorem sSameNormal_any (w : World) (M H L M' H' L' : Nat → Prop) (v u : Value) (x y : NormM) (hv : NormV w M H L v x) (hu : NormV w M' H' L' u y) :
    Calls Try.prog 52 #[v, u] w fun e w' => e = .returned (.bool (sameN x y)) ∧ Up w w' := by
  obtain ⟨A, c, rfl, h0, h1, h2, h3⟩ := hv
  obtain ⟨B, d, rfl, g0, g1, g2, g3⟩ := hu
  have U0 := Lib.hid (show Up w ((w.alloc (.cells #[.int .i64 x.n, .int .i64 x.p, .slice A x.fs.length c] 100)).alloc (.cells #[.int .i64 y.n, .int .i64 y.p, .slice B y.fs.length d] 100)) from (by repeat (first | exact Chg.refl _ _ | apply Chg.drew | apply Chg.drewN | refine Chg.alloc ?_ _)))
  have H0 := Lib.hid (h0.up U0.out)
  have G0 := Lib.hid (g0.up U0.out)
  obtain ⟨hla0, hca0⟩ := h1
  obtain ⟨hlb0, hcb0⟩ := g1
  clear h0 h2 h3 g0 g2 g3
  have q0 := Chg.cell ((Chg.refl Nowhere (w.alloc (.cells #[.int .i64 x.n, .int .i64 x.p, .slice A x.fs.length c] 100))).alloc (.cells #[.int .i64 y.n, .int .i64 y.p, .slice B y.fs.length d] 100)) (show (w.alloc (.cells #[.int .i64 x.n, .int .i64 x.p, .slice A x.fs.length c] 100)).cell? ⟨w.heap.size, 0, none⟩ = some (.int .i64 x.n) from cell_new _ _ _ _) id
  have q1 := Chg.cell ((Chg.refl Nowhere (w.alloc (.cells #[.int .i64 x.n, .int .i64 x.p, .slice A x.fs.length c] 100))).alloc (.cells #[.int .i64 y.n, .int .i64 y.p, .slice B y.fs.length d] 100)) (show (w.alloc (.cells #[.int .i64 x.n, .int .i64 x.p, .slice A x.fs.length c] 100)).cell? ⟨w.heap.size, 1, none⟩ = some (.int .i64 x.p) from cell_new _ _ _ _) id
  have q2 := Chg.cell ((Chg.refl Nowhere (w.alloc (.cells #[.int .i64 x.n, .int .i64 x.p, .slice A x.fs.length c] 100))).alloc (.cells #[.int .i64 y.n, .int .i64 y.p, .slice B y.fs.length d] 100)) (show (w.alloc (.cells #[.int .i64 x.n, .int .i64 x.p, .slice A x.fs.length c] 100)).cell? ⟨w.heap.size, 2, none⟩ = some (.slice A x.fs.length c) from cell_new _ _ _ _) id
  have p0 := (show ((w.alloc (.cells #[.int .i64 x.n, .int .i64 x.p, .slice A x.fs.length c] 100)).alloc (.cells #[.int .i64 y.n, .int .i64 y.p, .slice B y.fs.length d] 100)).cell? ⟨w.heap.size + 1, 0, none⟩ = some (.int .i64 y.n) from (cellF_at (by simp) rfl).1)
  have p1 := (show ((w.alloc (.cells #[.int .i64 x.n, .int .i64 x.p, .slice A x.fs.length c] 100)).alloc (.cells #[.int .i64 y.n, .int .i64 y.p, .slice B y.fs.length d] 100)).cell? ⟨w.heap.size + 1, 1, none⟩ = some (.int .i64 y.p) from (cellF_at (by simp) rfl).1)
  have p2 := (show ((w.alloc (.cells #[.int .i64 x.n, .int .i64 x.p, .slice A x.fs.length c] 100)).alloc (.cells #[.int .i64 y.n, .int .i64 y.p, .slice B y.fs.length d] 100)).cell? ⟨w.heap.size + 1, 2, none⟩ = some (.slice B y.fs.length d) from (cellF_at (by simp) rfl).1)
  by_cases e0 : x.n = y.n
  rotate_left
  · have b0 : ((x.n : Int) != y.n) = true := by simpa using e0
    have HB := Lib.hid (show sameN x y = false from decide_eq_false fun e => e0 (by rw [e]))
    clear e0
    go_enter Try.func52, Try.ntmps52
    go_wp2
    go_ret
    exact ⟨ret_bool HB.out.symm, Chg.trans U0.out (by repeat (first | exact Chg.refl _ _ | apply Chg.drew | apply Chg.drewN | refine Chg.alloc ?_ _))⟩
  have b0 : ((x.n : Int) != y.n) = false := by simp [e0]
  have E0 := Lib.hid e0
  clear e0
  by_cases e1 : x.p = y.p
  rotate_left
  · have b1 : ((x.p : Int) != y.p) = true := by simpa using e1
    have HB := Lib.hid (show sameN x y = false from decide_eq_false fun e => e1 (by rw [e]))
    clear e1
    go_enter Try.func52, Try.ntmps52
    go_wp2
    go_ret
    exact ⟨ret_bool HB.out.symm, Chg.trans U0.out (by repeat (first | exact Chg.refl _ _ | apply Chg.drew | apply Chg.drewN | refine Chg.alloc ?_ _))⟩
  have b1 : ((x.p : Int) != y.p) = false := by simp [e1]
  have E1 := Lib.hid e1
  clear e1
  by_cases el0 : x.fs.length = y.fs.length
  rotate_left
  · have bl0 : ((x.fs.length : Int) != y.fs.length) = true := by simp; omega
    have HB := Lib.hid (show sameN x y = false from decide_eq_false fun e => el0 (by rw [e]))
    clear el0
    go_enter Try.func52, Try.ntmps52
    go_wp2
    go_ret
    exact ⟨ret_bool HB.out.symm, Chg.trans U0.out (by repeat (first | exact Chg.refl _ _ | apply Chg.drew | apply Chg.drewN | refine Chg.alloc ?_ _))⟩
  have bl0 : ((x.fs.length : Int) != y.fs.length) = false := by simp; omega
  have EL0 := Lib.hid el0
  clear el0
  go_enter Try.func52, Try.ntmps52
  go_wp2
  go_loopw [5] (fun i wx => ∃ (j : Nat), j ≤ x.fs.length ∧ i = .int .i64 j ∧ Hid (Up ((w.alloc (.cells #[.int .i64 x.n, .int .i64 x.p, .slice A x.fs.length c] 100)).alloc (.cells #[.int .i64 y.n, .int .i64 y.p, .slice B y.fs.length d] 100)) wx) ∧ Hid (AgreeTo x.fs y.fs j)) (fun i _ => x.fs.length - (intOf i).toNat)
  case atStart => exact ⟨0, by omega, rfl, Lib.hid (by repeat (first | exact Chg.refl _ _ | apply Chg.drew | apply Chg.drewN | refine Chg.alloc ?_ _)), AgreeTo.start _ _⟩
  case round =>
    obtain ⟨j, hj, rfl, hu, hp⟩ := hrel
    have qa0 := Chg.cell hu.out q0 id
    have pa0 := Chg.cell hu.out p0 id
    have qa1 := Chg.cell hu.out q1 id
    have pa1 := Chg.cell hu.out p1 id
    have qa2 := Chg.cell hu.out q2 id
    have pa2 := Chg.cell hu.out p2 id
    clear q0 q1 q2 p0 p1 p2
    by_cases hlt : j < x.fs.length
    · have hlt2 : j < y.fs.length := by have := EL0.out; omega
      obtain ⟨b3, o3, c3', vs3, he3, -, -, -, hE3, hc3⟩ := (H0.out.up hu.out).at_ hlt
      obtain ⟨rfl, rfl⟩ : A = some ⟨b3, o3, none⟩ ∧ c = c3' := by simpa using he3
      obtain ⟨A3, k3, rfl, hv3, -⟩ := IntsE.val hE3
      have f0 := (hc3 0 _ rfl).1
      simp only [Nat.mul_one, Nat.add_zero] at f0
      have HV3 := Lib.hid hv3
      clear hc3 hv3 he3
      obtain ⟨b5, o5, c5', vs5, he5, -, -, -, hE5, hc5⟩ := (G0.out.up hu.out).at_ hlt2
      obtain ⟨rfl, rfl⟩ : B = some ⟨b5, o5, none⟩ ∧ d = c5' := by simpa using he5
      obtain ⟨A5, k5, rfl, hv5, -⟩ := IntsE.val hE5
      have e0 := (hc5 0 _ rfl).1
      simp only [Nat.mul_one, Nat.add_zero] at e0
      have HV5 := Lib.hid hv5
      clear hc5 hv5 he5
      have qf0 := up_cell f0
      have qe0 := up_cell e0
      have uq := up_cell qa2
      have up_ := up_cell pa2
      clear f0 e0
      by_cases he : x.fs[j] = y.fs[j]
      · have HE := Lib.hid he
        have HS : Hid (sameL x.fs[j] y.fs[j] = true) := Lib.hid (decide_eq_true he)
        clear he
        go_wp2
        refine wp_region_up (by kernel_rfl) (by kernel_rfl) ?_
        repeat (go_big_quiet_step (first | (go_at_call 130; with_reducible exact calls_up (callB (l00Same_any _ _ _ _ _ _ _ (HV3.out.up (UpOf.up _)) (HV5.out.up (UpOf.up _))) HS.out))))
        refine wpQuiet_nil ?_
        rintro _ ⟨u, rfl⟩
        have GX := Lib.hid u.up
        clear uq up_ qf0 qe0
        go_wp2
        go_roundw
        case rel => exact ⟨j + 1, by omega, by go_num, Lib.hid (Chg.trans hu.out GX.out), Lib.hid (AgreeTo.next hp.out hlt hlt2 HE.out)⟩
        case measure => first | (simp [intOf]; done) | (simp [intOf]; omega)
      · have HB := Lib.hid (show sameN x y = false from decide_eq_false fun e => differ_at hlt hlt2 he (by rw [e]))
        have HS : Hid (sameL x.fs[j] y.fs[j] = false) := Lib.hid (decide_eq_false he)
        clear he
        go_wp2
        refine wp_region_up (by kernel_rfl) (by kernel_rfl) ?_
        repeat (go_big_quiet_step (first | (go_at_call 130; with_reducible exact calls_up (callB (l00Same_any _ _ _ _ _ _ _ (HV3.out.up (UpOf.up _)) (HV5.out.up (UpOf.up _))) HS.out))))
        refine wpQuiet_nil ?_
        rintro _ ⟨u, rfl⟩
        have GX := Lib.hid u.up
        clear uq up_ qf0 qe0
        go_wp2
        go_ret
        exact ⟨ret_bool HB.out.symm, Chg.trans U0.out (Chg.trans hu.out GX.out)⟩
    · obtain rfl : j = x.fs.length := by omega
      have HF0 := Lib.hid (AgreeTo.all hp.out EL0.out)
      have HB := Lib.hid (show sameN x y = true from decide_eq_true (normM_eq.2 ⟨E0.out, E1.out, HF0.out⟩))
      go_wp2
      go_ret
      exact ⟨ret_bool HB.out.symm, Chg.trans U0.out hu.out⟩
theorem eqfNorms_any (w : World) (M H L M' H' L' : Nat → Prop) (v u : Value) (xs ys : List (NormM)) (h : NormSV w M H L v xs) (h2 : NormSV w M' H' L' u ys) :
    Calls Try.prog 56 #[v, u, .func (.func 57) #[] #[]] w fun e w' => e = .returned (.bool (sameL xs ys)) ∧ Up w w' := by
  obtain ⟨A, c, rfl, hlc, hcm, -⟩ := h.shape
  obtain ⟨A2, c2, rfl, hlc2, hcm2, -⟩ := h2.shape
  by_cases hl : xs.length = ys.length
  rotate_left
  · have HB := Lib.hid (sameL_len hl)
    have hb : ((xs.length : Int) != ys.length) = true := by simp; omega
    clear hl h h2
    go_enter Try.func56, Try.ntmps56
    go_wp2
    go_ret
    exact ⟨ret_bool HB.out.symm, Chg.refl _ _⟩
  have HL := Lib.hid hl
  have hb : ((xs.length : Int) != ys.length) = false := by simp; omega
  have H := Lib.hid h
  have H2 := Lib.hid h2
  clear h h2 hl
  go_enter Try.func56, Try.ntmps56
  go_wp2
  go_loopw [17] (fun i wr => ∃ (j : Nat), j ≤ xs.length ∧ i = .int .i64 j ∧ Hid (Up w wr) ∧ Hid (AgreeTo xs ys j)) (fun i _ => xs.length - (intOf i).toNat)
  case atStart => exact ⟨0, by omega, rfl, Chg.refl _ _, AgreeTo.start _ _⟩
  case round =>
    obtain ⟨j, hj, rfl, hu, hp⟩ := hrel
    by_cases hlt : j < xs.length
    · have hlt2 : j < ys.length := by have := HL.out; omega
      obtain ⟨b3, o3, c3', vs3, he3, -, -, -, hE3, hc3⟩ := (H.out.up hu.out).at_ hlt
      obtain ⟨rfl, rfl⟩ : A = some ⟨b3, o3, none⟩ ∧ c = c3' := by simpa using he3
      obtain ⟨A3, k3, rfl, hv3⟩ := NormE.val hE3
      have f0 := (hc3 0 _ rfl).1
      have f1 := (hc3 1 _ rfl).1
      have f2 := (hc3 2 _ rfl).1
      rw [Nat.add_zero] at f0
      have HV3 := Lib.hid hv3
      clear hc3 hv3 he3
      obtain ⟨b5, o5, c5', vs5, he5, -, -, -, hE5, hc5⟩ := (H2.out.up hu.out).at_ hlt2
      obtain ⟨rfl, rfl⟩ : A2 = some ⟨b5, o5, none⟩ ∧ c2 = c5' := by simpa using he5
      obtain ⟨A5, k5, rfl, hv5⟩ := NormE.val hE5
      have e0 := (hc5 0 _ rfl).1
      have e1 := (hc5 1 _ rfl).1
      have e2 := (hc5 2 _ rfl).1
      rw [Nat.add_zero] at e0
      have HV5 := Lib.hid hv5
      clear hc5 hv5 he5
      have g0 := Chg.cell ((Chg.refl Nowhere wr).alloc (.cells #[.int .i64 xs[j].n, .int .i64 xs[j].p, .slice A3 xs[j].fs.length k3] 100)) e0 id
      clear e0
      have e0 := g0
      clear g0
      have g1 := Chg.cell ((Chg.refl Nowhere wr).alloc (.cells #[.int .i64 xs[j].n, .int .i64 xs[j].p, .slice A3 xs[j].fs.length k3] 100)) e1 id
      clear e1
      have e1 := g1
      clear g1
      have g2 := Chg.cell ((Chg.refl Nowhere wr).alloc (.cells #[.int .i64 xs[j].n, .int .i64 xs[j].p, .slice A3 xs[j].fs.length k3] 100)) e2 id
      clear e2
      have e2 := g2
      clear g2
      by_cases he : xs[j] = ys[j]
      · have HE := Lib.hid he
        have HS : Hid (sameN xs[j] ys[j] = true) := Lib.hid (decide_eq_true he)
        clear he
        go_wp2_with fail
        refine (pSameNormal_any _ _ _ _ _ _ _ _ _ _ _ (HV3.out.up (by repeat (first | exact Chg.refl _ _ | apply Chg.drew | apply Chg.drewN | refine Chg.alloc ?_ _))) (HV5.out.up (by repeat (first | exact Chg.refl _ _ | apply Chg.drew | apply Chg.drewN | refine Chg.alloc ?_ _)))).mono ?_
        rintro e w1 ⟨rfl, g1⟩
        have GX := Lib.hid (show Up wr _ from Chg.trans (by repeat (first | exact Chg.refl _ _ | apply Chg.drew | apply Chg.drewN | refine Chg.alloc ?_ _)) g1)
        clear g1
        rw [HS.out]
        clear f0 f1 f2 e0 e1 e2
        go_wp2
        go_roundw
        case rel => exact ⟨j + 1, by omega, by go_num, Lib.hid (Chg.trans hu.out GX.out), Lib.hid (AgreeTo.next hp.out hlt hlt2 HE.out)⟩
        case measure => first | (simp [intOf]; done) | (simp [intOf]; omega)
      · have HB := Lib.hid (sameL_at hlt hlt2 he)
        have HS : Hid (sameN xs[j] ys[j] = false) := Lib.hid (decide_eq_false he)
        clear he
        go_wp2_with fail
        refine (pSameNormal_any _ _ _ _ _ _ _ _ _ _ _ (HV3.out.up (by repeat (first | exact Chg.refl _ _ | apply Chg.drew | apply Chg.drewN | refine Chg.alloc ?_ _))) (HV5.out.up (by repeat (first | exact Chg.refl _ _ | apply Chg.drew | apply Chg.drewN | refine Chg.alloc ?_ _)))).mono ?_
        rintro e w1 ⟨rfl, g1⟩
        have GX := Lib.hid (show Up wr _ from Chg.trans (by repeat (first | exact Chg.refl _ _ | apply Chg.drew | apply Chg.drewN | refine Chg.alloc ?_ _)) g1)
        clear g1
        rw [HS.out]
        clear f0 f1 f2 e0 e1 e2
        go_wp2
        go_ret
        exact ⟨ret_bool HB.out.symm, Chg.trans hu.out GX.out⟩
    · obtain rfl : j = xs.length := by omega
      have HB := Lib.hid (sameL_all hp.out HL.out)
      go_wp2
      go_ret
      exact ⟨ret_bool HB.out.symm, hu.out⟩
theorem pSameProof_any (w : World) (M H L M' H' L' : Nat → Prop) (v u : Value) (x y : ProofM) (hv : ProofV w M H L v x) (hu : ProofV w M' H' L' u y) :
    Calls Try.prog 13 #[v, u] w fun e w' => e = .returned (.bool (sameP x y)) ∧ Up w w' := by
  obtain ⟨A0, c0, A1, c1, rfl, h0, h1, h2, h3⟩ := hv
  obtain ⟨B0, d0, B1, d1, rfl, g0, g1, g2, g3⟩ := hu
  have U0 := Lib.hid (show Up w ((w.alloc (.cells #[.slice A0 x.forms.length c0, .slice A1 x.sts.length c1] 31)).alloc (.cells #[.slice B0 y.forms.length d0, .slice B1 y.sts.length d1] 31)) from (by repeat (first | exact Chg.refl _ _ | apply Chg.drew | apply Chg.drewN | refine Chg.alloc ?_ _)))
  have H0 := Lib.hid (h0.up U0.out)
  have G0 := Lib.hid (g0.up U0.out)
  have H1 := Lib.hid (h1.up U0.out)
  have G1 := Lib.hid (g1.up U0.out)
  obtain ⟨hla0, hca0⟩ := h2
  obtain ⟨hlb0, hcb0⟩ := g2
  obtain ⟨hla1, hca1⟩ := h3
  obtain ⟨hlb1, hcb1⟩ := g3
  clear h0 h1 g0 g1
  have q0 := Chg.cell ((Chg.refl Nowhere (w.alloc (.cells #[.slice A0 x.forms.length c0, .slice A1 x.sts.length c1] 31))).alloc (.cells #[.slice B0 y.forms.length d0, .slice B1 y.sts.length d1] 31)) (show (w.alloc (.cells #[.slice A0 x.forms.length c0, .slice A1 x.sts.length c1] 31)).cell? ⟨w.heap.size, 0, none⟩ = some (.slice A0 x.forms.length c0) from cell_new _ _ _ _) id
  have q1 := Chg.cell ((Chg.refl Nowhere (w.alloc (.cells #[.slice A0 x.forms.length c0, .slice A1 x.sts.length c1] 31))).alloc (.cells #[.slice B0 y.forms.length d0, .slice B1 y.sts.length d1] 31)) (show (w.alloc (.cells #[.slice A0 x.forms.length c0, .slice A1 x.sts.length c1] 31)).cell? ⟨w.heap.size, 1, none⟩ = some (.slice A1 x.sts.length c1) from cell_new _ _ _ _) id
  have p0 := (show ((w.alloc (.cells #[.slice A0 x.forms.length c0, .slice A1 x.sts.length c1] 31)).alloc (.cells #[.slice B0 y.forms.length d0, .slice B1 y.sts.length d1] 31)).cell? ⟨w.heap.size + 1, 0, none⟩ = some (.slice B0 y.forms.length d0) from (cellF_at (by simp) rfl).1)
  have p1 := (show ((w.alloc (.cells #[.slice A0 x.forms.length c0, .slice A1 x.sts.length c1] 31)).alloc (.cells #[.slice B0 y.forms.length d0, .slice B1 y.sts.length d1] 31)).cell? ⟨w.heap.size + 1, 1, none⟩ = some (.slice B1 y.sts.length d1) from (cellF_at (by simp) rfl).1)
  have HB := Lib.hid (sameP_and x y)
  cases hs : sameL x.forms y.forms with
  | false =>
    have HS := Lib.hid hs
    clear hs
    go_enter Try.func13, Try.ntmps13
    go_wp2_with fail
    refine (callB (eqfNorms_any _ M H L M' H' L' _ _ x.forms y.forms (H0.out.up (by repeat (first | exact Chg.refl _ _ | apply Chg.drew | apply Chg.drewN | refine Chg.alloc ?_ _))) (G0.out.up (by repeat (first | exact Chg.refl _ _ | apply Chg.drew | apply Chg.drewN | refine Chg.alloc ?_ _)))) HS.out).mono ?_
    rintro e w1 ⟨rfl, g1⟩
    have GX := Lib.hid (Chg.trans (by repeat (first | exact Chg.refl _ _ | apply Chg.drew | apply Chg.drewN | refine Chg.alloc ?_ _)) g1)
    clear g1
    have q0 := Chg.cell GX.out q0 id
    have q1 := Chg.cell GX.out q1 id
    have p0 := Chg.cell GX.out p0 id
    have p1 := Chg.cell GX.out p1 id
    go_wp2
    go_ret
    exact ⟨ret_bool (by rw [HB.out, HS.out]; rfl), Chg.trans U0.out GX.out⟩
  | true =>
    have HS := Lib.hid hs
    clear hs
    go_enter Try.func13, Try.ntmps13
    go_wp2_with fail
    refine (callB (eqfNorms_any _ M H L M' H' L' _ _ x.forms y.forms (H0.out.up (by repeat (first | exact Chg.refl _ _ | apply Chg.drew | apply Chg.drewN | refine Chg.alloc ?_ _))) (G0.out.up (by repeat (first | exact Chg.refl _ _ | apply Chg.drew | apply Chg.drewN | refine Chg.alloc ?_ _)))) HS.out).mono ?_
    rintro e w1 ⟨rfl, g1⟩
    have GX := Lib.hid (Chg.trans (by repeat (first | exact Chg.refl _ _ | apply Chg.drew | apply Chg.drewN | refine Chg.alloc ?_ _)) g1)
    clear g1
    have q0 := Chg.cell GX.out q0 id
    have q1 := Chg.cell GX.out q1 id
    have p0 := Chg.cell GX.out p0 id
    have p1 := Chg.cell GX.out p1 id
    go_wp2_with fail
    refine (eqfEvs_any _ M H L M' H' L' _ _ x.sts y.sts (H1.out.up (Chg.trans GX.out (by repeat (first | exact Chg.refl _ _ | apply Chg.drew | apply Chg.drewN | refine Chg.alloc ?_ _)))) (G1.out.up (Chg.trans GX.out (by repeat (first | exact Chg.refl _ _ | apply Chg.drew | apply Chg.drewN | refine Chg.alloc ?_ _))))).mono ?_
    rintro e w2 ⟨rfl, g2⟩
    have GY := Lib.hid (Chg.trans GX.out (Chg.trans (by repeat (first | exact Chg.refl _ _ | apply Chg.drew | apply Chg.drewN | refine Chg.alloc ?_ _)) g2))
    clear g2
    go_wp2
    go_ret
    exact ⟨ret_bool (by rw [HB.out, HS.out]; rfl), Chg.trans U0.out GY.out⟩
theorem sSameProof_any (w : World) (M H L M' H' L' : Nat → Prop) (v u : Value) (x y : ProofM) (hv : ProofV w M H L v x) (hu : ProofV w M' H' L' u y) :
    Calls Try.prog 11 #[v, u] w fun e w' => e = .returned (.bool (sameP x y)) ∧ Up w w' := by
  obtain ⟨A0, c0, A1, c1, rfl, h0, h1, h2, h3⟩ := hv
  obtain ⟨B0, d0, B1, d1, rfl, g0, g1, g2, g3⟩ := hu
  have U0 := Lib.hid (show Up w ((w.alloc (.cells #[.slice A0 x.forms.length c0, .slice A1 x.sts.length c1] 31)).alloc (.cells #[.slice B0 y.forms.length d0, .slice B1 y.sts.length d1] 31)) from (by repeat (first | exact Chg.refl _ _ | apply Chg.drew | apply Chg.drewN | refine Chg.alloc ?_ _)))
  have H0 := Lib.hid (h0.up U0.out)
  have G0 := Lib.hid (g0.up U0.out)
  have H1 := Lib.hid (h1.up U0.out)
  have G1 := Lib.hid (g1.up U0.out)
  obtain ⟨hla0, hca0⟩ := h2
  obtain ⟨hlb0, hcb0⟩ := g2
  obtain ⟨hla1, hca1⟩ := h3
  obtain ⟨hlb1, hcb1⟩ := g3
  clear h0 h1 g0 g1
  have q0 := Chg.cell ((Chg.refl Nowhere (w.alloc (.cells #[.slice A0 x.forms.length c0, .slice A1 x.sts.length c1] 31))).alloc (.cells #[.slice B0 y.forms.length d0, .slice B1 y.sts.length d1] 31)) (show (w.alloc (.cells #[.slice A0 x.forms.length c0, .slice A1 x.sts.length c1] 31)).cell? ⟨w.heap.size, 0, none⟩ = some (.slice A0 x.forms.length c0) from cell_new _ _ _ _) id
  have q1 := Chg.cell ((Chg.refl Nowhere (w.alloc (.cells #[.slice A0 x.forms.length c0, .slice A1 x.sts.length c1] 31))).alloc (.cells #[.slice B0 y.forms.length d0, .slice B1 y.sts.length d1] 31)) (show (w.alloc (.cells #[.slice A0 x.forms.length c0, .slice A1 x.sts.length c1] 31)).cell? ⟨w.heap.size, 1, none⟩ = some (.slice A1 x.sts.length c1) from cell_new _ _ _ _) id
  have p0 := (show ((w.alloc (.cells #[.slice A0 x.forms.length c0, .slice A1 x.sts.length c1] 31)).alloc (.cells #[.slice B0 y.forms.length d0, .slice B1 y.sts.length d1] 31)).cell? ⟨w.heap.size + 1, 0, none⟩ = some (.slice B0 y.forms.length d0) from (cellF_at (by simp) rfl).1)
  have p1 := (show ((w.alloc (.cells #[.slice A0 x.forms.length c0, .slice A1 x.sts.length c1] 31)).alloc (.cells #[.slice B0 y.forms.length d0, .slice B1 y.sts.length d1] 31)).cell? ⟨w.heap.size + 1, 1, none⟩ = some (.slice B1 y.sts.length d1) from (cellF_at (by simp) rfl).1)
  by_cases el0 : x.forms.length = y.forms.length
  rotate_left
  · have bl0 : ((x.forms.length : Int) != y.forms.length) = true := by simp; omega
    have HB := Lib.hid (show sameP x y = false from decide_eq_false fun e => el0 (by rw [e]))
    clear el0
    go_enter Try.func11, Try.ntmps11
    go_wp2
    go_ret
    exact ⟨ret_bool HB.out.symm, Chg.trans U0.out (by repeat (first | exact Chg.refl _ _ | apply Chg.drew | apply Chg.drewN | refine Chg.alloc ?_ _))⟩
  have bl0 : ((x.forms.length : Int) != y.forms.length) = false := by simp; omega
  have EL0 := Lib.hid el0
  clear el0
  by_cases el1 : x.sts.length = y.sts.length
  rotate_left
  · have bl1 : ((x.sts.length : Int) != y.sts.length) = true := by simp; omega
    have HB := Lib.hid (show sameP x y = false from decide_eq_false fun e => el1 (by rw [e]))
    clear el1
    go_enter Try.func11, Try.ntmps11
    go_wp2
    go_ret
    exact ⟨ret_bool HB.out.symm, Chg.trans U0.out (by repeat (first | exact Chg.refl _ _ | apply Chg.drew | apply Chg.drewN | refine Chg.alloc ?_ _))⟩
  have bl1 : ((x.sts.length : Int) != y.sts.length) = false := by simp; omega
  have EL1 := Lib.hid el1
  clear el1
  go_enter Try.func11, Try.ntmps11
  go_wp2
  go_loopw [5] (fun i wx => ∃ (j : Nat), j ≤ x.forms.length ∧ i = .int .i64 j ∧ Hid (Up ((w.alloc (.cells #[.slice A0 x.forms.length c0, .slice A1 x.sts.length c1] 31)).alloc (.cells #[.slice B0 y.forms.length d0, .slice B1 y.sts.length d1] 31)) wx) ∧ Hid (AgreeTo x.forms y.forms j)) (fun i _ => x.forms.length - (intOf i).toNat)
  case atStart => exact ⟨0, by omega, rfl, Lib.hid (by repeat (first | exact Chg.refl _ _ | apply Chg.drew | apply Chg.drewN | refine Chg.alloc ?_ _)), AgreeTo.start _ _⟩
  case round =>
    obtain ⟨j, hj, rfl, hu, hp⟩ := hrel
    have qa0 := Chg.cell hu.out q0 id
    have pa0 := Chg.cell hu.out p0 id
    have qa1 := Chg.cell hu.out q1 id
    have pa1 := Chg.cell hu.out p1 id
    clear q0 q1 p0 p1
    by_cases hlt : j < x.forms.length
    · have hlt2 : j < y.forms.length := by have := EL0.out; omega
      obtain ⟨b3, o3, c3', vs3, he3, -, -, -, hE3, hc3⟩ := (H0.out.up hu.out).at_ hlt
      obtain ⟨rfl, rfl⟩ : A0 = some ⟨b3, o3, none⟩ ∧ c0 = c3' := by simpa using he3
      obtain ⟨A3, k3, rfl, hv3⟩ := NormE.val hE3
      have f0 := (hc3 0 _ rfl).1
      have f1 := (hc3 1 _ rfl).1
      have f2 := (hc3 2 _ rfl).1
      rw [Nat.add_zero] at f0
      have HV3 := Lib.hid hv3
      clear hc3 hv3 he3
      obtain ⟨b5, o5, c5', vs5, he5, -, -, -, hE5, hc5⟩ := (G0.out.up hu.out).at_ hlt2
      obtain ⟨rfl, rfl⟩ : B0 = some ⟨b5, o5, none⟩ ∧ d0 = c5' := by simpa using he5
      obtain ⟨A5, k5, rfl, hv5⟩ := NormE.val hE5
      have e0 := (hc5 0 _ rfl).1
      have e1 := (hc5 1 _ rfl).1
      have e2 := (hc5 2 _ rfl).1
      rw [Nat.add_zero] at e0
      have HV5 := Lib.hid hv5
      clear hc5 hv5 he5
      have qf0 := up_cell f0
      have qf1 := up_cell f1
      have qf2 := up_cell f2
      have qe0 := up_cell e0
      have qe1 := up_cell e1
      have qe2 := up_cell e2
      have uq := up_cell qa0
      have up_ := up_cell pa0
      clear f0 f1 f2 e0 e1 e2
      by_cases he : x.forms[j] = y.forms[j]
      · have HE := Lib.hid he
        have HS : Hid (sameN x.forms[j] y.forms[j] = true) := Lib.hid (decide_eq_true he)
        clear he
        go_wp2
        refine wp_region_up (by kernel_rfl) (by kernel_rfl) ?_
        repeat (go_big_quiet_step (first | (go_at_call 52; with_reducible exact calls_up (callB (sSameNormal_any _ _ _ _ _ _ _ _ _ _ _ (HV3.out.up (UpOf.up _)) (HV5.out.up (UpOf.up _))) HS.out))))
        refine wpQuiet_nil ?_
        rintro _ ⟨u, rfl⟩
        have GX := Lib.hid u.up
        clear uq up_ qf0 qf1 qf2 qe0 qe1 qe2
        go_wp2
        go_roundw
        case rel => exact ⟨j + 1, by omega, by go_num, Lib.hid (Chg.trans hu.out GX.out), Lib.hid (AgreeTo.next hp.out hlt hlt2 HE.out)⟩
        case measure => first | (simp [intOf]; done) | (simp [intOf]; omega)
      · have HB := Lib.hid (show sameP x y = false from decide_eq_false fun e => differ_at hlt hlt2 he (by rw [e]))
        have HS : Hid (sameN x.forms[j] y.forms[j] = false) := Lib.hid (decide_eq_false he)
        clear he
        go_wp2
        refine wp_region_up (by kernel_rfl) (by kernel_rfl) ?_
        repeat (go_big_quiet_step (first | (go_at_call 52; with_reducible exact calls_up (callB (sSameNormal_any _ _ _ _ _ _ _ _ _ _ _ (HV3.out.up (UpOf.up _)) (HV5.out.up (UpOf.up _))) HS.out))))
        refine wpQuiet_nil ?_
        rintro _ ⟨u, rfl⟩
        have GX := Lib.hid u.up
        clear uq up_ qf0 qf1 qf2 qe0 qe1 qe2
        go_wp2
        go_ret
        exact ⟨ret_bool HB.out.symm, Chg.trans U0.out (Chg.trans hu.out GX.out)⟩
    · obtain rfl : j = x.forms.length := by omega
      have HF0 := Lib.hid (AgreeTo.all hp.out EL0.out)
      go_wp2
      have UU := Lib.hid (Chg.trans U0.out hu.out)
      have HH := Lib.hid (H1.out.up hu.out)
      have GG := Lib.hid (G1.out.up hu.out)
      clear hu hp H1 G1
      go_loopw [6] (fun i wx => ∃ (j : Nat), j ≤ x.sts.length ∧ i = .int .i64 j ∧ Hid (Up wr wx) ∧ Hid (AgreeTo x.sts y.sts j)) (fun i _ => x.sts.length - (intOf i).toNat)
      case atStart => exact ⟨0, by omega, rfl, Lib.hid (by repeat (first | exact Chg.refl _ _ | apply Chg.drew | apply Chg.drewN | refine Chg.alloc ?_ _)), AgreeTo.start _ _⟩
      case round =>
        obtain ⟨j, hj, rfl, hu, hp⟩ := hrel
        have qb0 := Chg.cell hu.out qa0 id
        have pb0 := Chg.cell hu.out pa0 id
        have qb1 := Chg.cell hu.out qa1 id
        have pb1 := Chg.cell hu.out pa1 id
        clear qa0 qa1 pa0 pa1
        by_cases hlt : j < x.sts.length
        · have hlt2 : j < y.sts.length := by have := EL1.out; omega
          obtain ⟨b3, o3, c3', vs3, he3, -, -, -, hE3, hc3⟩ := (HH.out.up hu.out).at_ hlt
          obtain ⟨rfl, rfl⟩ : A1 = some ⟨b3, o3, none⟩ ∧ c1 = c3' := by simpa using he3
          obtain ⟨A3, k3, rfl, hv3, -⟩ := EvsE.val hE3
          have f0 := (hc3 0 _ rfl).1
          simp only [Nat.mul_one, Nat.add_zero] at f0
          have HV3 := Lib.hid hv3
          clear hc3 hv3 he3
          obtain ⟨b5, o5, c5', vs5, he5, -, -, -, hE5, hc5⟩ := (GG.out.up hu.out).at_ hlt2
          obtain ⟨rfl, rfl⟩ : B1 = some ⟨b5, o5, none⟩ ∧ d1 = c5' := by simpa using he5
          obtain ⟨A5, k5, rfl, hv5, -⟩ := EvsE.val hE5
          have e0 := (hc5 0 _ rfl).1
          simp only [Nat.mul_one, Nat.add_zero] at e0
          have HV5 := Lib.hid hv5
          clear hc5 hv5 he5
          have qf0 := up_cell f0
          have qe0 := up_cell e0
          have uq := up_cell qb1
          have up_ := up_cell pb1
          clear f0 e0
          by_cases he : x.sts[j] = y.sts[j]
          · have HE := Lib.hid he
            have HS : Hid (sameL x.sts[j] y.sts[j] = true) := Lib.hid (decide_eq_true he)
            clear he
            go_wp2
            refine wp_region_up (by kernel_rfl) (by kernel_rfl) ?_
            repeat (go_big_quiet_step (first | (go_at_call 53; with_reducible exact calls_up (callB (sSameEvents_any _ _ _ _ _ _ _ (HV3.out.up (UpOf.up _)) (HV5.out.up (UpOf.up _))) HS.out))))
            refine wpQuiet_nil ?_
            rintro _ ⟨u, rfl⟩
            have GX := Lib.hid u.up
            clear uq up_ qf0 qe0
            go_wp2
            go_roundw
            case rel => exact ⟨j + 1, by omega, by go_num, Lib.hid (Chg.trans hu.out GX.out), Lib.hid (AgreeTo.next hp.out hlt hlt2 HE.out)⟩
            case measure => first | (simp [intOf]; done) | (simp [intOf]; omega)
          · have HB := Lib.hid (show sameP x y = false from decide_eq_false fun e => differ_at hlt hlt2 he (by rw [e]))
            have HS : Hid (sameL x.sts[j] y.sts[j] = false) := Lib.hid (decide_eq_false he)
            clear he
            go_wp2
            refine wp_region_up (by kernel_rfl) (by kernel_rfl) ?_
            repeat (go_big_quiet_step (first | (go_at_call 53; with_reducible exact calls_up (callB (sSameEvents_any _ _ _ _ _ _ _ (HV3.out.up (UpOf.up _)) (HV5.out.up (UpOf.up _))) HS.out))))
            refine wpQuiet_nil ?_
            rintro _ ⟨u, rfl⟩
            have GX := Lib.hid u.up
            clear uq up_ qf0 qe0
            go_wp2
            go_ret
            exact ⟨ret_bool HB.out.symm, Chg.trans UU.out (Chg.trans hu.out GX.out)⟩
        · obtain rfl : j = x.sts.length := by omega
          have HF1 := Lib.hid (AgreeTo.all hp.out EL1.out)
          have HB := Lib.hid (show sameP x y = true from decide_eq_true (proofM_eq.2 ⟨HF0.out, HF1.out⟩))
          go_wp2
          go_ret
          exact ⟨ret_bool HB.out.symm, Chg.trans UU.out hu.out⟩
end Go.Proofs.Ytjgdcjhmfbefdaa
