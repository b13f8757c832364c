/- The chart of a colour chart. No condition. SameColours at charts that agree. No condition. -/
import Derived.Test.YtgdcffbakjfacaaDoorColI
import Derived.Test.YtgdcffbakjfacaaDoorFC16
import Derived.Test.YtgdcffbakjfacaaDoorFC13
import Derived.Test.YtgdcffbakjfacaaDoorColV
section
set_option linter.unusedSimpArgs false
set_option linter.unusedVariables false
set_option maxRecDepth 100000
set_option maxHeartbeats 4000000
namespace Go.Proofs.YtgdcffbakjfacaaDoor
open Go.ChangeShapes Go.WideShapes Go.ChangeAt Go.RowKit
def codeJ (c : ChartM) : Int := if chartB c then 0 else 5
def outJ (c : ChartM) : ChartM := if chartB c then c else ⟨0, []⟩
theorem ChartX.monoJ {w : World} {S T : Nat → Prop} {v : Value} {c : ChartM} (h : ChartX w S v c) (hs : ∀ b, b < w.heap.size → S b → T b) : ChartX w T v c := let ⟨s, h1, h2, h3⟩ := h; ⟨s, h1, h2.mono hs, h3⟩
theorem rowsX_nil (w : World) (S : Nat → Prop) : RowsX w S (.slice none 0 0) [] := ⟨none, 0, fun _ _ => False, rfl, by simp, by omega, fun _ => rfl, fun _ _ _ h => h.elim, fun h => by simp at h⟩
theorem chartX_nil (w : World) (S : Nat → Prop) : ChartX w S (.agg #[.int .i64 0, .slice none 0 0]) ⟨0, []⟩ := ⟨_, rfl, rowsX_nil w S, show I64 0 by unfold I64; omega⟩
theorem okCol_szJ {c : ColM} (h : okCol c = true) : c.rs.length ≤ 8 ∧ ∀ i (hi : i < c.rs.length), c.rs[i].length ≤ 8 := by
  unfold okCol at h
  simp only [Bool.and_eq_true, inB, decide_eq_true_eq, List.all_eq_true] at h
  obtain ⟨⟨h1, h2⟩, h3⟩ := h
  refine ⟨by omega, fun i hi => ?_⟩
  have := h3 _ (List.getElem_mem hi)
  unfold okLine at this
  simp only [Bool.and_eq_true, decide_eq_true_eq] at this
  omega
theorem ifChart_any (w : World) (S : Nat → Prop) (v : Value) (c : ChartM) (h : ChartX w S v c) (hS : ∀ b, S b → b < w.heap.size) :
    Calls Tryd.prog 17 #[v] w fun e w' => ∃ (A : Option Addr) (k : Nat) (r : ChartM) (kc : Int), Hid (kc = (if chartB c then 0 else 5)) ∧ Hid (r = (if chartB c then c else ⟨0, []⟩)) ∧ e = .returned (.tuple #[.agg #[.int .i64 r.n, .slice A r.rs.length k], .int .i64 kc]) ∧ ChartX w' S (.agg #[.int .i64 r.n, .slice A r.rs.length k]) r ∧ Up w w' := by
  have H := Lib.hid h
  have HS := Lib.hid hS
  obtain ⟨A, k, rfl, -, -, -⟩ := openChartX h
  clear h hS
  have WB := Lib.hid (show Up w ((w.alloc (.cells #[.int .i64 c.n, .slice A c.rs.length k] 36)).alloc (.cells #[.int .i64 0, .slice none 0 0] 36)) from ((Chg.refl Nowhere w).alloc _).alloc _)
  go_enter Tryd.func17, Tryd.ntmps17
  go_wp2_with fail
  refine (ValidChart_any _ S _ c ((H.out.up (by repeat (first | exact Chg.refl _ _ | apply Chg.drew | apply Chg.drewN | refine Chg.alloc ?_ _))).cv)).mono ?_
  rintro e w1 ⟨rfl, g1⟩
  have G1 := Lib.hid (show Up w w1 from Chg.trans WB.out g1)
  obtain ⟨p0, r0⟩ := CellF.up g1 (show CellF ((w.alloc (.cells #[.int .i64 c.n, .slice A c.rs.length k] 36)).alloc (.cells #[.int .i64 0, .slice none 0 0] 36)) ⟨w.heap.size, 0, none⟩ (.int .i64 c.n) from (by repeat (first | ((refine cellF_at ?_ rfl); (simp; done)) | refine CellF.up ((Chg.refl _ _).alloc _) ?_)))
  obtain ⟨p1, r1⟩ := CellF.up g1 (show CellF ((w.alloc (.cells #[.int .i64 c.n, .slice A c.rs.length k] 36)).alloc (.cells #[.int .i64 0, .slice none 0 0] 36)) ⟨w.heap.size, 1, none⟩ (.slice A c.rs.length k) from (by repeat (first | ((refine cellF_at ?_ rfl); (simp; done)) | refine CellF.up ((Chg.refl _ _).alloc _) ?_)))
  obtain ⟨x0, f0⟩ := CellF.up g1 (show CellF ((w.alloc (.cells #[.int .i64 c.n, .slice A c.rs.length k] 36)).alloc (.cells #[.int .i64 0, .slice none 0 0] 36)) ⟨w.heap.size + 1, 0, none⟩ (.int .i64 0) from (by repeat (first | ((refine cellF_at ?_ rfl); (simp; done)) | refine CellF.up ((Chg.refl _ _).alloc _) ?_)))
  obtain ⟨x1, f1⟩ := CellF.up g1 (show CellF ((w.alloc (.cells #[.int .i64 c.n, .slice A c.rs.length k] 36)).alloc (.cells #[.int .i64 0, .slice none 0 0] 36)) ⟨w.heap.size + 1, 1, none⟩ (.slice none 0 0) from (by repeat (first | ((refine cellF_at ?_ rfl); (simp; done)) | refine CellF.up ((Chg.refl _ _).alloc _) ?_)))
  clear g1
  by_cases hb : chartB c = true
  rotate_left
  · have hbb : chartB c = false := by simpa using hb
    have CK := Lib.hid (show (⟨0, []⟩ : ChartM) = (if chartB c then c else ⟨0, []⟩) ∧ (5 : Int) = (if chartB c then 0 else 5) from ⟨by simp [hbb], by simp [hbb]⟩)
    have CZ := Lib.hid (show Chg (fun b => b = (w.heap.size + 1)) w1 ((w1.setCell ⟨(w.heap.size + 1), 0, none⟩ (.int .i64 0)).setCell ⟨(w.heap.size + 1), 1, none⟩ (.slice none 0 0)) from Chg.setCell (Chg.setCell (Chg.refl (fun b => b = (w.heap.size + 1)) w1) (p := ⟨(w.heap.size + 1), 0, none⟩) (.inl (show (w.heap.size + 1) = (w.heap.size + 1) from rfl)) _) (p := ⟨(w.heap.size + 1), 1, none⟩) (.inl (show (w.heap.size + 1) = (w.heap.size + 1) from rfl)) _)
    go_wp2_with fail
    refine bodyPost_ret (v := .tuple #[.agg #[.int .i64 0, .slice none 0 0], .int .i64 5]) (by simp [results, Tryd.results17, go_sem, x0, x1]) rfl ?_
    exact ⟨none, 0, ⟨0, []⟩, 5, by first | exact Lib.hid CK.out.2 | exact Lib.hid rfl, by first | exact Lib.hid CK.out.1 | exact Lib.hid rfl, rfl, chartX_nil _ _, Chg.new G1.out CZ.out (fun i hi e => by have e : i = w.heap.size + 1 := e; omega)⟩
  have CK := Lib.hid (show c = (if chartB c then c else ⟨0, []⟩) ∧ (0 : Int) = (if chartB c then 0 else 5) from ⟨by simp [hb], by simp [hb]⟩)
  have CZ := Lib.hid (show Chg (fun b => b = (w.heap.size + 1)) w1 ((w1.setCell ⟨(w.heap.size + 1), 0, none⟩ (.int .i64 c.n)).setCell ⟨(w.heap.size + 1), 1, none⟩ (.slice A c.rs.length k)) from Chg.setCell (Chg.setCell (Chg.refl (fun b => b = (w.heap.size + 1)) w1) (p := ⟨(w.heap.size + 1), 0, none⟩) (.inl (show (w.heap.size + 1) = (w.heap.size + 1) from rfl)) _) (p := ⟨(w.heap.size + 1), 1, none⟩) (.inl (show (w.heap.size + 1) = (w.heap.size + 1) from rfl)) _)
  go_wp2_with fail
  refine bodyPost_ret (v := .tuple #[.agg #[.int .i64 c.n, .slice A c.rs.length k], .int .i64 0]) (by simp [results, Tryd.results17, go_sem, x0, x1]) rfl ?_
  exact ⟨A, k, c, 0, by first | exact Lib.hid CK.out.2 | exact Lib.hid rfl, by first | exact Lib.hid CK.out.1 | exact Lib.hid rfl, rfl, (H.out.up G1.out).keep CZ.out (fun b _ hs e => by have := HS.out b hs; have e : b = w.heap.size + 1 := e; omega), Chg.new G1.out CZ.out (fun i hi e => by have e : i = w.heap.size + 1 := e; omega)⟩
theorem ChartOfColours_any (w : World) (S : Nat → Prop) (v : Value) (c : ColM) (h : ColV w S S S v c) (hok : okCol c = true) :
    Calls Tryd.prog 10 #[v] w fun e w' => ∃ (A : Option Addr) (k : Nat) (r : ChartM) (kc : Int), Hid (kc = codeJ (chartC c 0)) ∧ Hid (r = outJ (chartC c 0)) ∧ e = .returned (.tuple #[.agg #[.int .i64 r.n, .slice A r.rs.length k], .int .i64 kc]) ∧ ChartX w' (New w.heap.size w'.heap.size) (.agg #[.int .i64 r.n, .slice A r.rs.length k]) r ∧ Up w w' := by
  have H := Lib.hid h
  have hn : I64 c.n := by obtain ⟨_, _, _, _, _, hn⟩ := h; exact hn
  obtain ⟨A, kk, rfl, -⟩ := h
  have WBB := Lib.hid (show Up w ((w.alloc (.cells #[.int .i64 c.n, .slice A c.rs.length kk] 26)).alloc (.cells #[.int .i64 0, .slice none 0 0] 36)) from ((Chg.refl Nowhere w).alloc _).alloc _)
  obtain ⟨hz1, hz2⟩ := okCol_szJ hok
  go_enter Tryd.func10, Tryd.ntmps10
  go_wp2_with fail
  refine (ValidColours_any _ S S S _ c (H.out.up (by repeat (first | exact Chg.refl _ _ | apply Chg.drew | apply Chg.drewN | refine Chg.alloc ?_ _)))).mono ?_
  rintro e w1 ⟨rfl, g1⟩
  obtain ⟨x0, f0⟩ := CellF.up g1 (show CellF ((w.alloc (.cells #[.int .i64 c.n, .slice A c.rs.length kk] 26)).alloc (.cells #[.int .i64 0, .slice none 0 0] 36)) ⟨w.heap.size + 1, 0, none⟩ (.int .i64 0) from (by repeat (first | ((refine cellF_at ?_ rfl); (simp; done)) | refine CellF.up ((Chg.refl _ _).alloc _) ?_)))
  obtain ⟨x1, f1⟩ := CellF.up g1 (show CellF ((w.alloc (.cells #[.int .i64 c.n, .slice A c.rs.length kk] 26)).alloc (.cells #[.int .i64 0, .slice none 0 0] 36)) ⟨w.heap.size + 1, 1, none⟩ (.slice none 0 0) from (by repeat (first | ((refine cellF_at ?_ rfl); (simp; done)) | refine CellF.up ((Chg.refl _ _).alloc _) ?_)))
  obtain ⟨p0, r0⟩ := CellF.up g1 (show CellF ((w.alloc (.cells #[.int .i64 c.n, .slice A c.rs.length kk] 26)).alloc (.cells #[.int .i64 0, .slice none 0 0] 36)) ⟨w.heap.size, 0, none⟩ (.int .i64 c.n) from (by repeat (first | ((refine cellF_at ?_ rfl); (simp; done)) | refine CellF.up ((Chg.refl _ _).alloc _) ?_)))
  obtain ⟨p1, r1⟩ := CellF.up g1 (show CellF ((w.alloc (.cells #[.int .i64 c.n, .slice A c.rs.length kk] 26)).alloc (.cells #[.int .i64 0, .slice none 0 0] 36)) ⟨w.heap.size, 1, none⟩ (.slice A c.rs.length kk) from (by repeat (first | ((refine cellF_at ?_ rfl); (simp; done)) | refine CellF.up ((Chg.refl _ _).alloc _) ?_)))
  have G1 := Lib.hid (show Up w w1 from Chg.trans WBB.out g1)
  have hzz := g1.size
  simp only [World.size_alloc] at hzz
  clear g1
  go_wp2_with (first | (go_at_call 18; refine (coloured_any _ S S S _ c ((show ColV w S S S _ c from H.out).up (Chg.trans G1.out (by repeat (first | exact Chg.refl _ _ | apply Chg.drew | apply Chg.drewN | refine Chg.alloc ?_ _)))) (by omega) (fun i hi => by have := hz2 i hi; omega) 0 (by omega)).mono ?_; rintro e w2 ⟨A2, k2, rfl, hr2, hl2, hk2, g2⟩; have HCX := Lib.hid (show ChartX w2 (New w1.heap.size w2.heap.size) (.agg #[.int .i64 c.n, .slice A2 (chartC c 0).rs.length k2]) (chartC c 0) from ⟨_, rfl, hr2.mono (fun b _ h => ⟨by have := h.1; first | exact this | (simpa using this), h.2⟩), hn⟩); have G2 := Lib.hid (show Up w1 w2 from Chg.trans (by repeat (first | exact Chg.refl _ _ | apply Chg.drew | apply Chg.drewN | refine Chg.alloc ?_ _)) g2); clear g2 hr2) | (go_at_call 17; refine (ifChart_any _ (New w1.heap.size w2.heap.size) _ (chartC c 0) (HCX.out.up (by repeat (first | exact Chg.refl _ _ | apply Chg.drew | apply Chg.drewN | refine Chg.alloc ?_ _))) (fun b h => Nat.lt_of_lt_of_le h.2 (Chg.size (show Up w2 _ from (by repeat (first | exact Chg.refl _ _ | apply Chg.drew | apply Chg.drewN | refine Chg.alloc ?_ _)))))).mono ?_; rintro e w3 ⟨A3, k3, r, kc, hkc, hr3, rfl, hx3, g3⟩; have G3 := Lib.hid (show Up w2 w3 from Chg.trans (by repeat (first | exact Chg.refl _ _ | apply Chg.drew | apply Chg.drewN | refine Chg.alloc ?_ _)) g3); have HX3 := Lib.hid hx3; have G13 := Lib.hid (Chg.trans G2.out G3.out); obtain ⟨x0, f0⟩ := CellF.up G13.out ⟨x0, f0⟩; obtain ⟨x1, f1⟩ := CellF.up G13.out ⟨x1, f1⟩; clear g3 hx3))
  have CZ := Lib.hid (show Chg (fun b => b = (w.heap.size + 1)) w3 ((w3.setCell ⟨(w.heap.size + 1), 0, none⟩ (.int .i64 r.n)).setCell ⟨(w.heap.size + 1), 1, none⟩ (.slice A3 r.rs.length k3)) from Chg.setCell (Chg.setCell (Chg.refl (fun b => b = (w.heap.size + 1)) w3) (p := ⟨(w.heap.size + 1), 0, none⟩) (.inl (show (w.heap.size + 1) = (w.heap.size + 1) from rfl)) _) (p := ⟨(w.heap.size + 1), 1, none⟩) (.inl (show (w.heap.size + 1) = (w.heap.size + 1) from rfl)) _)
  refine bodyPost_ret (v := .tuple #[.agg #[.int .i64 r.n, .slice A3 r.rs.length k3], .int .i64 kc]) (by simp [results, Tryd.results10, go_sem, x0, x1]) rfl ?_
  exact ⟨A3, k3, r, kc, Lib.hid hkc.out, Lib.hid hr3.out, rfl, ChartX.monoJ (HX3.out.keep CZ.out (fun b _ hs e => by have h1 := hs.1; have e : b = w.heap.size + 1 := e; omega)) (fun b hb h => ⟨Nat.le_trans G1.out.size h.1, hb⟩), Chg.new (Chg.trans G1.out G13.out) CZ.out (fun i hi e => by have e : i = w.heap.size + 1 := e; omega)⟩
end Go.Proofs.YtgdcffbakjfacaaDoor
end
section
set_option linter.unusedSimpArgs false
set_option linter.unusedVariables false
set_option maxRecDepth 100000
set_option maxHeartbeats 1000000
namespace Go.Proofs.YtgdcffbakjfacaaDoor
open Go.ChangeShapes Go.WideShapes Go.ChangeAt Go.RowKit
theorem eqInts1J_any (w : World) (S S' : Nat → Prop) (v u : Value) (xs ys : List Int) (h : Ints w S v xs) (h2 : Ints w S' u ys) :
    Calls Tryd.prog 31 #[v, u] w fun e w' => e = .returned (.bool (sameL xs ys)) ∧ Up w w' := by
  obtain ⟨A, c, rfl, hlc, hcm, -⟩ := h.shape
  obtain ⟨A2, c2, rfl, hlc2, hcm2, -⟩ := h2.shape
  have H := Lib.hid h
  have H2 := Lib.hid h2
  clear h h2
  go_enter Tryd.func31, Tryd.ntmps31
  go_wp2_with fail
  refine (equalInts_any _ _ _ _ _ _ _ H.out H2.out).mono ?_
  rintro e w1 ⟨rfl, g1⟩
  have G := Lib.hid g1
  clear g1
  go_wp2
  go_ret
  exact ⟨rfl, G.out⟩
theorem eqfIntsJ_any (w : World) (M H L M' H' L' : Nat → Prop) (v u : Value) (xs ys : List (List Int)) (h : IntSSV w M H L v xs) (h2 : IntSSV w M' H' L' u ys) :
    Calls Tryd.prog 30 #[v, u, .func (.func 31) #[] #[]] w fun e w' => e = .returned (.bool (sameL xs ys)) ∧ Up w w' := by
  obtain ⟨A, c, rfl, hlc, hcm, -⟩ := h.shape
  obtain ⟨A2, c2, rfl, hlc2, hcm2, -⟩ := h2.shape
  by_cases hl : xs.length = ys.length
  rotate_left
  · have HB := Lib.hid (sameL_len hl)
    have hb : ((xs.length : Int) != ys.length) = true := by simp; omega
    clear hl h h2
    go_enter Tryd.func30, Tryd.ntmps30
    go_wp2
    go_ret
    exact ⟨ret_bool HB.out.symm, Chg.refl _ _⟩
  have HL := Lib.hid hl
  have hb : ((xs.length : Int) != ys.length) = false := by simp; omega
  have H := Lib.hid h
  have H2 := Lib.hid h2
  clear h h2 hl
  go_enter Tryd.func30, Tryd.ntmps30
  go_wp2
  go_loopw [17] (fun i wr => ∃ (j : Nat), j ≤ xs.length ∧ i = .int .i64 j ∧ Hid (Up w wr) ∧ Hid (AgreeTo xs ys j)) (fun i _ => xs.length - (intOf i).toNat)
  case atStart => exact ⟨0, by omega, rfl, Chg.refl _ _, AgreeTo.start _ _⟩
  case round =>
    obtain ⟨j, hj, rfl, hu, hp⟩ := hrel
    by_cases hlt : j < xs.length
    · have hlt2 : j < ys.length := by have := HL.out; omega
      obtain ⟨b3, o3, c3', vs3, he3, -, -, -, hE3, hc3⟩ := (H.out.up hu.out).at_ hlt
      obtain ⟨rfl, rfl⟩ : A = some ⟨b3, o3, none⟩ ∧ c = c3' := by simpa using he3
      obtain ⟨A3, k3, rfl, hv3, -⟩ := IntsE.val hE3
      have f0 := (hc3 0 _ rfl).1
      simp only [Nat.mul_one, Nat.add_zero] at f0
      have HV3 := Lib.hid hv3
      clear hc3 hv3 he3
      obtain ⟨b5, o5, c5', vs5, he5, -, -, -, hE5, hc5⟩ := (H2.out.up hu.out).at_ hlt2
      obtain ⟨rfl, rfl⟩ : A2 = some ⟨b5, o5, none⟩ ∧ c2 = c5' := by simpa using he5
      obtain ⟨A5, k5, rfl, hv5, -⟩ := IntsE.val hE5
      have e0 := (hc5 0 _ rfl).1
      simp only [Nat.mul_one, Nat.add_zero] at e0
      have HV5 := Lib.hid hv5
      clear hc5 hv5 he5
      by_cases he : xs[j] = ys[j]
      · have HE := Lib.hid he
        have HS : Hid (sameL xs[j] ys[j] = true) := Lib.hid (decide_eq_true he)
        clear he
        go_wp2_with fail
        refine (eqInts1J_any _ _ _ _ _ _ _ (HV3.out.up (by repeat (first | exact Chg.refl _ _ | apply Chg.drew | apply Chg.drewN | refine Chg.alloc ?_ _))) (HV5.out.up (by repeat (first | exact Chg.refl _ _ | apply Chg.drew | apply Chg.drewN | refine Chg.alloc ?_ _)))).mono ?_
        rintro e w1 ⟨rfl, g1⟩
        have GX := Lib.hid (show Up wr _ from Chg.trans (by repeat (first | exact Chg.refl _ _ | apply Chg.drew | apply Chg.drewN | refine Chg.alloc ?_ _)) g1)
        clear g1
        rw [HS.out]
        clear f0 e0
        go_wp2
        go_roundw
        case rel => exact ⟨j + 1, by omega, by go_num, Lib.hid (Chg.trans hu.out GX.out), Lib.hid (AgreeTo.next hp.out hlt hlt2 HE.out)⟩
        case measure => first | (simp [intOf]; done) | (simp [intOf]; omega)
      · have HB := Lib.hid (sameL_at hlt hlt2 he)
        have HS : Hid (sameL xs[j] ys[j] = false) := Lib.hid (decide_eq_false he)
        clear he
        go_wp2_with fail
        refine (eqInts1J_any _ _ _ _ _ _ _ (HV3.out.up (by repeat (first | exact Chg.refl _ _ | apply Chg.drew | apply Chg.drewN | refine Chg.alloc ?_ _))) (HV5.out.up (by repeat (first | exact Chg.refl _ _ | apply Chg.drew | apply Chg.drewN | refine Chg.alloc ?_ _)))).mono ?_
        rintro e w1 ⟨rfl, g1⟩
        have GX := Lib.hid (show Up wr _ from Chg.trans (by repeat (first | exact Chg.refl _ _ | apply Chg.drew | apply Chg.drewN | refine Chg.alloc ?_ _)) g1)
        clear g1
        rw [HS.out]
        clear f0 e0
        go_wp2
        go_ret
        exact ⟨ret_bool HB.out.symm, Chg.trans hu.out GX.out⟩
    · obtain rfl : j = xs.length := by omega
      have HB := Lib.hid (sameL_all hp.out HL.out)
      go_wp2
      go_ret
      exact ⟨ret_bool HB.out.symm, hu.out⟩
theorem sameLists_any (w : World) (M H L M' H' L' : Nat → Prop) (v u : Value) (xs ys : List (List Int)) (h : IntSSV w M H L v xs) (h2 : IntSSV w M' H' L' u ys) :
    Calls Tryd.prog 16 #[v, u] w fun e w' => e = .returned (.bool (sameL xs ys)) ∧ Up w w' := by
  obtain ⟨A, c, rfl, -⟩ := h.shape
  obtain ⟨A2, c2, rfl, -⟩ := h2.shape
  have HX := Lib.hid h
  have HY := Lib.hid h2
  clear h h2
  go_enter Tryd.func16, Tryd.ntmps16
  go_wp2_with fail
  refine (eqfIntsJ_any _ M H L M' H' L' _ _ _ _ (HX.out.up (by repeat (first | exact Chg.refl _ _ | apply Chg.drew | apply Chg.drewN | refine Chg.alloc ?_ _))) (HY.out.up (by repeat (first | exact Chg.refl _ _ | apply Chg.drew | apply Chg.drewN | refine Chg.alloc ?_ _)))).mono ?_
  rintro e w1 ⟨rfl, g1⟩
  have G := Lib.hid (show Up w w1 from Chg.trans (by repeat (first | exact Chg.refl _ _ | apply Chg.drew | apply Chg.drewN | refine Chg.alloc ?_ _)) g1)
  clear g1
  go_wp2
  go_ret
  exact ⟨rfl, Chg.trans G.out (by repeat (first | exact Chg.refl _ _ | apply Chg.drew | apply Chg.drewN | refine Chg.alloc ?_ _))⟩
theorem SameColours_any (w : World) (S S' : Nat → Prop) (n : Nat) (rs : List (List Int)) (A A2 : Option Addr) (k k2 : Nat) (h : IntSSV w S S S (.slice A rs.length k) rs) (h2 : IntSSV w S' S' S' (.slice A2 rs.length k2) rs) :
    Calls Tryd.prog 9 #[.agg #[.int .i64 (n : Int), .slice A rs.length k], .agg #[.int .i64 (n : Int), .slice A2 rs.length k2]] w fun e w' => e = .returned (.bool true) ∧ Up w w' := by
  have HX := Lib.hid h
  have HY := Lib.hid h2
  have HE := Lib.hid (show sameL rs rs = true from decide_eq_true rfl)
  clear h h2
  go_enter Tryd.func9, Tryd.ntmps9
  go_wp2_with fail
  refine (sameLists_any _ S S S S' S' S' _ _ rs rs (HX.out.up (by repeat (first | exact Chg.refl _ _ | apply Chg.drew | apply Chg.drewN | refine Chg.alloc ?_ _))) (HY.out.up (by repeat (first | exact Chg.refl _ _ | apply Chg.drew | apply Chg.drewN | refine Chg.alloc ?_ _)))).mono ?_
  rintro e w1 ⟨rfl, g1⟩
  have G := Lib.hid (show Up w w1 from Chg.trans (by repeat (first | exact Chg.refl _ _ | apply Chg.drew | apply Chg.drewN | refine Chg.alloc ?_ _)) g1)
  clear g1
  rw [HE.out]
  go_wp2
  go_ret
  exact ⟨rfl, Chg.trans G.out (by repeat (first | exact Chg.refl _ _ | apply Chg.drew | apply Chg.drewN | refine Chg.alloc ?_ _))⟩
end Go.Proofs.YtgdcffbakjfacaaDoor
end
