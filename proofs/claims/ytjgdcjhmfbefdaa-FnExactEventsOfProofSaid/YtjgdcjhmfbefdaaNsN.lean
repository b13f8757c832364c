/- The laws' helpers on nested slices. No condition. -/
import Derived.Test.YtjgdcjhmfbefdaaNsI
set_option linter.unusedSimpArgs false
set_option linter.unusedVariables false
set_option maxRecDepth 100000
set_option maxHeartbeats 1000000
namespace Go.Proofs.Ytjgdcjhmfbefdaa
open Go.ChangeShapes Go.WideShapes Go.ChangeAt Go.RowKit
structure NormM where
  n : Int
  p : Int
  fs : List (List Int)
def NormE (M H L : Nat → Prop) (w : World) (vs : List Value) (x : NormM) : Prop := ∃ A c, vs = [.int .i64 x.n, .int .i64 x.p, .slice A x.fs.length c] ∧ IntSSV w M H L (.slice A x.fs.length c) x.fs ∧ (x.fs.length ≤ c ∧ c ≤ 9223372036854775807) ∧ I64 x.n ∧ I64 x.p
theorem NormE.keep {M H L T : Nat → Prop} {w w' : World} {vs : List Value} {x : NormM} (h : NormE M H L w vs x) (g : Chg T w w') (hd : ∀ b, M b ∨ H b ∨ L b → ¬ T b) : NormE M H L w' vs x := let ⟨A, c, he, h0, h1, h2, h3⟩ := h; ⟨A, c, he, h0.keep g hd, h1, h2, h3⟩
theorem NormE.up {M H L : Nat → Prop} {w w' : World} {vs : List Value} {x : NormM} (h : NormE M H L w vs x) (g : Up w w') : NormE M H L w' vs x := h.keep g fun _ _ h => h
theorem NormE.mono {M H L M' H' L' : Nat → Prop} {w : World} {vs : List Value} {x : NormM} (h : NormE M H L w vs x) (hm : ∀ b, b < w.heap.size → M b → M' b) (hr : ∀ b, b < w.heap.size → H b → H' b) (hl : ∀ b, b < w.heap.size → L b → L' b) : NormE M' H' L' w vs x := let ⟨A, c, he, h0, h1, h2, h3⟩ := h; ⟨A, c, he, h0.mono hm hr hl, h1, h2, h3⟩
def NormV (w : World) (M H L : Nat → Prop) (v : Value) (x : NormM) : Prop := ∃ A c, v = .agg #[.int .i64 x.n, .int .i64 x.p, .slice A x.fs.length c] ∧ IntSSV w M H L (.slice A x.fs.length c) x.fs ∧ (x.fs.length ≤ c ∧ c ≤ 9223372036854775807) ∧ I64 x.n ∧ I64 x.p
theorem NormV.keep {M H L T : Nat → Prop} {w w' : World} {v : Value} {x : NormM} (h : NormV w M H L v x) (g : Chg T w w') (hd : ∀ b, M b ∨ H b ∨ L b → ¬ T b) : NormV w' M H L v x := let ⟨A, c, he, h0, h1, h2, h3⟩ := h; ⟨A, c, he, h0.keep g hd, h1, h2, h3⟩
theorem NormV.up {M H L : Nat → Prop} {w w' : World} {v : Value} {x : NormM} (h : NormV w M H L v x) (g : Up w w') : NormV w' M H L v x := h.keep g fun _ _ h => h
theorem NormV.mono {M H L M' H' L' : Nat → Prop} {w : World} {v : Value} {x : NormM} (h : NormV w M H L v x) (hm : ∀ b, b < w.heap.size → M b → M' b) (hr : ∀ b, b < w.heap.size → H b → H' b) (hl : ∀ b, b < w.heap.size → L b → L' b) : NormV w M' H' L' v x := let ⟨A, c, he, h0, h1, h2, h3⟩ := h; ⟨A, c, he, h0.mono hm hr hl, h1, h2, h3⟩
theorem NormE.val {M H L : Nat → Prop} {w : World} {vs : List Value} {x : NormM} (h : NormE M H L w vs x) : ∃ A c, vs = [.int .i64 x.n, .int .i64 x.p, .slice A x.fs.length c] ∧ NormV w M H L (.agg #[.int .i64 x.n, .int .i64 x.p, .slice A x.fs.length c]) x :=
  let ⟨A, c, he, h0, h1, h2, h3⟩ := h; ⟨A, c, he, A, c, rfl, h0, h1, h2, h3⟩
theorem NormV.val {M H L : Nat → Prop} {w : World} {v : Value} {x : NormM} (h : NormV w M H L v x) : ∃ A c, v = .agg #[.int .i64 x.n, .int .i64 x.p, .slice A x.fs.length c] ∧ NormV w M H L (.agg #[.int .i64 x.n, .int .i64 x.p, .slice A x.fs.length c]) x := by
  obtain ⟨A, c, rfl, h0, h1, h2, h3⟩ := h
  exact ⟨_, _, rfl, _, _, rfl, h0, h1, h2, h3⟩
theorem NormV.parts {M H L : Nat → Prop} {w : World} {v : Value} {x : NormM} (h : NormV w M H L v x) : ∃ A c, v = .agg #[.int .i64 x.n, .int .i64 x.p, .slice A x.fs.length c] ∧ IntSSV w M H L (.slice A x.fs.length c) x.fs ∧ (x.fs.length ≤ c ∧ c ≤ 9223372036854775807) ∧ I64 x.n ∧ I64 x.p := h
theorem NormE.mk {M H L : Nat → Prop} {w : World} {x : NormM} {B : Option Addr} {d : Nat} (h : NormV w M H L (.agg #[.int .i64 x.n, .int .i64 x.p, .slice B x.fs.length d]) x) : NormE M H L w [.int .i64 x.n, .int .i64 x.p, .slice B x.fs.length d] x := by
  obtain ⟨A, c, he, h0, h1, h2, h3⟩ := h
  simp only [Value.agg.injEq, Array.mk.injEq, List.cons.injEq, Value.slice.injEq, true_and, and_true] at he
  obtain ⟨rfl, rfl⟩ := he
  exact ⟨_, _, rfl, h0, h1, h2, h3⟩
def NormSV (w : World) (M H L : Nat → Prop) (v : Value) (xs : List NormM) : Prop := Nst 3 (NormE M H L) w M v xs
theorem NormSV.keep {M H L T : Nat → Prop} {w w' : World} {v : Value} {xs : List NormM} (h : NormSV w M H L v xs) (g : Chg T w w') (hd : ∀ b, M b ∨ H b ∨ L b → ¬ T b) : NormSV w' M H L v xs :=
  Nst.keep h (fun _ _ k => NormE.keep k g hd) g (fun b _ h => hd b (.inl h))
theorem NormSV.up {M H L : Nat → Prop} {w w' : World} {v : Value} {xs : List NormM} (h : NormSV w M H L v xs) (g : Up w w') : NormSV w' M H L v xs := h.keep g fun _ _ h => h
theorem NormSV.mono {M H L M' H' L' : Nat → Prop} {w : World} {v : Value} {xs : List NormM} (h : NormSV w M H L v xs) (hm : ∀ b, b < w.heap.size → M b → M' b) (hr : ∀ b, b < w.heap.size → H b → H' b) (hl : ∀ b, b < w.heap.size → L b → L' b) : NormSV w M' H' L' v xs :=
  Nst.mono h (fun _ _ k => NormE.mono k hm hr hl) hm
theorem NormSV.shape {M H L : Nat → Prop} {w : World} {v : Value} {xs : List NormM} (h : NormSV w M H L v xs) : ∃ A c, v = .slice A xs.length c ∧ xs.length ≤ c ∧ c ≤ 9223372036854775807 ∧ (A = none → c = 0) := Nst.shape h
theorem NormSV.at_ {M H L : Nat → Prop} {w : World} {v : Value} {xs : List NormM} (h : NormSV w M H L v xs) {i : Nat} (hi : i < xs.length) : ∃ b o c vs, v = .slice (some ⟨b, o, none⟩) xs.length c ∧ M b ∧ b < w.heap.size ∧ vs.length = 3 ∧ NormE M H L w vs xs[i] ∧
    ∀ j u, vs[j]? = some u → w.cell? ⟨b, o + i * 3 + j, none⟩ = some u ∧ w.frozen? ⟨b, o + i * 3 + j, none⟩ = false := Nst.at_ h hi
theorem szNorm_ok (w : World) (M H L : Nat → Prop) (v : Value) (x : NormM) (k : Int) (hk : 0 ≤ k ∧ k ≤ 1048576) (hl : (szF List.length x.fs : Int) ≤ k) (h : NormV w M H L v x) :
    Calls Try.prog 128 #[v, .int .i64 k] w fun e w' => e = .returned (.int .i64 (k - (szF List.length x.fs))) ∧ Up w w' := by
  obtain ⟨A, c, rfl, h0, h1, h2, h3⟩ := h
  have U0 := Lib.hid ((Chg.refl Nowhere w).alloc (.cells #[.int .i64 x.n, .int .i64 x.p, .slice A x.fs.length c] 173))
  have H0 := Lib.hid (h0.up U0.out)
  have q0 := (show (w.alloc (.cells #[.int .i64 x.n, .int .i64 x.p, .slice A x.fs.length c] 173)).cell? ⟨w.heap.size, 2, none⟩ = some (.slice A x.fs.length c) from cell_new _ _ _ _)
  clear h0 h1 h2 h3
  have G0 := Lib.hid U0.out
  go_enter Try.func128, Try.ntmps128
  have HB0 : Hid (0 ≤ k ∧ k ≤ 1048576) := Lib.hid (by omega)
  have HX0 : Hid ((szF List.length x.fs : Int) ≤ k) := Lib.hid (by omega)
  have hd0 : decide (k - (szF List.length x.fs : Int) < 0) = false := decide_eq_false (by omega)
  go_wp2_with fail
  with_reducible refine (szIntSSV_ok _ M H L _ x.fs _ HB0.out HX0.out H0.out).mono ?_
  rintro e w1 ⟨rfl, g1⟩
  have G1 := Lib.hid (Chg.trans G0.out g1)
  clear g1 q0
  go_wp2
  go_ret
  exact ⟨rfl, G1.out⟩
theorem szNorm_no (w : World) (M H L : Nat → Prop) (v : Value) (x : NormM) (k : Int) (hk : 0 ≤ k ∧ k ≤ 1048576) (hl : k < (szF List.length x.fs : Int)) (h : NormV w M H L v x) :
    Calls Try.prog 128 #[v, .int .i64 k] w fun e w' => e = .returned (.int .i64 (-1)) ∧ Up w w' := by
  obtain ⟨A, c, rfl, h0, h1, h2, h3⟩ := h
  have U0 := Lib.hid ((Chg.refl Nowhere w).alloc (.cells #[.int .i64 x.n, .int .i64 x.p, .slice A x.fs.length c] 173))
  have H0 := Lib.hid (h0.up U0.out)
  have q0 := (show (w.alloc (.cells #[.int .i64 x.n, .int .i64 x.p, .slice A x.fs.length c] 173)).cell? ⟨w.heap.size, 2, none⟩ = some (.slice A x.fs.length c) from cell_new _ _ _ _)
  clear h0 h1 h2 h3
  have G0 := Lib.hid U0.out
  go_enter Try.func128, Try.ntmps128
  have HB0 : Hid (0 ≤ k ∧ k ≤ 1048576) := Lib.hid (by omega)
  have HX0 : Hid (k < (szF List.length x.fs : Int)) := Lib.hid (by omega)
  have hd : decide ((-1 : Int) < 0) = true := rfl
  go_wp2_with fail
  with_reducible refine (szIntSSV_no _ M H L _ x.fs _ HB0.out HX0.out H0.out).mono ?_
  rintro e w1 ⟨rfl, g1⟩
  have G1 := Lib.hid (Chg.trans G0.out g1)
  clear g1 q0
  go_wp2
  go_ret
  exact ⟨rfl, G1.out⟩
theorem toNorm_any (w : World) (M H L : Nat → Prop) (v : Value) (x : NormM) (hb : szF List.length x.fs ≤ 1048576) (h : NormV w M H L v x) :
    Calls Try.prog 131 #[v] w fun e w' => ∃ u M' H' L', e = .returned u ∧ Apart3 w.heap.size w'.heap.size M' H' L' ∧ NormV w' M' H' L' u x ∧ Up w w' := by
  obtain ⟨A, c, rfl, h0, h1, h2, h3⟩ := h
  have H0 := Lib.hid h0
  have H1 := Lib.hid h1
  have H2 := Lib.hid h2
  have H3 := Lib.hid h3
  clear h0 h1 h2 h3
  have hw0 := Lib.hid (show Up w (w.alloc (.cells #[.int .i64 x.n, .int .i64 x.p, .slice A x.fs.length c] 173)) from (Chg.refl Nowhere w).alloc _)
  go_enter Try.func131, Try.ntmps131
  have q0 := (show (w.alloc (.cells #[.int .i64 x.n, .int .i64 x.p, .slice A x.fs.length c] 173)).cell? ⟨w.heap.size, 0, none⟩ = some (.int .i64 x.n) from cell_new _ _ _ _)
  have q1 := (show (w.alloc (.cells #[.int .i64 x.n, .int .i64 x.p, .slice A x.fs.length c] 173)).cell? ⟨w.heap.size, 1, none⟩ = some (.int .i64 x.p) from cell_new _ _ _ _)
  have q2 := (show (w.alloc (.cells #[.int .i64 x.n, .int .i64 x.p, .slice A x.fs.length c] 173)).cell? ⟨w.heap.size, 2, none⟩ = some (.slice A x.fs.length c) from cell_new _ _ _ _)
  have hbx : w.heap.size < (w.alloc (.cells #[.int .i64 x.n, .int .i64 x.p, .slice A x.fs.length c] 173)).heap.size := by simp
  go_wp2_with fail
  refine (toIntSSV_any _ M H L _ x.fs (by omega) (H0.out.up (by repeat (first | exact Chg.refl _ _ | apply Chg.drew | apply Chg.drewN | refine Chg.alloc ?_ _)))).mono ?_
  rintro e w1 ⟨v1, M1, H1', L1, rfl, ap1, k1, g1⟩
  obtain ⟨B1, d1, rfl, hl1, hc1, -⟩ := k1.shape
  have U1 := Lib.hid (show Up w w1 from Chg.trans (by repeat (first | exact Chg.refl _ _ | apply Chg.drew | apply Chg.drewN | refine Chg.alloc ?_ _)) g1)
  have hs1 : w.heap.size + 1 + 1 + 1 ≤ w1.heap.size := by have := g1.size; simpa using this
  have HA1 : Hid (Apart3 (w.heap.size + 1 + 1 + 1) w1.heap.size M1 H1' L1) := Lib.hid (by simpa using ap1)
  have q0 := Chg.cell (Chg.trans (by repeat (first | exact Chg.refl _ _ | apply Chg.drew | apply Chg.drewN | refine Chg.alloc ?_ _)) g1) q0 id
  have q1 := Chg.cell (Chg.trans (by repeat (first | exact Chg.refl _ _ | apply Chg.drew | apply Chg.drewN | refine Chg.alloc ?_ _)) g1) q1 id
  have q2 := Chg.cell (Chg.trans (by repeat (first | exact Chg.refl _ _ | apply Chg.drew | apply Chg.drewN | refine Chg.alloc ?_ _)) g1) q2 id
  have x0 := (show CellF w1 ⟨w.heap.size + 1 + 1, 0, none⟩ (.int .i64 x.n) from CellF.up g1 (by repeat (first | ((refine cellF_at ?_ rfl); (simp; done)) | refine CellF.up ((Chg.refl _ _).alloc _) ?_)))
  have x1 := (show CellF w1 ⟨w.heap.size + 1 + 1, 1, none⟩ (.int .i64 x.p) from CellF.up g1 (by repeat (first | ((refine cellF_at ?_ rfl); (simp; done)) | refine CellF.up ((Chg.refl _ _).alloc _) ?_)))
  have x2 := (show CellF w1 ⟨w.heap.size + 1 + 1, 2, none⟩ (.slice none 0 0) from CellF.up g1 (by repeat (first | ((refine cellF_at ?_ rfl); (simp; done)) | refine CellF.up ((Chg.refl _ _).alloc _) ?_)))
  have y0 := (show CellF w1 ⟨w.heap.size + 1, 0, none⟩ (.int .i64 0) from CellF.up g1 (by repeat (first | ((refine cellF_at ?_ rfl); (simp; done)) | refine CellF.up ((Chg.refl _ _).alloc _) ?_)))
  have y1 := (show CellF w1 ⟨w.heap.size + 1, 1, none⟩ (.int .i64 0) from CellF.up g1 (by repeat (first | ((refine cellF_at ?_ rfl); (simp; done)) | refine CellF.up ((Chg.refl _ _).alloc _) ?_)))
  have y2 := (show CellF w1 ⟨w.heap.size + 1, 2, none⟩ (.slice none 0 0) from CellF.up g1 (by repeat (first | ((refine cellF_at ?_ rfl); (simp; done)) | refine CellF.up ((Chg.refl _ _).alloc _) ?_)))
  have K1 := Lib.hid k1
  clear ap1 k1
  clear g1
  obtain ⟨x0c, x0f⟩ := x0
  obtain ⟨y0c, y0f⟩ := y0
  obtain ⟨x1c, x1f⟩ := x1
  obtain ⟨y1c, y1f⟩ := y1
  obtain ⟨x2c, x2f⟩ := x2
  obtain ⟨y2c, y2f⟩ := y2
  go_wp2
  have HC := Lib.hid (show Chg (fun b => b = w.heap.size + 1 ∨ b = w.heap.size + 1 + 1) w1 _ from Chg.setCell (Chg.setCell (Chg.setCell (Chg.setCell (Chg.refl _ _) (p := ⟨w.heap.size + 1 + 1, 2, none⟩) (.inl (.inr rfl)) (.slice B1 x.fs.length d1)) (p := ⟨w.heap.size + 1, 0, none⟩) (.inl (.inl rfl)) (.int .i64 x.n)) (p := ⟨w.heap.size + 1, 1, none⟩) (.inl (.inl rfl)) (.int .i64 x.p)) (p := ⟨w.heap.size + 1, 2, none⟩) (.inl (.inl rfl)) (.slice B1 x.fs.length d1))
  have HK : Hid (∀ b, b < w.heap.size + 1 + 1 + 1 → ¬ ((M1) b ∨ (H1') b ∨ (L1) b)) := Lib.hid fun b hb h => by have := (HA1.out.1 b h).1; omega
  exact bodyPost_ret (v := .agg #[.int .i64 x.n, .int .i64 x.p, .slice B1 x.fs.length d1]) (by simp [results, Try.results131, go_sem, y0c, y1c, y2c]) rfl ⟨_, _, _, _, rfl, HA1.out.widen (by omega) (by have := HC.out.size; omega), ⟨_, _, rfl, (K1.out.keep HC.out (fun b hb hd => HK.out b (by omega) hb)).mono (fun b _ hb => hb) (fun b _ hb => hb) (fun b _ hb => hb), ⟨hl1, hc1⟩, H2.out, H3.out⟩, Chg.new U1.out HC.out (fun i hi hd => by omega)⟩
theorem eqNorm_same (w : World) (M H L M' H' L' : Nat → Prop) (v u : Value) (x : NormM) (hv : NormV w M H L v x) (hu : NormV w M' H' L' u x) :
    Calls Try.prog 136 #[v, u] w fun e w' => e = .returned (.bool true) ∧ Up w w' := by
  obtain ⟨A, c, rfl, h0, h1, h2, h3⟩ := hv
  obtain ⟨B, d, rfl, g0, g1, g2, g3⟩ := hu
  have U0 := Lib.hid (show Up w ((w.alloc (.cells #[.int .i64 x.n, .int .i64 x.p, .slice A x.fs.length c] 100)).alloc (.cells #[.int .i64 x.n, .int .i64 x.p, .slice B x.fs.length d] 100)) from (by repeat (first | exact Chg.refl _ _ | apply Chg.drew | apply Chg.drewN | refine Chg.alloc ?_ _)))
  have H0 := Lib.hid (h0.up U0.out)
  have G0 := Lib.hid (g0.up U0.out)
  clear h0 h1 h2 h3 g0 g1 g2 g3
  have e0 : (x.n != x.n) = false := by simp
  have e1 : (x.p != x.p) = false := by simp
  have q0 := Chg.cell ((Chg.refl Nowhere (w.alloc (.cells #[.int .i64 x.n, .int .i64 x.p, .slice A x.fs.length c] 100))).alloc (.cells #[.int .i64 x.n, .int .i64 x.p, .slice B x.fs.length d] 100)) (show (w.alloc (.cells #[.int .i64 x.n, .int .i64 x.p, .slice A x.fs.length c] 100)).cell? ⟨w.heap.size, 0, none⟩ = some (.int .i64 x.n) from cell_new _ _ _ _) id
  have q1 := Chg.cell ((Chg.refl Nowhere (w.alloc (.cells #[.int .i64 x.n, .int .i64 x.p, .slice A x.fs.length c] 100))).alloc (.cells #[.int .i64 x.n, .int .i64 x.p, .slice B x.fs.length d] 100)) (show (w.alloc (.cells #[.int .i64 x.n, .int .i64 x.p, .slice A x.fs.length c] 100)).cell? ⟨w.heap.size, 1, none⟩ = some (.int .i64 x.p) from cell_new _ _ _ _) id
  have q2 := Chg.cell ((Chg.refl Nowhere (w.alloc (.cells #[.int .i64 x.n, .int .i64 x.p, .slice A x.fs.length c] 100))).alloc (.cells #[.int .i64 x.n, .int .i64 x.p, .slice B x.fs.length d] 100)) (show (w.alloc (.cells #[.int .i64 x.n, .int .i64 x.p, .slice A x.fs.length c] 100)).cell? ⟨w.heap.size, 2, none⟩ = some (.slice A x.fs.length c) from cell_new _ _ _ _) id
  have p0 := (show ((w.alloc (.cells #[.int .i64 x.n, .int .i64 x.p, .slice A x.fs.length c] 100)).alloc (.cells #[.int .i64 x.n, .int .i64 x.p, .slice B x.fs.length d] 100)).cell? ⟨(w.alloc (.cells #[.int .i64 x.n, .int .i64 x.p, .slice A x.fs.length c] 100)).heap.size, 0, none⟩ = some (.int .i64 x.n) from cell_new _ _ _ _)
  have p1 := (show ((w.alloc (.cells #[.int .i64 x.n, .int .i64 x.p, .slice A x.fs.length c] 100)).alloc (.cells #[.int .i64 x.n, .int .i64 x.p, .slice B x.fs.length d] 100)).cell? ⟨(w.alloc (.cells #[.int .i64 x.n, .int .i64 x.p, .slice A x.fs.length c] 100)).heap.size, 1, none⟩ = some (.int .i64 x.p) from cell_new _ _ _ _)
  have p2 := (show ((w.alloc (.cells #[.int .i64 x.n, .int .i64 x.p, .slice A x.fs.length c] 100)).alloc (.cells #[.int .i64 x.n, .int .i64 x.p, .slice B x.fs.length d] 100)).cell? ⟨(w.alloc (.cells #[.int .i64 x.n, .int .i64 x.p, .slice A x.fs.length c] 100)).heap.size, 2, none⟩ = some (.slice B x.fs.length d) from cell_new _ _ _ _)
  go_enter Try.func136, Try.ntmps136
  go_wp2_with fail
  refine (eqIntSSV_same _ M H L M' H' L' _ _ x.fs (H0.out.up (by repeat (first | exact Chg.refl _ _ | apply Chg.drew | apply Chg.drewN | refine Chg.alloc ?_ _))) (G0.out.up (by repeat (first | exact Chg.refl _ _ | apply Chg.drew | apply Chg.drewN | refine Chg.alloc ?_ _)))).mono ?_
  rintro e w1 ⟨rfl, g1⟩
  have G1 := Lib.hid (Chg.trans (by repeat (first | exact Chg.refl _ _ | apply Chg.drew | apply Chg.drewN | refine Chg.alloc ?_ _)) g1)
  clear g1
  have U1 := Lib.hid (Chg.trans U0.out G1.out)
  clear U0
  have q0 := Chg.cell G1.out q0 id
  have p0 := Chg.cell G1.out p0 id
  have q1 := Chg.cell G1.out q1 id
  have p1 := Chg.cell G1.out p1 id
  have q2 := Chg.cell G1.out q2 id
  have p2 := Chg.cell G1.out p2 id
  clear G1
  go_wp2
  go_ret
  exact ⟨rfl, Chg.trans U1.out (by repeat (first | exact Chg.refl _ _ | apply Chg.drew | apply Chg.drewN | refine Chg.alloc ?_ _))⟩
theorem szNormSV_ok (w : World) (M H L : Nat → Prop) (v : Value) (xs : List (NormM)) (k : Int) (hk : 0 ≤ k ∧ k ≤ 1048576) (hl : (szF (fun x => szF List.length x.fs) xs : Int) ≤ k) (h : NormSV w M H L v xs) :
    Calls Try.prog 50 #[v, .int .i64 k] w fun e w' => e = .returned (.int .i64 (k - szF (fun x => szF List.length x.fs) xs)) ∧ Up w w' := by
  obtain ⟨A, c, rfl, hlc, hcm, -⟩ := h.shape
  have H := Lib.hid h
  have HC : Hid (szF (fun x => szF List.length x.fs) xs = xs.length + cntF (fun x => szF List.length x.fs) xs xs.length) := Lib.hid rfl
  have HL := Lib.hid hl
  clear h hl
  have hd : decide (k - (xs.length : Int) < 0) = false := decide_eq_false (by have := HL.out; have := HC.out; omega)
  go_enter Try.func50, Try.ntmps50
  go_wp2
  go_loopw [1, 5] (fun q i wr => ∃ (j : Nat), j ≤ xs.length ∧ i = .int .i64 j ∧ q = .int .i64 (k - xs.length - cntF (fun x => szF List.length x.fs) xs j) ∧ Hid (0 ≤ k - xs.length - cntF (fun x => szF List.length x.fs) xs j) ∧ Hid (Up w wr)) (fun _ i _ => xs.length - (intOf i).toNat)
  case atStart => exact ⟨0, by omega, rfl, by simp [cntF], Lib.hid (by have := HL.out; have := HC.out; simp [cntF]; omega), Chg.refl _ _⟩
  case round =>
    obtain ⟨j, hj, rfl, rfl, hp, hu⟩ := hrel
    by_cases hlt : j < xs.length
    · have HS := Lib.hid (cntF_succ (f := (fun x => szF List.length x.fs)) hlt)
      have HM := Lib.hid (cntF_le (f := (fun x => szF List.length x.fs)) (xs := xs) (show j + 1 ≤ xs.length by omega))
      obtain ⟨b3, o3, c3', vs3, he3, -, -, -, hE3, hc3⟩ := (H.out.up hu.out).at_ hlt
      obtain ⟨rfl, rfl⟩ : A = some ⟨b3, o3, none⟩ ∧ c = c3' := by simpa using he3
      obtain ⟨A3, k3, rfl, hv3⟩ := NormE.val hE3
      have f0 := (hc3 0 _ rfl).1
      have f1 := (hc3 1 _ rfl).1
      have f2 := (hc3 2 _ rfl).1
      rw [Nat.add_zero] at f0
      have HV3 := Lib.hid hv3
      clear hc3 hv3 he3
      obtain ⟨q, hq⟩ : ∃ q, q = k - (xs.length : Int) - cntF (fun x => szF List.length x.fs) xs j := ⟨_, rfl⟩
      rw [← hq] at hp ⊢
      have HQ := Lib.hid hq
      have HB : Hid (0 ≤ q ∧ q ≤ 1048576) := Lib.hid (by have := hp.out; omega)
      clear hq
      have HX : Hid ((szF List.length xs[j].fs : Int) ≤ q) := Lib.hid (by have h1 := HS.out; have h2 := HM.out; have h3 := HL.out; have h4 := HC.out; have h5 := HQ.out; omega)
      go_wp2_with fail
      with_reducible refine (szNorm_ok _ _ _ _ _ _ _ HB.out HX.out HV3.out).mono ?_
      rintro e w1 ⟨rfl, g1⟩
      have G1 := Lib.hid (Chg.trans hu.out g1)
      have hd2 : decide (q - (szF List.length xs[j].fs : Int) < 0) = false := decide_eq_false (by have := HX.out; omega)
      clear f0 f1 f2 g1
      go_wp2
      go_roundw
      case rel => exact ⟨j + 1, by omega, by go_num, by rw [HS.out, HQ.out]; congr 1; omega, Lib.hid (by have h1 := HS.out; have h2 := HQ.out; have h3 := HX.out; omega), G1.out⟩
      case measure => first | (simp [intOf]; done) | (simp [intOf]; omega)
    · obtain rfl : j = xs.length := by omega
      go_wp2
      go_ret
      exact ⟨ret_int (by rw [HC.out]; omega), hu.out⟩
theorem szNormSV_no (w : World) (M H L : Nat → Prop) (v : Value) (xs : List (NormM)) (k : Int) (hk : 0 ≤ k ∧ k ≤ 1048576) (hl : k < (szF (fun x => szF List.length x.fs) xs : Int)) (h : NormSV w M H L v xs) :
    Calls Try.prog 50 #[v, .int .i64 k] w fun e w' => e = .returned (.int .i64 (-1)) ∧ Up w w' := by
  obtain ⟨A, c, rfl, hlc, hcm, -⟩ := h.shape
  have H := Lib.hid h
  have HC : Hid (szF (fun x => szF List.length x.fs) xs = xs.length + cntF (fun x => szF List.length x.fs) xs xs.length) := Lib.hid rfl
  have HL := Lib.hid hl
  clear h hl
  by_cases h0 : k < (xs.length : Int)
  · have hd : decide (k - (xs.length : Int) < 0) = true := decide_eq_true (by omega)
    go_enter Try.func50, Try.ntmps50
    go_wp2
    go_ret
    exact ⟨rfl, Chg.refl _ _⟩
  have hd : decide (k - (xs.length : Int) < 0) = false := decide_eq_false (by have := HL.out; have := HC.out; omega)
  go_enter Try.func50, Try.ntmps50
  go_wp2
  go_loopw [1, 5] (fun q i wr => ∃ (j : Nat), j ≤ xs.length ∧ i = .int .i64 j ∧ q = .int .i64 (k - xs.length - cntF (fun x => szF List.length x.fs) xs j) ∧ Hid (0 ≤ k - xs.length - cntF (fun x => szF List.length x.fs) xs j) ∧ Hid (Up w wr)) (fun _ i _ => xs.length - (intOf i).toNat)
  case atStart => exact ⟨0, by omega, rfl, by simp [cntF], Lib.hid (by have := HL.out; have := HC.out; simp [cntF]; omega), Chg.refl _ _⟩
  case round =>
    obtain ⟨j, hj, rfl, rfl, hp, hu⟩ := hrel
    by_cases hlt : j < xs.length
    · have HS := Lib.hid (cntF_succ (f := (fun x => szF List.length x.fs)) hlt)
      have HM := Lib.hid (cntF_le (f := (fun x => szF List.length x.fs)) (xs := xs) (show j + 1 ≤ xs.length by omega))
      obtain ⟨b3, o3, c3', vs3, he3, -, -, -, hE3, hc3⟩ := (H.out.up hu.out).at_ hlt
      obtain ⟨rfl, rfl⟩ : A = some ⟨b3, o3, none⟩ ∧ c = c3' := by simpa using he3
      obtain ⟨A3, k3, rfl, hv3⟩ := NormE.val hE3
      have f0 := (hc3 0 _ rfl).1
      have f1 := (hc3 1 _ rfl).1
      have f2 := (hc3 2 _ rfl).1
      rw [Nat.add_zero] at f0
      have HV3 := Lib.hid hv3
      clear hc3 hv3 he3
      obtain ⟨q, hq⟩ : ∃ q, q = k - (xs.length : Int) - cntF (fun x => szF List.length x.fs) xs j := ⟨_, rfl⟩
      rw [← hq] at hp ⊢
      have HQ := Lib.hid hq
      have HB : Hid (0 ≤ q ∧ q ≤ 1048576) := Lib.hid (by have := hp.out; omega)
      clear hq
      by_cases hx : (szF List.length xs[j].fs : Int) ≤ q
      rotate_left
      · have HX : Hid (q < (szF List.length xs[j].fs : Int)) := Lib.hid (by omega)
        clear hx
        go_wp2_with fail
        with_reducible refine (szNorm_no _ _ _ _ _ _ _ HB.out HX.out HV3.out).mono ?_
        rintro e w1 ⟨rfl, g1⟩
        have G1 := Lib.hid (Chg.trans hu.out g1)
        have hd2 : decide ((-1 : Int) < 0) = true := rfl
        clear f0 f1 f2 g1
        go_wp2
        go_ret
        exact ⟨by simp, G1.out⟩
      have HX := Lib.hid hx
      clear hx
      go_wp2_with fail
      with_reducible refine (szNorm_ok _ _ _ _ _ _ _ HB.out HX.out HV3.out).mono ?_
      rintro e w1 ⟨rfl, g1⟩
      have G1 := Lib.hid (Chg.trans hu.out g1)
      have hd2 : decide (q - (szF List.length xs[j].fs : Int) < 0) = false := decide_eq_false (by have := HX.out; omega)
      clear f0 f1 f2 g1
      go_wp2
      go_roundw
      case rel => exact ⟨j + 1, by omega, by go_num, by rw [HS.out, HQ.out]; congr 1; omega, Lib.hid (by have h1 := HS.out; have h2 := HQ.out; have h3 := HX.out; omega), G1.out⟩
      case measure => first | (simp [intOf]; done) | (simp [intOf]; omega)
    · obtain rfl : j = xs.length := by omega
      exact absurd hp.out (by have := HL.out; have := HC.out; omega)
theorem infoNormSV : (Try.prog.info? 100).map (fun i => (i.zero, i.size, i.bytes)) = some (some (.agg #[.int .i64 0, .int .i64 0, .slice none 0 0]), 3, 40) := by kernel_rfl
theorem toNormSV_any (w : World) (M H L : Nat → Prop) (v : Value) (xs : List (NormM)) (hb : szF (fun x => szF List.length x.fs) xs ≤ 1048576) (h : NormSV w M H L v xs) :
    Calls Try.prog 54 #[v] w fun e w' => ∃ u M' H' L', e = .returned u ∧ Apart3 w.heap.size w'.heap.size M' H' L' ∧ NormSV w' M' H' L' u xs ∧ Up w w' := by
  obtain ⟨A, c, rfl, hlc, hcm, -⟩ := h.shape
  have H := Lib.hid h
  have hbl : xs.length ≤ 1048576 := by unfold szF at hb; omega
  have HB := Lib.hid hb
  clear h hb
  obtain ⟨i0, hi, hz0, hz1, hz2⟩ := info_parts infoNormSV
  have hmk : ∀ u : World, (Instr.makeSlice 28 (.int .i64 (xs.length : Int)) (.int .i64 (xs.length : Int))).run Try.prog u =
      .ok (.slice (some ⟨u.heap.size, 0, none⟩) xs.length xs.length) (u.alloc (.cells (madeCells #[Value.int .i64 0, Value.int .i64 0, Value.slice none 0 0] (xs.length * 3)) 100)) := fun u => by
    have h := run_make (P := Try.prog) u 28 100 i0 (.agg #[.int .i64 0, .int .i64 0, .slice none 0 0]) Try.underlying28 hi hz0 .i64 .i64 (xs.length : Int) (xs.length : Int) (by omega) (Int.le_refl _) (by rw [hz2]; omega) (by omega)
    simpa [hz1, Value.cells] using h
  go_enter Try.func54, Try.ntmps54
  go_wp2
  have Hi := Lib.hid hmk
  clear hmk hi hz0 hz1 hz2
  go_loopw [4] (fun i wr => ∃ (j : Nat) (cs : List Value) (M' H' L' : Nat → Prop), j ≤ xs.length ∧ i = .int .i64 j ∧ Hid (Up w wr) ∧ w.heap.size < wr.heap.size ∧ Hid (Apart3 (w.heap.size + 1) wr.heap.size M' H' L') ∧ Hid (Copying wr w.heap.size 3 xs.length j cs) ∧ Hid (ChunkIn 3 (NormE M' H' L') wr cs xs j)) (fun i _ => xs.length - (intOf i).toNat)
  case atStart => exact ⟨0, [], Nowhere, Nowhere, Nowhere, by omega, rfl, (Chg.refl _ _).alloc _, by simp, Apart3.none _ _, Copying.start _ _ _ _ _ _ (by simp [size_madeCells]), ChunkIn.start⟩
  case round =>
    obtain ⟨j, cs, M1, H1, L1, hj, rfl, hg, hsz, hap, hcs, hin⟩ := hrel
    by_cases hlt : j < xs.length
    · have HBJ : Hid (szF List.length xs[j].fs ≤ 1048576) := Lib.hid (by have h1 := szF_at (f := (fun x => szF List.length x.fs)) hlt; have h3 := HB.out; omega)
      obtain ⟨b3, o3, c3', vs3, he3, -, -, -, hE3, hc3⟩ := (H.out.up hg.out).at_ hlt
      obtain ⟨rfl, rfl⟩ : A = some ⟨b3, o3, none⟩ ∧ c = c3' := by simpa using he3
      obtain ⟨A3, k3, rfl, hv3⟩ := NormE.val hE3
      have f0 := (hc3 0 _ rfl).1
      have f1 := (hc3 1 _ rfl).1
      have f2 := (hc3 2 _ rfl).1
      rw [Nat.add_zero] at f0
      have HV3 := Lib.hid hv3
      clear hc3 hv3 he3
      go_wp2_with fail
      with_reducible refine (toNorm_any _ _ _ _ _ xs[j] HBJ.out HV3.out).mono ?_
      rintro e w2 ⟨u, M2, H2, L2, rfl, ap2, k2, g2⟩
      obtain ⟨A4, k4, rfl, kk2⟩ := NormV.val k2
      have HA2 := Lib.hid (Apart3.un hap.out ap2 (by omega) g2.size)
      have hcs := Lib.hid (Copying.up hcs.out g2)
      have hin := Lib.hid (ChunkIn.keep (E' := NormE (Un M1 M2) (Un H1 H2) (Un L1 L2)) hin.out (fun _ _ h => (NormE.up h g2).mono (fun _ _ h => .inl h) (fun _ _ h => .inl h) (fun _ _ h => .inl h)))
      have HG := Lib.hid (Chg.trans hg.out g2)
      have K4 := Lib.hid (NormE.mono (NormE.mk kk2) (M' := Un M1 M2) (H' := Un H1 H2) (L' := Un L1 L2) (fun _ _ h => .inr h) (fun _ _ h => .inr h) (fun _ _ h => .inr h))
      have hsz2 := Nat.lt_of_lt_of_le hsz g2.size
      have HN : Hid (∀ b, Un M1 M2 b ∨ Un H1 H2 b ∨ Un L1 L2 b → ¬ b = w.heap.size) := Lib.hid fun b hb he => by have := (HA2.out.1 b hb).1; omega
      clear g2 k2 kk2 ap2 f0 f1 f2
      obtain ⟨u0, x0, q0⟩ := hcs.out.cell hlt 0 (by omega)
      obtain ⟨u1, x1, q1⟩ := hcs.out.cell hlt 1 (by omega)
      obtain ⟨u2, x2, q2⟩ := hcs.out.cell hlt 2 (by omega)
      rw [Nat.add_zero] at x0 q0
      go_wp2
      go_roundw
      case rel =>
        exact ⟨j + 1, cs ++ [.int .i64 xs[j].n, .int .i64 xs[j].p, .slice A4 xs[j].fs.length k4], _, _, _, by omega, by go_num, Chg.setCellsNew (Nat.le_refl _) [.int .i64 xs[j].n, .int .i64 xs[j].p, .slice A4 xs[j].fs.length k4] (j * 3) HG.out, by simpa [World.setCell] using hsz2, Lib.hid (by simpa [World.setCell] using HA2.out), by exact Copying.nextm hcs.out hlt hin.out.1 (vs := [.int .i64 xs[j].n, .int .i64 xs[j].p, .slice A4 xs[j].fs.length k4]) rfl, Lib.hid (ChunkIn.keep (E' := NormE (Un M1 M2) (Un H1 H2) (Un L1 L2)) (ChunkIn.next hin.out hlt rfl (vs := [.int .i64 xs[j].n, .int .i64 xs[j].p, .slice A4 xs[j].fs.length k4]) K4.out) (fun _ _ h => NormE.keep h (T := fun b => b = w.heap.size) (Chg.setCells (S := fun b => b = w.heap.size) rfl [.int .i64 xs[j].n, .int .i64 xs[j].p, .slice A4 xs[j].fs.length k4] (j * 3) (Chg.refl _ _)) (fun b h1 => HN.out b h1)))⟩
      case measure => first | (simp [intOf]; done) | (simp [intOf]; omega)
    · obtain rfl : j = xs.length := by omega
      go_wp2
      go_ret
      exact ⟨_, _, _, _, rfl, Apart3.addRow hap.out (Nat.le_refl _) hsz, (Nst.done (R := fun b => b = w.heap.size) hcs.out hin.out rfl hsz (by omega)).mono (fun vs x h => NormE.mono h (fun _ _ h => .inr h) (fun _ _ h => h) (fun _ _ h => h)) (fun _ _ h => .inl h), hg.out⟩
theorem eqNormSV_same (w : World) (M H L M' H' L' : Nat → Prop) (v u : Value) (xs : List (NormM)) (h : NormSV w M H L v xs) (h2 : NormSV w M' H' L' u xs) :
    Calls Try.prog 61 #[v, u] w fun e w' => e = .returned (.bool true) ∧ Up w w' := by
  obtain ⟨A, c, rfl, hlc, hcm, -⟩ := h.shape
  obtain ⟨A2, c2, rfl, hlc2, hcm2, -⟩ := h2.shape
  have H := Lib.hid h
  have H2 := Lib.hid h2
  clear h h2
  go_enter Try.func61, Try.ntmps61
  go_wp2
  go_loopw [5] (fun i wr => ∃ (j : Nat), j ≤ xs.length ∧ i = .int .i64 j ∧ Hid (Up w wr)) (fun i _ => xs.length - (intOf i).toNat)
  case atStart => exact ⟨0, by omega, rfl, Chg.refl _ _⟩
  case round =>
    obtain ⟨j, hj, rfl, hu⟩ := hrel
    by_cases hlt : j < xs.length
    · obtain ⟨b3, o3, c3', vs3, he3, -, -, -, hE3, hc3⟩ := (H.out.up hu.out).at_ hlt
      obtain ⟨rfl, rfl⟩ : A = some ⟨b3, o3, none⟩ ∧ c = c3' := by simpa using he3
      obtain ⟨A3, k3, rfl, hv3⟩ := NormE.val hE3
      have f0 := (hc3 0 _ rfl).1
      have f1 := (hc3 1 _ rfl).1
      have f2 := (hc3 2 _ rfl).1
      rw [Nat.add_zero] at f0
      have HV3 := Lib.hid hv3
      clear hc3 hv3 he3
      obtain ⟨b5, o5, c5', vs5, he5, -, -, -, hE5, hc5⟩ := (H2.out.up hu.out).at_ hlt
      obtain ⟨rfl, rfl⟩ : A2 = some ⟨b5, o5, none⟩ ∧ c2 = c5' := by simpa using he5
      obtain ⟨A5, k5, rfl, hv5⟩ := NormE.val hE5
      have e0 := (hc5 0 _ rfl).1
      have e1 := (hc5 1 _ rfl).1
      have e2 := (hc5 2 _ rfl).1
      rw [Nat.add_zero] at e0
      have HV5 := Lib.hid hv5
      clear hc5 hv5 he5
      go_wp2
      have qf0 := up_cell f0
      have qf1 := up_cell f1
      have qf2 := up_cell f2
      have qe0 := up_cell e0
      have qe1 := up_cell e1
      have qe2 := up_cell e2
      clear f0 f1 f2 e0 e1 e2
      refine wp_region_up (by kernel_rfl) (by kernel_rfl) ?_
      repeat (go_big_quiet_step (first | (go_at_call 136; with_reducible exact calls_up (eqNorm_same _ _ _ _ _ _ _ _ _ _ (HV3.out.up (UpOf.up _)) (HV5.out.up (UpOf.up _))))))
      refine wpQuiet_nil ?_
      rintro _ ⟨u, rfl⟩
      go_wp2
      go_roundw
      case rel => exact ⟨j + 1, by omega, by go_num, Lib.hid (Chg.trans hu.out u.up)⟩
      case measure => first | (simp [intOf]; done) | (simp [intOf]; omega)
    · obtain rfl : j = xs.length := by omega
      go_wp2
      go_ret
      exact ⟨rfl, hu.out⟩
end Go.Proofs.Ytjgdcjhmfbefdaa
