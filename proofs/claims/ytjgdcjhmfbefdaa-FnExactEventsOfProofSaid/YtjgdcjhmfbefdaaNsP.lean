/- The laws' helpers on nested slices. No condition. -/
import Derived.Test.YtjgdcjhmfbefdaaNsN
import Derived.Test.YtjgdcjhmfbefdaaNsE
set_option linter.unusedSimpArgs false
set_option linter.unusedVariables false
set_option maxRecDepth 100000
set_option maxHeartbeats 1000000
namespace Go.Proofs.Ytjgdcjhmfbefdaa
open Go.ChangeShapes Go.WideShapes Go.ChangeAt Go.RowKit
structure ProofM where
  forms : List NormM
  sts : List (List EvM)
def ProofE (M H L : Nat → Prop) (w : World) (vs : List Value) (x : ProofM) : Prop := ∃ A0 c0 A1 c1, vs = [.slice A0 x.forms.length c0, .slice A1 x.sts.length c1] ∧ NormSV w M H L (.slice A0 x.forms.length c0) x.forms ∧ EvSV w M H L (.slice A1 x.sts.length c1) x.sts ∧ (x.forms.length ≤ c0 ∧ c0 ≤ 9223372036854775807) ∧ (x.sts.length ≤ c1 ∧ c1 ≤ 9223372036854775807)
theorem ProofE.keep {M H L T : Nat → Prop} {w w' : World} {vs : List Value} {x : ProofM} (h : ProofE M H L w vs x) (g : Chg T w w') (hd : ∀ b, M b ∨ H b ∨ L b → ¬ T b) : ProofE M H L w' vs x := let ⟨A0, c0, A1, c1, he, h0, h1, h2, h3⟩ := h; ⟨A0, c0, A1, c1, he, h0.keep g hd, h1.keep g hd, h2, h3⟩
theorem ProofE.up {M H L : Nat → Prop} {w w' : World} {vs : List Value} {x : ProofM} (h : ProofE M H L w vs x) (g : Up w w') : ProofE M H L w' vs x := h.keep g fun _ _ h => h
theorem ProofE.mono {M H L M' H' L' : Nat → Prop} {w : World} {vs : List Value} {x : ProofM} (h : ProofE M H L w vs x) (hm : ∀ b, b < w.heap.size → M b → M' b) (hr : ∀ b, b < w.heap.size → H b → H' b) (hl : ∀ b, b < w.heap.size → L b → L' b) : ProofE M' H' L' w vs x := let ⟨A0, c0, A1, c1, he, h0, h1, h2, h3⟩ := h; ⟨A0, c0, A1, c1, he, h0.mono hm hr hl, h1.mono hm hr hl, h2, h3⟩
def ProofV (w : World) (M H L : Nat → Prop) (v : Value) (x : ProofM) : Prop := ∃ A0 c0 A1 c1, v = .agg #[.slice A0 x.forms.length c0, .slice A1 x.sts.length c1] ∧ NormSV w M H L (.slice A0 x.forms.length c0) x.forms ∧ EvSV w M H L (.slice A1 x.sts.length c1) x.sts ∧ (x.forms.length ≤ c0 ∧ c0 ≤ 9223372036854775807) ∧ (x.sts.length ≤ c1 ∧ c1 ≤ 9223372036854775807)
theorem ProofV.keep {M H L T : Nat → Prop} {w w' : World} {v : Value} {x : ProofM} (h : ProofV w M H L v x) (g : Chg T w w') (hd : ∀ b, M b ∨ H b ∨ L b → ¬ T b) : ProofV w' M H L v x := let ⟨A0, c0, A1, c1, he, h0, h1, h2, h3⟩ := h; ⟨A0, c0, A1, c1, he, h0.keep g hd, h1.keep g hd, h2, h3⟩
theorem ProofV.up {M H L : Nat → Prop} {w w' : World} {v : Value} {x : ProofM} (h : ProofV w M H L v x) (g : Up w w') : ProofV w' M H L v x := h.keep g fun _ _ h => h
theorem ProofV.mono {M H L M' H' L' : Nat → Prop} {w : World} {v : Value} {x : ProofM} (h : ProofV w M H L v x) (hm : ∀ b, b < w.heap.size → M b → M' b) (hr : ∀ b, b < w.heap.size → H b → H' b) (hl : ∀ b, b < w.heap.size → L b → L' b) : ProofV w M' H' L' v x := let ⟨A0, c0, A1, c1, he, h0, h1, h2, h3⟩ := h; ⟨A0, c0, A1, c1, he, h0.mono hm hr hl, h1.mono hm hr hl, h2, h3⟩
theorem ProofE.val {M H L : Nat → Prop} {w : World} {vs : List Value} {x : ProofM} (h : ProofE M H L w vs x) : ∃ A0 c0 A1 c1, vs = [.slice A0 x.forms.length c0, .slice A1 x.sts.length c1] ∧ ProofV w M H L (.agg #[.slice A0 x.forms.length c0, .slice A1 x.sts.length c1]) x :=
  let ⟨A0, c0, A1, c1, he, h0, h1, h2, h3⟩ := h; ⟨A0, c0, A1, c1, he, A0, c0, A1, c1, rfl, h0, h1, h2, h3⟩
theorem ProofV.val {M H L : Nat → Prop} {w : World} {v : Value} {x : ProofM} (h : ProofV w M H L v x) : ∃ A0 c0 A1 c1, v = .agg #[.slice A0 x.forms.length c0, .slice A1 x.sts.length c1] ∧ ProofV w M H L (.agg #[.slice A0 x.forms.length c0, .slice A1 x.sts.length c1]) x := by
  obtain ⟨A0, c0, A1, c1, rfl, h0, h1, h2, h3⟩ := h
  exact ⟨_, _, _, _, rfl, _, _, _, _, rfl, h0, h1, h2, h3⟩
theorem ProofV.parts {M H L : Nat → Prop} {w : World} {v : Value} {x : ProofM} (h : ProofV w M H L v x) : ∃ A0 c0 A1 c1, v = .agg #[.slice A0 x.forms.length c0, .slice A1 x.sts.length c1] ∧ NormSV w M H L (.slice A0 x.forms.length c0) x.forms ∧ EvSV w M H L (.slice A1 x.sts.length c1) x.sts ∧ (x.forms.length ≤ c0 ∧ c0 ≤ 9223372036854775807) ∧ (x.sts.length ≤ c1 ∧ c1 ≤ 9223372036854775807) := h
theorem ProofE.mk {M H L : Nat → Prop} {w : World} {x : ProofM} {B0 B1 : Option Addr} {d0 d1 : Nat} (h : ProofV w M H L (.agg #[.slice B0 x.forms.length d0, .slice B1 x.sts.length d1]) x) : ProofE M H L w [.slice B0 x.forms.length d0, .slice B1 x.sts.length d1] x := by
  obtain ⟨A0, c0, A1, c1, he, h0, h1, h2, h3⟩ := h
  simp only [Value.agg.injEq, Array.mk.injEq, List.cons.injEq, Value.slice.injEq, true_and, and_true] at he
  obtain ⟨⟨rfl, rfl⟩, ⟨rfl, rfl⟩⟩ := he
  exact ⟨_, _, _, _, rfl, h0, h1, h2, h3⟩
theorem szProof_ok (w : World) (M H L : Nat → Prop) (v : Value) (x : ProofM) (k : Int) (hk : 0 ≤ k ∧ k ≤ 1048576) (hl : (szF (fun x => szF List.length x.fs) x.forms + szF List.length x.sts : Int) ≤ k) (h : ProofV w M H L v x) :
    Calls Try.prog 10 #[v, .int .i64 k] w fun e w' => e = .returned (.int .i64 (k - (szF (fun x => szF List.length x.fs) x.forms + szF List.length x.sts))) ∧ Up w w' := by
  obtain ⟨A0, c0, A1, c1, rfl, h0, h1, h2, h3⟩ := h
  have U0 := Lib.hid ((Chg.refl Nowhere w).alloc (.cells #[.slice A0 x.forms.length c0, .slice A1 x.sts.length c1] 25))
  have H0 := Lib.hid (h0.up U0.out)
  have H1 := Lib.hid (h1.up U0.out)
  have q0 := (show (w.alloc (.cells #[.slice A0 x.forms.length c0, .slice A1 x.sts.length c1] 25)).cell? ⟨w.heap.size, 0, none⟩ = some (.slice A0 x.forms.length c0) from cell_new _ _ _ _)
  have q1 := (show (w.alloc (.cells #[.slice A0 x.forms.length c0, .slice A1 x.sts.length c1] 25)).cell? ⟨w.heap.size, 1, none⟩ = some (.slice A1 x.sts.length c1) from cell_new _ _ _ _)
  clear h0 h1 h2 h3
  have G0 := Lib.hid U0.out
  go_enter Try.func10, Try.ntmps10
  have HB0 : Hid (0 ≤ k ∧ k ≤ 1048576) := Lib.hid (by omega)
  have HX0 : Hid ((szF (fun x => szF List.length x.fs) x.forms : Int) ≤ k) := Lib.hid (by omega)
  have hd0 : decide (k - (szF (fun x => szF List.length x.fs) x.forms : Int) < 0) = false := decide_eq_false (by omega)
  go_wp2_with fail
  with_reducible refine (szNormSV_ok _ M H L _ x.forms _ HB0.out HX0.out H0.out).mono ?_
  rintro e w1 ⟨rfl, g1⟩
  have G1 := Lib.hid (Chg.trans G0.out g1)
  have q1 := Chg.cell g1 q1 id
  have H1 := Lib.hid (H1.out.up g1)
  clear g1 q0
  have HB1 : Hid (0 ≤ k - szF (fun x => szF List.length x.fs) x.forms ∧ k - szF (fun x => szF List.length x.fs) x.forms ≤ 1048576) := Lib.hid (by omega)
  have HX1 : Hid ((szF List.length x.sts : Int) ≤ k - szF (fun x => szF List.length x.fs) x.forms) := Lib.hid (by omega)
  have hd1 : decide (k - szF (fun x => szF List.length x.fs) x.forms - (szF List.length x.sts : Int) < 0) = false := decide_eq_false (by omega)
  go_wp2_with fail
  with_reducible refine (szEvSV_ok _ M H L _ x.sts _ HB1.out HX1.out H1.out).mono ?_
  rintro e w2 ⟨rfl, g1⟩
  have G2 := Lib.hid (Chg.trans G1.out g1)
  clear g1 q1
  go_wp2
  go_ret
  exact ⟨ret_int (by omega), G2.out⟩
theorem szProof_no (w : World) (M H L : Nat → Prop) (v : Value) (x : ProofM) (k : Int) (hk : 0 ≤ k ∧ k ≤ 1048576) (hl : k < (szF (fun x => szF List.length x.fs) x.forms + szF List.length x.sts : Int)) (h : ProofV w M H L v x) :
    Calls Try.prog 10 #[v, .int .i64 k] w fun e w' => e = .returned (.int .i64 (-1)) ∧ Up w w' := by
  obtain ⟨A0, c0, A1, c1, rfl, h0, h1, h2, h3⟩ := h
  have U0 := Lib.hid ((Chg.refl Nowhere w).alloc (.cells #[.slice A0 x.forms.length c0, .slice A1 x.sts.length c1] 25))
  have H0 := Lib.hid (h0.up U0.out)
  have H1 := Lib.hid (h1.up U0.out)
  have q0 := (show (w.alloc (.cells #[.slice A0 x.forms.length c0, .slice A1 x.sts.length c1] 25)).cell? ⟨w.heap.size, 0, none⟩ = some (.slice A0 x.forms.length c0) from cell_new _ _ _ _)
  have q1 := (show (w.alloc (.cells #[.slice A0 x.forms.length c0, .slice A1 x.sts.length c1] 25)).cell? ⟨w.heap.size, 1, none⟩ = some (.slice A1 x.sts.length c1) from cell_new _ _ _ _)
  clear h0 h1 h2 h3
  have G0 := Lib.hid U0.out
  go_enter Try.func10, Try.ntmps10
  have HB0 : Hid (0 ≤ k ∧ k ≤ 1048576) := Lib.hid (by omega)
  by_cases hx0 : (szF (fun x => szF List.length x.fs) x.forms : Int) ≤ k
  rotate_left
  · have HX0 : Hid (k < (szF (fun x => szF List.length x.fs) x.forms : Int)) := Lib.hid (by omega)
    have hd : decide ((-1 : Int) < 0) = true := rfl
    clear hx0 hl
    go_wp2_with fail
    with_reducible refine (szNormSV_no _ M H L _ x.forms _ HB0.out HX0.out H0.out).mono ?_
    rintro e w1 ⟨rfl, g1⟩
    have G1 := Lib.hid (Chg.trans G0.out g1)
    clear g1 q0 q1
    go_wp2
    go_ret
    exact ⟨rfl, G1.out⟩
  have HX0 : Hid ((szF (fun x => szF List.length x.fs) x.forms : Int) ≤ k) := Lib.hid (by omega)
  have hd0 : decide (k - (szF (fun x => szF List.length x.fs) x.forms : Int) < 0) = false := decide_eq_false (by omega)
  go_wp2_with fail
  with_reducible refine (szNormSV_ok _ M H L _ x.forms _ HB0.out HX0.out H0.out).mono ?_
  rintro e w1 ⟨rfl, g1⟩
  have G1 := Lib.hid (Chg.trans G0.out g1)
  have q1 := Chg.cell g1 q1 id
  have H1 := Lib.hid (H1.out.up g1)
  clear g1 q0
  have HB1 : Hid (0 ≤ k - szF (fun x => szF List.length x.fs) x.forms ∧ k - szF (fun x => szF List.length x.fs) x.forms ≤ 1048576) := Lib.hid (by omega)
  have HX1 : Hid (k - szF (fun x => szF List.length x.fs) x.forms < (szF List.length x.sts : Int)) := Lib.hid (by omega)
  have hd : decide ((-1 : Int) < 0) = true := rfl
  go_wp2_with fail
  with_reducible refine (szEvSV_no _ M H L _ x.sts _ HB1.out HX1.out H1.out).mono ?_
  rintro e w2 ⟨rfl, g1⟩
  have G2 := Lib.hid (Chg.trans G1.out g1)
  clear g1 q1
  go_wp2
  go_ret
  exact ⟨rfl, G2.out⟩
theorem toProof_any (w : World) (M H L : Nat → Prop) (v : Value) (x : ProofM) (hb : szF (fun x => szF List.length x.fs) x.forms + szF List.length x.sts ≤ 1048576) (h : ProofV w M H L v x) :
    Calls Try.prog 12 #[v] w fun e w' => ∃ u M' H' L', e = .returned u ∧ Apart3 w.heap.size w'.heap.size M' H' L' ∧ ProofV w' M' H' L' u x ∧ Up w w' := by
  obtain ⟨A0, c0, A1, c1, rfl, h0, h1, h2, h3⟩ := h
  have H0 := Lib.hid h0
  have H1 := Lib.hid h1
  have H2 := Lib.hid h2
  have H3 := Lib.hid h3
  clear h0 h1 h2 h3
  have hw0 := Lib.hid (show Up w (w.alloc (.cells #[.slice A0 x.forms.length c0, .slice A1 x.sts.length c1] 25)) from (Chg.refl Nowhere w).alloc _)
  go_enter Try.func12, Try.ntmps12
  have q0 := (show (w.alloc (.cells #[.slice A0 x.forms.length c0, .slice A1 x.sts.length c1] 25)).cell? ⟨w.heap.size, 0, none⟩ = some (.slice A0 x.forms.length c0) from cell_new _ _ _ _)
  have q1 := (show (w.alloc (.cells #[.slice A0 x.forms.length c0, .slice A1 x.sts.length c1] 25)).cell? ⟨w.heap.size, 1, none⟩ = some (.slice A1 x.sts.length c1) from cell_new _ _ _ _)
  have hbx : w.heap.size < (w.alloc (.cells #[.slice A0 x.forms.length c0, .slice A1 x.sts.length c1] 25)).heap.size := by simp
  go_wp2_with fail
  refine (toNormSV_any _ M H L _ x.forms (by omega) (H0.out.up (by repeat (first | exact Chg.refl _ _ | apply Chg.drew | apply Chg.drewN | refine Chg.alloc ?_ _)))).mono ?_
  rintro e w1 ⟨v1, M1, H1', L1, rfl, ap1, k1, g1⟩
  obtain ⟨B1, d1, rfl, hl1, hc1, -⟩ := k1.shape
  have U1 := Lib.hid (show Up w w1 from Chg.trans (by repeat (first | exact Chg.refl _ _ | apply Chg.drew | apply Chg.drewN | refine Chg.alloc ?_ _)) g1)
  have hs1 : w.heap.size + 1 + 1 + 1 ≤ w1.heap.size := by have := g1.size; simpa using this
  have HA1 : Hid (Apart3 (w.heap.size + 1 + 1 + 1) w1.heap.size M1 H1' L1) := Lib.hid (by simpa using ap1)
  have q0 := Chg.cell (Chg.trans (by repeat (first | exact Chg.refl _ _ | apply Chg.drew | apply Chg.drewN | refine Chg.alloc ?_ _)) g1) q0 id
  have q1 := Chg.cell (Chg.trans (by repeat (first | exact Chg.refl _ _ | apply Chg.drew | apply Chg.drewN | refine Chg.alloc ?_ _)) g1) q1 id
  have x0 := (show CellF w1 ⟨w.heap.size + 1 + 1, 0, none⟩ (.slice none 0 0) from CellF.up g1 (by repeat (first | ((refine cellF_at ?_ rfl); (simp; done)) | refine CellF.up ((Chg.refl _ _).alloc _) ?_)))
  have x1 := (show CellF w1 ⟨w.heap.size + 1 + 1, 1, none⟩ (.slice none 0 0) from CellF.up g1 (by repeat (first | ((refine cellF_at ?_ rfl); (simp; done)) | refine CellF.up ((Chg.refl _ _).alloc _) ?_)))
  have y0 := (show CellF w1 ⟨w.heap.size + 1, 0, none⟩ (.slice none 0 0) from CellF.up g1 (by repeat (first | ((refine cellF_at ?_ rfl); (simp; done)) | refine CellF.up ((Chg.refl _ _).alloc _) ?_)))
  have y1 := (show CellF w1 ⟨w.heap.size + 1, 1, none⟩ (.slice none 0 0) from CellF.up g1 (by repeat (first | ((refine cellF_at ?_ rfl); (simp; done)) | refine CellF.up ((Chg.refl _ _).alloc _) ?_)))
  have K1 := Lib.hid k1
  clear ap1 k1
  have SG1 := Lib.hid (show Chg (fun b => b = w.heap.size + 1 + 1) w1 (w1.setCell ⟨w.heap.size + 1 + 1, 0, none⟩ (.slice B1 x.forms.length d1)) from Chg.setCell (Chg.refl (fun b => b = w.heap.size + 1 + 1) _) (p := ⟨w.heap.size + 1 + 1, 0, none⟩) (.inl rfl) _)
  have US1 := Lib.hid (show Up w (w1.setCell ⟨w.heap.size + 1 + 1, 0, none⟩ (.slice B1 x.forms.length d1)) from Chg.setCell U1.out (.inr (by show w.heap.size ≤ w.heap.size + 1 + 1; omega)) _)
  clear g1
  obtain ⟨x0c, x0f⟩ := x0
  obtain ⟨y0c, y0f⟩ := y0
  obtain ⟨x1c, x1f⟩ := x1
  obtain ⟨y1c, y1f⟩ := y1
  have x0 := Lib.hid (show CellF _ _ _ from ⟨x0c, x0f⟩)
  have y0 := Lib.hid (show CellF _ _ _ from ⟨y0c, y0f⟩)
  have x1 := Lib.hid (show CellF _ _ _ from ⟨x1c, x1f⟩)
  have y1 := Lib.hid (show CellF _ _ _ from ⟨y1c, y1f⟩)
  go_wp2_with fail
  refine (toEvSV_any _ M H L _ x.sts (by omega) (H1.out.up (US1.out))).mono ?_
  rintro e w2 ⟨v2, M2, H2', L2, rfl, ap2, k2, g2⟩
  obtain ⟨B2, d2, rfl, hl2, hc2, -⟩ := k2.shape
  have U2 := Lib.hid (Chg.trans US1.out g2)
  have hs2 : w1.heap.size ≤ w2.heap.size := by have := g2.size; simpa using this
  have HA2 : Hid (Apart3 (w.heap.size + 1 + 1 + 1) w2.heap.size (Un M1 M2) (Un H1' H2') (Un L1 L2)) := Lib.hid (Apart3.un HA1.out (by simpa using ap2) (by omega) (by omega))
  have q1 := Chg.cell (Chg.trans SG1.out (Chg.of_up g2)) q1 (fun he => by have he : w.heap.size = w.heap.size + 1 + 1 := he; omega)
  have x0 := CellF.up g2 (CellF.set (u := .slice B1 x.forms.length d1) x0)
  have x1 := CellF.up g2 (CellF.set_ne (q := ⟨w.heap.size + 1 + 1, 0, none⟩) (x := .slice B1 x.forms.length d1) x1 (by simp))
  have y0 := CellF.up g2 (CellF.set_ne (q := ⟨w.heap.size + 1 + 1, 0, none⟩) (x := .slice B1 x.forms.length d1) y0 (by simp))
  have y1 := CellF.up g2 (CellF.set_ne (q := ⟨w.heap.size + 1 + 1, 0, none⟩) (x := .slice B1 x.forms.length d1) y1 (by simp))
  have K1 := Lib.hid ((K1.out.keep SG1.out (fun b hb he => by have := (HA1.out.1 b hb).1; have he : b = w.heap.size + 1 + 1 := he; omega)).up g2)
  have K2 := Lib.hid k2
  clear ap2 k2
  clear g2
  obtain ⟨x0c, x0f⟩ := x0
  obtain ⟨y0c, y0f⟩ := y0
  obtain ⟨x1c, x1f⟩ := x1
  obtain ⟨y1c, y1f⟩ := y1
  go_wp2
  have HC := Lib.hid (show Chg (fun b => b = w.heap.size + 1 ∨ b = w.heap.size + 1 + 1) w2 _ from Chg.setCell (Chg.setCell (Chg.setCell (Chg.refl _ _) (p := ⟨w.heap.size + 1 + 1, 1, none⟩) (.inl (.inr rfl)) (.slice B2 x.sts.length d2)) (p := ⟨w.heap.size + 1, 0, none⟩) (.inl (.inl rfl)) (.slice B1 x.forms.length d1)) (p := ⟨w.heap.size + 1, 1, none⟩) (.inl (.inl rfl)) (.slice B2 x.sts.length d2))
  have HK : Hid (∀ b, b < w.heap.size + 1 + 1 + 1 → ¬ ((Un M1 M2) b ∨ (Un H1' H2') b ∨ (Un L1 L2) b)) := Lib.hid fun b hb h => by have := (HA2.out.1 b h).1; omega
  exact bodyPost_ret (v := .agg #[.slice B1 x.forms.length d1, .slice B2 x.sts.length d2]) (by simp [results, Try.results12, go_sem, y0c, y1c]) rfl ⟨_, _, _, _, rfl, HA2.out.widen (by omega) (by have := HC.out.size; omega), ⟨_, _, _, _, rfl, (K1.out.keep HC.out (fun b hb hd => HK.out b (by omega) (hb.elim (fun hz => .inl (.inl hz)) fun hb => hb.elim (fun hz => .inr (.inl (.inl hz))) fun hz => .inr (.inr (.inl hz))))).mono (fun b _ hb => .inl hb) (fun b _ hb => .inl hb) (fun b _ hb => .inl hb), (K2.out.keep HC.out (fun b hb hd => HK.out b (by omega) (hb.elim (fun hz => .inl (.inr hz)) fun hb => hb.elim (fun hz => .inr (.inl (.inr hz))) fun hz => .inr (.inr (.inr hz))))).mono (fun b _ hb => .inr hb) (fun b _ hb => .inr hb) (fun b _ hb => .inr hb), ⟨hl1, hc1⟩, ⟨hl2, hc2⟩⟩, Chg.new U2.out HC.out (fun i hi hd => by omega)⟩
theorem eqProof_same (w : World) (M H L M' H' L' : Nat → Prop) (v u : Value) (x : ProofM) (hv : ProofV w M H L v x) (hu : ProofV w M' H' L' u x) :
    Calls Try.prog 14 #[v, u] w fun e w' => e = .returned (.bool true) ∧ Up w w' := by
  obtain ⟨A0, c0, A1, c1, rfl, h0, h1, h2, h3⟩ := hv
  obtain ⟨B0, d0, B1, d1, rfl, g0, g1, g2, g3⟩ := hu
  have U0 := Lib.hid (show Up w ((w.alloc (.cells #[.slice A0 x.forms.length c0, .slice A1 x.sts.length c1] 31)).alloc (.cells #[.slice B0 x.forms.length d0, .slice B1 x.sts.length d1] 31)) from (by repeat (first | exact Chg.refl _ _ | apply Chg.drew | apply Chg.drewN | refine Chg.alloc ?_ _)))
  have H0 := Lib.hid (h0.up U0.out)
  have G0 := Lib.hid (g0.up U0.out)
  have H1 := Lib.hid (h1.up U0.out)
  have G1 := Lib.hid (g1.up U0.out)
  clear h0 h1 h2 h3 g0 g1 g2 g3
  have q0 := Chg.cell ((Chg.refl Nowhere (w.alloc (.cells #[.slice A0 x.forms.length c0, .slice A1 x.sts.length c1] 31))).alloc (.cells #[.slice B0 x.forms.length d0, .slice B1 x.sts.length d1] 31)) (show (w.alloc (.cells #[.slice A0 x.forms.length c0, .slice A1 x.sts.length c1] 31)).cell? ⟨w.heap.size, 0, none⟩ = some (.slice A0 x.forms.length c0) from cell_new _ _ _ _) id
  have q1 := Chg.cell ((Chg.refl Nowhere (w.alloc (.cells #[.slice A0 x.forms.length c0, .slice A1 x.sts.length c1] 31))).alloc (.cells #[.slice B0 x.forms.length d0, .slice B1 x.sts.length d1] 31)) (show (w.alloc (.cells #[.slice A0 x.forms.length c0, .slice A1 x.sts.length c1] 31)).cell? ⟨w.heap.size, 1, none⟩ = some (.slice A1 x.sts.length c1) from cell_new _ _ _ _) id
  have p0 := (show ((w.alloc (.cells #[.slice A0 x.forms.length c0, .slice A1 x.sts.length c1] 31)).alloc (.cells #[.slice B0 x.forms.length d0, .slice B1 x.sts.length d1] 31)).cell? ⟨w.heap.size + 1, 0, none⟩ = some (.slice B0 x.forms.length d0) from (cellF_at (by simp) rfl).1)
  have p1 := (show ((w.alloc (.cells #[.slice A0 x.forms.length c0, .slice A1 x.sts.length c1] 31)).alloc (.cells #[.slice B0 x.forms.length d0, .slice B1 x.sts.length d1] 31)).cell? ⟨w.heap.size + 1, 1, none⟩ = some (.slice B1 x.sts.length d1) from (cellF_at (by simp) rfl).1)
  go_enter Try.func14, Try.ntmps14
  go_wp2_with fail
  refine (eqNormSV_same _ M H L M' H' L' _ _ x.forms (H0.out.up (by repeat (first | exact Chg.refl _ _ | apply Chg.drew | apply Chg.drewN | refine Chg.alloc ?_ _))) (G0.out.up (by repeat (first | exact Chg.refl _ _ | apply Chg.drew | apply Chg.drewN | refine Chg.alloc ?_ _)))).mono ?_
  rintro e w1 ⟨rfl, g1⟩
  have GX := Lib.hid (Chg.trans (by repeat (first | exact Chg.refl _ _ | apply Chg.drew | apply Chg.drewN | refine Chg.alloc ?_ _)) g1)
  clear g1
  have U1 := Lib.hid (Chg.trans U0.out GX.out)
  clear U0
  have H1 := Lib.hid (H1.out.up GX.out)
  have G1 := Lib.hid (G1.out.up GX.out)
  have q0 := Chg.cell GX.out q0 id
  have p0 := Chg.cell GX.out p0 id
  have q1 := Chg.cell GX.out q1 id
  have p1 := Chg.cell GX.out p1 id
  clear GX
  go_wp2_with fail
  refine (eqEvSV_same _ M H L M' H' L' _ _ x.sts (H1.out.up (by repeat (first | exact Chg.refl _ _ | apply Chg.drew | apply Chg.drewN | refine Chg.alloc ?_ _))) (G1.out.up (by repeat (first | exact Chg.refl _ _ | apply Chg.drew | apply Chg.drewN | refine Chg.alloc ?_ _)))).mono ?_
  rintro e w2 ⟨rfl, g1⟩
  have GX := Lib.hid (Chg.trans (by repeat (first | exact Chg.refl _ _ | apply Chg.drew | apply Chg.drewN | refine Chg.alloc ?_ _)) g1)
  clear g1
  have U2 := Lib.hid (Chg.trans U1.out GX.out)
  clear U1
  have q0 := Chg.cell GX.out q0 id
  have p0 := Chg.cell GX.out p0 id
  have q1 := Chg.cell GX.out q1 id
  have p1 := Chg.cell GX.out p1 id
  clear GX
  go_wp2
  go_ret
  exact ⟨rfl, Chg.trans U2.out (by repeat (first | exact Chg.refl _ _ | apply Chg.drew | apply Chg.drewN | refine Chg.alloc ?_ _))⟩
end Go.Proofs.Ytjgdcjhmfbefdaa
