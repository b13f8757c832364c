/- The laws' helpers on nested slices. No condition. Charts as results of laws: marked and held. No condition but room. -/
import Derived.Test.YtchfjglofmphfaaPD13
import Derived.Test.YtchfjglofmphfaaPD17
import Derived.Test.YtchfjglofmphfaaPD15
section
set_option linter.unusedSimpArgs false
set_option linter.unusedVariables false
set_option maxRecDepth 100000
set_option maxHeartbeats 1000000
namespace Go.Proofs.Ytchfjglofmphfaa
open Go.ChangeShapes Go.WideShapes Go.ChangeAt Go.RowKit
def CoCE (M H L : Nat → Prop) (w : World) (vs : List Value) (x : ColM) : Prop := ∃ A c, vs = [.int .i64 x.n, .slice A x.rs.length c] ∧ IntSSV w M H L (.slice A x.rs.length c) x.rs ∧ (x.rs.length ≤ c ∧ c ≤ 9223372036854775807) ∧ I64 x.n
theorem CoCE.keep {M H L T : Nat → Prop} {w w' : World} {vs : List Value} {x : ColM} (h : CoCE M H L w vs x) (g : Chg T w w') (hd : ∀ b, M b ∨ H b ∨ L b → ¬ T b) : CoCE M H L w' vs x := let ⟨A, c, he, h0, h1, h2⟩ := h; ⟨A, c, he, h0.keep g hd, h1, h2⟩
theorem CoCE.up {M H L : Nat → Prop} {w w' : World} {vs : List Value} {x : ColM} (h : CoCE M H L w vs x) (g : Up w w') : CoCE M H L w' vs x := h.keep g fun _ _ h => h
theorem CoCE.mono {M H L M' H' L' : Nat → Prop} {w : World} {vs : List Value} {x : ColM} (h : CoCE M H L w vs x) (hm : ∀ b, b < w.heap.size → M b → M' b) (hr : ∀ b, b < w.heap.size → H b → H' b) (hl : ∀ b, b < w.heap.size → L b → L' b) : CoCE M' H' L' w vs x := let ⟨A, c, he, h0, h1, h2⟩ := h; ⟨A, c, he, h0.mono hm hr hl, h1, h2⟩
def CoCV (w : World) (M H L : Nat → Prop) (v : Value) (x : ColM) : Prop := ∃ A c, v = .agg #[.int .i64 x.n, .slice A x.rs.length c] ∧ IntSSV w M H L (.slice A x.rs.length c) x.rs ∧ (x.rs.length ≤ c ∧ c ≤ 9223372036854775807) ∧ I64 x.n
theorem CoCV.keep {M H L T : Nat → Prop} {w w' : World} {v : Value} {x : ColM} (h : CoCV w M H L v x) (g : Chg T w w') (hd : ∀ b, M b ∨ H b ∨ L b → ¬ T b) : CoCV w' M H L v x := let ⟨A, c, he, h0, h1, h2⟩ := h; ⟨A, c, he, h0.keep g hd, h1, h2⟩
theorem CoCV.up {M H L : Nat → Prop} {w w' : World} {v : Value} {x : ColM} (h : CoCV w M H L v x) (g : Up w w') : CoCV w' M H L v x := h.keep g fun _ _ h => h
theorem CoCV.mono {M H L M' H' L' : Nat → Prop} {w : World} {v : Value} {x : ColM} (h : CoCV w M H L v x) (hm : ∀ b, b < w.heap.size → M b → M' b) (hr : ∀ b, b < w.heap.size → H b → H' b) (hl : ∀ b, b < w.heap.size → L b → L' b) : CoCV w M' H' L' v x := let ⟨A, c, he, h0, h1, h2⟩ := h; ⟨A, c, he, h0.mono hm hr hl, h1, h2⟩
theorem CoCE.val {M H L : Nat → Prop} {w : World} {vs : List Value} {x : ColM} (h : CoCE M H L w vs x) : ∃ A c, vs = [.int .i64 x.n, .slice A x.rs.length c] ∧ CoCV w M H L (.agg #[.int .i64 x.n, .slice A x.rs.length c]) x :=
  let ⟨A, c, he, h0, h1, h2⟩ := h; ⟨A, c, he, A, c, rfl, h0, h1, h2⟩
theorem CoCV.val {M H L : Nat → Prop} {w : World} {v : Value} {x : ColM} (h : CoCV w M H L v x) : ∃ A c, v = .agg #[.int .i64 x.n, .slice A x.rs.length c] ∧ CoCV w M H L (.agg #[.int .i64 x.n, .slice A x.rs.length c]) x := by
  obtain ⟨A, c, rfl, h0, h1, h2⟩ := h
  exact ⟨_, _, rfl, _, _, rfl, h0, h1, h2⟩
theorem CoCV.parts {M H L : Nat → Prop} {w : World} {v : Value} {x : ColM} (h : CoCV w M H L v x) : ∃ A c, v = .agg #[.int .i64 x.n, .slice A x.rs.length c] ∧ IntSSV w M H L (.slice A x.rs.length c) x.rs ∧ (x.rs.length ≤ c ∧ c ≤ 9223372036854775807) ∧ I64 x.n := h
theorem CoCE.mk {M H L : Nat → Prop} {w : World} {x : ColM} {B : Option Addr} {d : Nat} (h : CoCV w M H L (.agg #[.int .i64 x.n, .slice B x.rs.length d]) x) : CoCE M H L w [.int .i64 x.n, .slice B x.rs.length d] x := by
  obtain ⟨A, c, he, h0, h1, h2⟩ := h
  simp only [Value.agg.injEq, Array.mk.injEq, List.cons.injEq, Value.slice.injEq, true_and, and_true] at he
  obtain ⟨rfl, rfl⟩ := he
  exact ⟨_, _, rfl, h0, h1, h2⟩
theorem szCoC_ok (w : World) (M H L : Nat → Prop) (v : Value) (x : ColM) (k : Int) (hk : 0 ≤ k ∧ k ≤ 1048576) (hl : (szF List.length x.rs : Int) ≤ k) (h : CoCV w M H L v x) :
    Calls Try.prog 16 #[v, .int .i64 k] w fun e w' => e = .returned (.int .i64 (k - (szF List.length x.rs))) ∧ Up w w' := by
  obtain ⟨A, c, rfl, h0, h1, h2⟩ := h
  have U0 := Lib.hid ((Chg.refl Nowhere w).alloc (.cells #[.int .i64 x.n, .slice A x.rs.length c] 43))
  have H0 := Lib.hid (h0.up U0.out)
  have q0 := (show (w.alloc (.cells #[.int .i64 x.n, .slice A x.rs.length c] 43)).cell? ⟨w.heap.size, 1, none⟩ = some (.slice A x.rs.length c) from cell_new _ _ _ _)
  clear h0 h1 h2
  have G0 := Lib.hid U0.out
  go_enter Try.func16, Try.ntmps16
  have HB0 : Hid (0 ≤ k ∧ k ≤ 1048576) := Lib.hid (by omega)
  have HX0 : Hid ((szF List.length x.rs : Int) ≤ k) := Lib.hid (by omega)
  have hd0 : decide (k - (szF List.length x.rs : Int) < 0) = false := decide_eq_false (by omega)
  go_wp2_with fail
  with_reducible refine (szIntSSV_ok _ M H L _ x.rs _ HB0.out HX0.out H0.out).mono ?_
  rintro e w1 ⟨rfl, g1⟩
  have G1 := Lib.hid (Chg.trans G0.out g1)
  clear g1 q0
  go_wp2
  go_ret
  exact ⟨rfl, G1.out⟩
theorem szCoC_no (w : World) (M H L : Nat → Prop) (v : Value) (x : ColM) (k : Int) (hk : 0 ≤ k ∧ k ≤ 1048576) (hl : k < (szF List.length x.rs : Int)) (h : CoCV w M H L v x) :
    Calls Try.prog 16 #[v, .int .i64 k] w fun e w' => e = .returned (.int .i64 (-1)) ∧ Up w w' := by
  obtain ⟨A, c, rfl, h0, h1, h2⟩ := h
  have U0 := Lib.hid ((Chg.refl Nowhere w).alloc (.cells #[.int .i64 x.n, .slice A x.rs.length c] 43))
  have H0 := Lib.hid (h0.up U0.out)
  have q0 := (show (w.alloc (.cells #[.int .i64 x.n, .slice A x.rs.length c] 43)).cell? ⟨w.heap.size, 1, none⟩ = some (.slice A x.rs.length c) from cell_new _ _ _ _)
  clear h0 h1 h2
  have G0 := Lib.hid U0.out
  go_enter Try.func16, Try.ntmps16
  have HB0 : Hid (0 ≤ k ∧ k ≤ 1048576) := Lib.hid (by omega)
  have HX0 : Hid (k < (szF List.length x.rs : Int)) := Lib.hid (by omega)
  have hd : decide ((-1 : Int) < 0) = true := rfl
  go_wp2_with fail
  with_reducible refine (szIntSSV_no _ M H L _ x.rs _ HB0.out HX0.out H0.out).mono ?_
  rintro e w1 ⟨rfl, g1⟩
  have G1 := Lib.hid (Chg.trans G0.out g1)
  clear g1 q0
  go_wp2
  go_ret
  exact ⟨rfl, G1.out⟩
theorem toCoC_any (w : World) (M H L : Nat → Prop) (v : Value) (x : ColM) (hb : szF List.length x.rs ≤ 1048576) (h : CoCV w M H L v x) :
    Calls Try.prog 18 #[v] w fun e w' => ∃ u M' H' L', e = .returned u ∧ ApartN w.heap.size w'.heap.size M' H' L' ∧ CoCV w' M' H' L' u x ∧ Up w w' := by
  obtain ⟨A, c, rfl, h0, h1, h2⟩ := h
  have H0 := Lib.hid h0
  have H1 := Lib.hid h1
  have H2 := Lib.hid h2
  clear h0 h1 h2
  have hw0 := Lib.hid (show Up w (w.alloc (.cells #[.int .i64 x.n, .slice A x.rs.length c] 43)) from (Chg.refl Nowhere w).alloc _)
  go_enter Try.func18, Try.ntmps18
  have q0 := (show (w.alloc (.cells #[.int .i64 x.n, .slice A x.rs.length c] 43)).cell? ⟨w.heap.size, 0, none⟩ = some (.int .i64 x.n) from cell_new _ _ _ _)
  have q1 := (show (w.alloc (.cells #[.int .i64 x.n, .slice A x.rs.length c] 43)).cell? ⟨w.heap.size, 1, none⟩ = some (.slice A x.rs.length c) from cell_new _ _ _ _)
  have hbx : w.heap.size < (w.alloc (.cells #[.int .i64 x.n, .slice A x.rs.length c] 43)).heap.size := by simp
  go_wp2_with fail
  refine (toIntSSV_any _ M H L _ x.rs (by omega) (H0.out.up (by repeat (first | exact Chg.refl _ _ | apply Chg.drew | apply Chg.drewN | refine Chg.alloc ?_ _)))).mono ?_
  rintro e w1 ⟨v1, M1, H1', L1, rfl, ap1, k1, g1⟩
  obtain ⟨B1, d1, rfl, hl1, hc1, -⟩ := k1.shape
  have U1 := Lib.hid (show Up w w1 from Chg.trans (by repeat (first | exact Chg.refl _ _ | apply Chg.drew | apply Chg.drewN | refine Chg.alloc ?_ _)) g1)
  have hs1 : w.heap.size + 1 + 1 + 1 ≤ w1.heap.size := by have := g1.size; simpa using this
  have HA1 : Hid (ApartN (w.heap.size + 1 + 1 + 1) w1.heap.size M1 H1' L1) := Lib.hid (by simpa using ap1)
  have q0 := Chg.cell (Chg.trans (by repeat (first | exact Chg.refl _ _ | apply Chg.drew | apply Chg.drewN | refine Chg.alloc ?_ _)) g1) q0 id
  have q1 := Chg.cell (Chg.trans (by repeat (first | exact Chg.refl _ _ | apply Chg.drew | apply Chg.drewN | refine Chg.alloc ?_ _)) g1) q1 id
  have x0 := (show CellF w1 ⟨w.heap.size + 1 + 1, 0, none⟩ (.int .i64 x.n) from CellF.up g1 (by repeat (first | ((refine cellF_at ?_ rfl); (simp; done)) | refine CellF.up ((Chg.refl _ _).alloc _) ?_)))
  have x1 := (show CellF w1 ⟨w.heap.size + 1 + 1, 1, none⟩ (.slice none 0 0) from CellF.up g1 (by repeat (first | ((refine cellF_at ?_ rfl); (simp; done)) | refine CellF.up ((Chg.refl _ _).alloc _) ?_)))
  have y0 := (show CellF w1 ⟨w.heap.size + 1, 0, none⟩ (.int .i64 0) from CellF.up g1 (by repeat (first | ((refine cellF_at ?_ rfl); (simp; done)) | refine CellF.up ((Chg.refl _ _).alloc _) ?_)))
  have y1 := (show CellF w1 ⟨w.heap.size + 1, 1, none⟩ (.slice none 0 0) from CellF.up g1 (by repeat (first | ((refine cellF_at ?_ rfl); (simp; done)) | refine CellF.up ((Chg.refl _ _).alloc _) ?_)))
  have K1 := Lib.hid k1
  clear ap1 k1
  clear g1
  obtain ⟨x0c, x0f⟩ := x0
  obtain ⟨y0c, y0f⟩ := y0
  obtain ⟨x1c, x1f⟩ := x1
  obtain ⟨y1c, y1f⟩ := y1
  go_wp2
  have HC := Lib.hid (show Chg (fun b => b = w.heap.size + 1 ∨ b = w.heap.size + 1 + 1) w1 _ from Chg.setCell (Chg.setCell (Chg.setCell (Chg.refl _ _) (p := ⟨w.heap.size + 1 + 1, 1, none⟩) (.inl (.inr rfl)) (.slice B1 x.rs.length d1)) (p := ⟨w.heap.size + 1, 0, none⟩) (.inl (.inl rfl)) (.int .i64 x.n)) (p := ⟨w.heap.size + 1, 1, none⟩) (.inl (.inl rfl)) (.slice B1 x.rs.length d1))
  have HK : Hid (∀ b, b < w.heap.size + 1 + 1 + 1 → ¬ ((M1) b ∨ (H1') b ∨ (L1) b)) := Lib.hid fun b hb h => by have := (HA1.out.1 b h).1; omega
  exact bodyPost_ret (v := .agg #[.int .i64 x.n, .slice B1 x.rs.length d1]) (by simp [results, Try.results18, go_sem, y0c, y1c]) rfl ⟨_, _, _, _, rfl, HA1.out.widen (by omega) (by have := HC.out.size; omega), ⟨_, _, rfl, (K1.out.keep HC.out (fun b hb hd => HK.out b (by omega) hb)).mono (fun b _ hb => hb) (fun b _ hb => hb) (fun b _ hb => hb), ⟨hl1, hc1⟩, H2.out⟩, Chg.new U1.out HC.out (fun i hi hd => by omega)⟩
theorem eqCoC_same (w : World) (M H L M' H' L' : Nat → Prop) (v u : Value) (x : ColM) (hv : CoCV w M H L v x) (hu : CoCV w M' H' L' u x) :
    Calls Try.prog 21 #[v, u] w fun e w' => e = .returned (.bool true) ∧ Up w w' := by
  obtain ⟨A, c, rfl, h0, h1, h2⟩ := hv
  obtain ⟨B, d, rfl, g0, g1, g2⟩ := hu
  have U0 := Lib.hid (show Up w ((w.alloc (.cells #[.int .i64 x.n, .slice A x.rs.length c] 50)).alloc (.cells #[.int .i64 x.n, .slice B x.rs.length d] 50)) from (by repeat (first | exact Chg.refl _ _ | apply Chg.drew | apply Chg.drewN | refine Chg.alloc ?_ _)))
  have H0 := Lib.hid (h0.up U0.out)
  have G0 := Lib.hid (g0.up U0.out)
  clear h0 h1 h2 g0 g1 g2
  have e0 : (x.n != x.n) = false := by simp
  have q0 := Chg.cell ((Chg.refl Nowhere (w.alloc (.cells #[.int .i64 x.n, .slice A x.rs.length c] 50))).alloc (.cells #[.int .i64 x.n, .slice B x.rs.length d] 50)) (show (w.alloc (.cells #[.int .i64 x.n, .slice A x.rs.length c] 50)).cell? ⟨w.heap.size, 0, none⟩ = some (.int .i64 x.n) from cell_new _ _ _ _) id
  have q1 := Chg.cell ((Chg.refl Nowhere (w.alloc (.cells #[.int .i64 x.n, .slice A x.rs.length c] 50))).alloc (.cells #[.int .i64 x.n, .slice B x.rs.length d] 50)) (show (w.alloc (.cells #[.int .i64 x.n, .slice A x.rs.length c] 50)).cell? ⟨w.heap.size, 1, none⟩ = some (.slice A x.rs.length c) from cell_new _ _ _ _) id
  have p0 := (show ((w.alloc (.cells #[.int .i64 x.n, .slice A x.rs.length c] 50)).alloc (.cells #[.int .i64 x.n, .slice B x.rs.length d] 50)).cell? ⟨w.heap.size + 1, 0, none⟩ = some (.int .i64 x.n) from (cellF_at (by simp) rfl).1)
  have p1 := (show ((w.alloc (.cells #[.int .i64 x.n, .slice A x.rs.length c] 50)).alloc (.cells #[.int .i64 x.n, .slice B x.rs.length d] 50)).cell? ⟨w.heap.size + 1, 1, none⟩ = some (.slice B x.rs.length d) from (cellF_at (by simp) rfl).1)
  go_enter Try.func21, Try.ntmps21
  go_wp2_with fail
  refine (eqIntSSV_same _ M H L M' H' L' _ _ x.rs (H0.out.up (by repeat (first | exact Chg.refl _ _ | apply Chg.drew | apply Chg.drewN | refine Chg.alloc ?_ _))) (G0.out.up (by repeat (first | exact Chg.refl _ _ | apply Chg.drew | apply Chg.drewN | refine Chg.alloc ?_ _)))).mono ?_
  rintro e w1 ⟨rfl, g1⟩
  have GX := Lib.hid (Chg.trans (by repeat (first | exact Chg.refl _ _ | apply Chg.drew | apply Chg.drewN | refine Chg.alloc ?_ _)) g1)
  clear g1
  have U1 := Lib.hid (Chg.trans U0.out GX.out)
  clear U0
  have q0 := Chg.cell GX.out q0 id
  have p0 := Chg.cell GX.out p0 id
  have q1 := Chg.cell GX.out q1 id
  have p1 := Chg.cell GX.out p1 id
  clear GX
  go_wp2
  go_ret
  exact ⟨rfl, Chg.trans U1.out (by repeat (first | exact Chg.refl _ _ | apply Chg.drew | apply Chg.drewN | refine Chg.alloc ?_ _))⟩
/-- a colour chart, as an argument -/
def ColA (w : World) (S : Nat → Prop) (v : Value) (c : ColM) : Prop := ColV w S S S v c
theorem ColA.up {w w' : World} {S : Nat → Prop} {v : Value} {p : ColM} (h : ColA w S v p) (g : Up w w') : ColA w' S v p := ColV.up h g
theorem ColA.keep {S T : Nat → Prop} {w w' : World} {v : Value} {p : ColM} (h : ColA w S v p) (g : Chg T w w') (hd : ∀ b, b < w.heap.size → S b → ¬ T b) : ColA w' S v p :=
  CoCV.mono (CoCV.keep (CoCV.mono (M' := fun b => S b ∧ b < w.heap.size) (H' := fun b => S b ∧ b < w.heap.size) (L' := fun b => S b ∧ b < w.heap.size) (show CoCV w S S S v p from h) (fun b hb h => ⟨h, hb⟩) (fun b hb h => ⟨h, hb⟩) (fun b hb h => ⟨h, hb⟩)) g
    (fun b hb => by rcases hb with hb | hb | hb <;> exact hd b hb.2 hb.1)) (fun b _ h => h.1) (fun b _ h => h.1) (fun b _ h => h.1)
def szCo (p : ColM) : Nat := szF List.length p.rs
theorem openCol {w : World} {S : Nat → Prop} {v : Value} {p : ColM} (h : ColA w S v p) : ∃ A c, v = .agg #[.int .i64 p.n, .slice A p.rs.length c] ∧ ColA w S v p :=
  let ⟨A, c, he, hr⟩ := h; ⟨A, c, he, A, c, he, hr⟩
theorem szColA_ok (w : World) (S : Nat → Prop) (v : Value) (p : ColM) (k : Int) (hk : 0 ≤ k ∧ k ≤ 1048576) (hl : (szCo p : Int) ≤ k) (h : ColA w S v p) :
    Calls Try.prog 16 #[v, .int .i64 k] w fun e w' => e = .returned (.int .i64 (k - szCo p)) ∧ Up w w' :=
  (szCoC_ok w S S S v p k hk (by unfold szCo at hl; omega) h).mono fun _ _ ⟨he, hg⟩ => ⟨he.trans (ret_int (by unfold szCo; omega)), hg⟩
theorem szColA_no (w : World) (S : Nat → Prop) (v : Value) (p : ColM) (k : Int) (hk : 0 ≤ k ∧ k ≤ 1048576) (hl : k < (szCo p : Int)) (h : ColA w S v p) :
    Calls Try.prog 16 #[v, .int .i64 k] w fun e w' => e = .returned (.int .i64 (-1)) ∧ Up w w' :=
  szCoC_no w S S S v p k hk (by unfold szCo at hl; omega) h
theorem toColA_any (w : World) (S : Nat → Prop) (v : Value) (p : ColM) (hb : szCo p ≤ 1048576) (h : ColA w S v p) :
    Calls Try.prog 18 #[v] w fun e w' => ∃ u, e = .returned u ∧ ColA w' (New w.heap.size w'.heap.size) u p ∧ Up w w' :=
  (toCoC_any w S S S v p (by unfold szCo at hb; omega) h).mono fun _ _ ⟨u, M, H, L, he, ha, hr, hg⟩ => ⟨u, he, hr.mono (fun b _ h => ha.1 b (.inl h)) (fun b _ h => ha.1 b (.inr (.inl h))) (fun b _ h => ha.1 b (.inr (.inr h))), hg⟩
theorem eqColA_same (w : World) (S T : Nat → Prop) (v u : Value) (p : ColM) (h : ColA w S v p) (h2 : ColA w T u p) :
    Calls Try.prog 21 #[v, u] w fun e w' => e = .returned (.bool true) ∧ Up w w' := eqCoC_same w S S S T T T v u p h h2
theorem markColA_any (w : World) (S : Nat → Prop) (v : Value) (p : ColM) (k : Int) (hk : 0 ≤ k) (hb : k + (cSSB p.rs : Nat) ≤ 4611686018427387904) (h : ColA w S v p) :
    Calls Try.prog 22 #[v, .int .i64 k] w fun e w' => e = .returned (.int .i64 (k + (cSSB p.rs : Nat))) ∧ Chg S w w' := by
  obtain ⟨A, c, rfl, h0, ⟨hlc, hcm⟩, -⟩ := h
  have UB := Lib.hid (show Up w (w.alloc (.cells #[.int .i64 p.n, .slice A p.rs.length c] 50)) from (Chg.refl Nowhere w).alloc _)
  have H0 := Lib.hid h0
  have q0 := (show (w.alloc (.cells #[.int .i64 p.n, .slice A p.rs.length c] 50)).cell? ⟨w.heap.size, 1, none⟩ = some (.slice A p.rs.length c) from cell_new _ _ _ _)
  have HK := Lib.hid hk
  have HB := Lib.hid hb
  clear h0 hk hb
  go_enter Try.func22, Try.ntmps22
  go_wp2_with fail
  refine (mkSSB w _ S S S _ p.rs _ HK.out HB.out H0.out (KeptB.up UB.out)).mono ?_
  rintro e w1 ⟨rfl, g1, k1⟩
  have G1 := Lib.hid (Chg.trans (Chg.of_up UB.out) g1)
  clear g1 k1
  go_wp2
  go_ret
  exact ⟨rfl, G1.out.mono fun _ _ hb => by first | exact hb | exact hb.elim id id | exact hb.elim id (fun h => h.elim id id)⟩
theorem cCol_le (p : ColM) : cSSB p.rs ≤ szCo p := by unfold cSSB szCo szF; omega
section
open Go.Deep
set_option maxRecDepth 100000 in
theorem open_ColourChart {H : Type} {enc : TypeId × Value → H} {w : World} {v : Value} {d : DataW H} {p : List MemPlace} {base : Nat}
    (hv : Value.okWide Try.prog w .any base 43 v) (h : DataW.Trod enc Try.prog w 0 (fun _ => true) true 43 v d p)
    (hz : ∀ b off, MemPlace.cell b off ∈ p → w.frozen? ⟨b, off, none⟩ = false) : ∃ r, ColA w (fun b => b < w.heap.size) v r := by
  obtain ⟨v0, v1, y0, y1, n, rfl, -, rfl, h0, h1⟩ := Go.Joins.open_agg2 Try.underlying43 (by kernel_rfl) (show Try.prog.cellsOf 43 = 2 by kernel_rfl) hv h
  obtain ⟨a0, e0, -, w0⟩ := DataW.trod_int Try.underlying2 h0
  simp only [List.cons.injEq, and_true] at e0
  subst e0
  obtain ⟨rs, hx⟩ := open_IntSST h1 (fun b off hm => hz b off (by simp [hm]))
  obtain ⟨A, c, rfl, p2, q2, -⟩ := hx.shape
  exact ⟨⟨a0, rs⟩, A, c, rfl, hx, ⟨p2, q2⟩, I64.of_wf w0⟩
end
end Go.Proofs.Ytchfjglofmphfaa
end
section
set_option linter.unusedSimpArgs false
set_option linter.unusedVariables false
set_option maxRecDepth 100000
set_option maxHeartbeats 1000000
namespace Go.Proofs.Ytchfjglofmphfaa
open Go.ChangeShapes Go.WideShapes Go.ChangeAt Go.RowKit
/-- a marked row -/
def mkRow (k : Int) (rs : List RowM) (i : Nat) : RowM := ⟨k + cntM rs i, k + cntM rs i + 1, marks (k + cntM rs i + 1 + 1) (rowI rs i).xs.length⟩
/-- rows of which the first ones are marked -/
def mkR (k : Int) (rs : List RowM) (j : Nat) : List RowM := (List.range rs.length).map fun i => if i < j then mkRow k rs i else rowI rs i
theorem mkR_length (k : Int) (rs : List RowM) (j : Nat) : (mkR k rs j).length = rs.length := by simp [mkR]
theorem mkR_at {k : Int} {rs : List RowM} {j i : Nat} (h : i < (mkR k rs j).length) : (mkR k rs j)[i] = if i < j then mkRow k rs i else rowI rs i := by simp [mkR]
theorem mkR_zero (k : Int) (rs : List RowM) : mkR k rs 0 = rs := by
  refine List.ext_getElem (mkR_length _ _ _) fun i h1 h2 => ?_
  rw [mkR_at, if_neg (by omega), rowI_eq h2]
theorem mkR_succ (k : Int) (rs : List RowM) (j : Nat) : (mkR k rs j).set j (mkRow k rs j) = mkR k rs (j + 1) := by
  refine List.ext_getElem (by rw [List.length_set, mkR_length, mkR_length]) fun i h1 h2 => ?_
  rw [mkR_at]
  by_cases e : i = j
  · subst e
    rw [List.getElem_set_self, if_pos (by omega)]
  · rw [List.getElem_set_ne (fun h => e h.symm), mkR_at]
    by_cases h : i < j
    · rw [if_pos h, if_pos (by omega)]
    · rw [if_neg h, if_neg (by omega)]
def MRowX (w : World) (S : Nat → Prop) (v : Value) (rs : List RowM) (k : Int) : Prop := RowsX w S v (mkR k rs rs.length)
theorem markRowR_any (w : World) (S : Nat → Prop) (v : Value) (rs : List RowM) (k : Int) (hk : 0 ≤ k) (hb : k + cntC rs ≤ 4611686018427387904) (h : RowsX w S v rs) :
    Calls Try.prog 73 #[v, .int .i64 k] w fun e w' => e = .returned (.int .i64 (k + cntC rs)) ∧ Chg S w w' ∧ MRowX w' S v rs k := by
  obtain ⟨A, c, rfl, hlc, hcm, -⟩ := h.shape
  have H := Lib.hid h
  clear h
  go_enter Try.func73, Try.ntmps73
  go_wp2
  go_loopw [1, 5] (fun q i wr => ∃ (j : Nat), j ≤ rs.length ∧ i = .int .i64 j ∧ q = .int .i64 (k + cntM rs j) ∧ Hid (Chg S w wr) ∧ Hid (RowsX wr S (.slice A rs.length c) (mkR k rs j))) (fun _ i _ => rs.length - (intOf i).toNat)
  case atStart => exact ⟨0, by omega, rfl, by simp [cntM, cntR], Chg.refl _ _, Lib.hid (by rw [mkR_zero]; exact H.out)⟩
  clear H
  case round =>
    obtain ⟨j, hj, rfl, rfl, hg, hm⟩ := hrel
    by_cases hlt : j < rs.length
    · have hm' : RowsX wr S (.slice A (mkR k rs j).length c) (mkR k rs j) := by rw [mkR_length]; exact hm.out
      have hjl : j < (mkR k rs j).length := by rw [mkR_length]; exact hlt
      obtain ⟨b, o, A3, c3, Qj, rfl, f1, f2, f3, z1, z2, k0, h1, h2, h3, h4, h5, h6⟩ := hm'.at_ hjl
      obtain ⟨r, hre⟩ : ∃ r, r = (mkR k rs j)[j]'hjl := ⟨_, rfl⟩
      have hrr : r = rowI rs j := by rw [hre, mkR_at, if_neg (by omega)]
      have hxl : r.xs.length = rs[j].xs.length := by rw [hrr, rowI_eq hlt]
      rw [← hre] at f1 f2 f3 k0 h1 h6
      have HRR := Lib.hid hrr
      clear hre hrr
      have hle1 : cntM rs (j + 1) ≤ cntC rs := by unfold cntC cntM; have := cntR_le (rs := rs) (show j + 1 ≤ rs.length by omega); omega
      have HC : Hid (cntM rs (j + 1) = cntM rs j + 2 + rs[j].xs.length) := Lib.hid (by unfold cntM; rw [cntR_succ hlt]; omega)
      have hle2 : cntM rs j + 2 + rs[j].xs.length ≤ cntC rs := by rw [← HC.out]; exact hle1
      obtain ⟨m, hm0⟩ : ∃ m : Nat, m = cntM rs j := ⟨_, rfl⟩
      rw [← hm0] at hle2 ⊢
      have HM := Lib.hid hm0
      have I1 : Hid (I64 (k + m)) := Lib.hid (by unfold I64; omega)
      have I2 : Hid (I64 (k + m + 1)) := Lib.hid (by unfold I64; omega)
      have hk2 : (0 : Int) ≤ k + m + 1 + 1 := by omega
      have HB2 : Hid (k + m + 1 + 1 + cntInts r.xs ≤ 4611686018427387904) := Lib.hid (by unfold cntInts; omega)
      have K0 := Lib.hid k0
      have H3 := Lib.hid h3
      have H4 := Lib.hid h4
      have H5 := Lib.hid h5
      have H6 := Lib.hid h6
      have HX := Lib.hid hxl
      have WD : Hid (Chg (fun x => x = b) wr ((wr.setCell ⟨b, o + j * 3, none⟩ (.int .i64 (k + m))).setCell ⟨b, o + j * 3 + 1, none⟩ (.int .i64 (k + m + 1)))) := Lib.hid (Chg.setCell (Chg.setCell (Chg.refl (fun x => x = b) wr) (p := ⟨b, o + j * 3, none⟩) (.inl rfl) _) (p := ⟨b, o + j * 3 + 1, none⟩) (.inl rfl) _)
      clear hm' k0 h3 h4 h5 h6 hm hle1 hxl hm0 hjl
      go_wp2_with fail
      refine (markInts _ Qj _ r.xs (k + m + 1 + 1) hk2 HB2.out (K0.out.keep WD.out (fun x _ hq hx => H5.out (hx ▸ hq)))).mono ?_
      rintro e w1 ⟨rfl, g1, k1⟩
      have HX2 := Lib.hid (H6.out _ _ _ _ I1.out I2.out (marks_length _ _) g1 k1)
      have HG := Lib.hid (Chg.trans hg.out (Chg.trans (WD.out.mono (fun x _ hx => hx ▸ H4.out)) (g1.mono (fun x _ hx => H3.out x hx))))
      have HE : Hid (mkRow k rs j = ⟨k + m, k + m + 1, marks (k + m + 1 + 1) r.xs.length⟩) := Lib.hid (by unfold mkRow; rw [← HRR.out, ← HM.out])
      clear g1 k1 f1 f2 f3 z1 z2
      go_wp2
      go_roundw
      case rel => exact ⟨j + 1, by omega, by go_num, by rw [HC.out, ← HM.out, ← HX.out]; unfold cntInts; simp only [Value.int.injEq, true_and]; omega, HG.out, Lib.hid (by rw [← mkR_succ, HE.out, ← mkR_length k rs j]; exact HX2.out)⟩
      case measure => simp [intOf]; omega
    · obtain rfl : j = rs.length := by omega
      go_wp2
      go_ret
      exact ⟨rfl, hg.out, hm.out⟩
theorem heldRowR_any (w : World) (S : Nat → Prop) (v : Value) (rs : List RowM) (k : Int) (hk : 0 ≤ k) (hb : k + cntC rs ≤ 4611686018427387904) (h : MRowX w S v rs k) :
    Calls Try.prog 74 #[v, .int .i64 k] w fun e w' => e = .returned (.int .i64 (k + cntC rs)) ∧ Up w w' := by
  obtain ⟨A, c, rfl, hlc, hcm, -⟩ := RowsX.shape h
  have H := Lib.hid h
  rw [mkR_length] at *
  clear h
  go_enter Try.func74, Try.ntmps74
  go_wp2
  go_loopw [1, 5] (fun q i wr => ∃ (j : Nat), j ≤ rs.length ∧ i = .int .i64 j ∧ q = .int .i64 (k + cntM rs j) ∧ Hid (Up w wr)) (fun _ i _ => rs.length - (intOf i).toNat)
  case atStart => exact ⟨0, by omega, rfl, by simp [cntM, cntR], Chg.refl _ _⟩
  case round =>
    obtain ⟨j, hj, rfl, rfl, hg⟩ := hrel
    by_cases hlt : j < rs.length
    · have hm' : RowsX wr S (.slice A (mkR k rs rs.length).length c) (mkR k rs rs.length) := by rw [mkR_length]; exact RowsX.up H.out hg.out
      have hjl : j < (mkR k rs rs.length).length := by rw [mkR_length]; exact hlt
      obtain ⟨b, o, A3, c3, Qj, rfl, f1, f2, f3, -, -, k0, h1, h2, -⟩ := hm'.at_ hjl
      have hrr : (mkR k rs rs.length)[j]'hjl = mkRow k rs j := by rw [mkR_at, if_pos hlt]
      rw [hrr] at f1 f2 f3 k0 h1
      have hle1 : cntM rs (j + 1) ≤ cntC rs := by unfold cntC cntM; have := cntR_le (rs := rs) (show j + 1 ≤ rs.length by omega); omega
      have HC : Hid (cntM rs (j + 1) = cntM rs j + 2 + rs[j].xs.length) := Lib.hid (by unfold cntM; rw [cntR_succ hlt]; omega)
      have hle2 : cntM rs j + 2 + rs[j].xs.length ≤ cntC rs := by rw [← HC.out]; exact hle1
      obtain ⟨m, hm0⟩ : ∃ m : Nat, m = cntM rs j := ⟨_, rfl⟩
      have hrow : mkRow k rs j = ⟨k + m, k + m + 1, marks (k + m + 1 + 1) rs[j].xs.length⟩ := by unfold mkRow; rw [rowI_eq hlt, ← hm0]
      rw [hrow] at f1 f2 f3 k0 h1
      simp only [marks_length] at f1 f2 f3 k0 h1
      rw [← hm0] at hle2 ⊢
      have HM := Lib.hid hm0
      have hk2 : (0 : Int) ≤ k + m + 1 + 1 := by omega
      have HB2 : Hid (k + m + 1 + 1 + cntInts rs[j].xs ≤ 4611686018427387904) := Lib.hid (by unfold cntInts; omega)
      have hneg : decide (k + (m : Int) + 1 + 1 + (cntInts rs[j].xs : Int) < 0) = false := decide_eq_false (by omega)
      have K0 := Lib.hid k0
      have Hlt := Lib.hid hlt
      clear hm' k0 hle1 hm0 hrr hrow
      go_wp2_with fail
      refine (heldInts _ Qj _ rs[j].xs (k + m + 1 + 1) hk2 HB2.out K0.out).mono ?_
      rintro e w1 ⟨rfl, g1⟩
      have HG := Lib.hid (Chg.trans hg.out g1)
      clear g1 f1 f2 f3
      go_wp2
      go_roundw
      case rel => exact ⟨j + 1, by omega, by go_num, by rw [HC.out, ← HM.out]; unfold cntInts; simp only [Value.int.injEq, true_and]; omega, HG.out⟩
      case measure => simp [intOf]; omega
    · obtain rfl : j = rs.length := by omega
      go_wp2
      go_ret
      exact ⟨rfl, hg.out⟩
def MChart (w : World) (S : Nat → Prop) (v : Value) (b : ChartM) (k : Int) : Prop := ∃ s, v = .agg #[.int .i64 b.n, s] ∧ MRowX w S s b.rs k
theorem MChart.keep {S T : Nat → Prop} {w w' : World} {v : Value} {b : ChartM} {k : Int} (h : MChart w S v b k) (g : Chg T w w') (hd : ∀ b, b < w.heap.size → S b → ¬ T b) : MChart w' S v b k :=
  let ⟨s, h1, h2⟩ := h; ⟨s, h1, RowsX.keep h2 g hd⟩
theorem MChart.up {S : Nat → Prop} {w w' : World} {v : Value} {b : ChartM} {k : Int} (h : MChart w S v b k) (g : Up w w') : MChart w' S v b k := h.keep g fun _ _ _ h => h
def cntChart (b : ChartM) : Nat := cntC b.rs
theorem markChart_res (w : World) (S : Nat → Prop) (v : Value) (b : ChartM) (k : Int) (hk : 0 ≤ k) (hb : k + cntChart b ≤ 4611686018427387904) (h : ChartX w S v b) :
    Calls Try.prog 23 #[v, .int .i64 k] w fun e w' => e = .returned (.int .i64 (k + cntChart b)) ∧ Chg S w w' ∧ MChart w' S v b k := by
  unfold cntChart at *
  obtain ⟨A, c, rfl, h4, h5, h6⟩ := openChartX h
  have U0 := Lib.hid ((Chg.refl Nowhere w).alloc (.cells #[.int .i64 b.n, .slice A b.rs.length c] 47))
  have H := Lib.hid (h4.up U0.out)
  have q1 := (show (w.alloc (.cells #[.int .i64 b.n, .slice A b.rs.length c] 47)).cell? ⟨w.heap.size, 1, none⟩ = some (.slice A b.rs.length c) from cell_new _ _ _ _)
  clear h h4
  go_enter Try.func23, Try.ntmps23
  go_wp2_with fail
  with_reducible refine (markRowR_any _ S _ b.rs k hk hb H.out).mono ?_
  rintro e w1 ⟨rfl, g1, k1⟩
  have G1 := Lib.hid (Chg.trans (Chg.of_up U0.out) g1)
  have K1 := Lib.hid k1
  clear g1 q1 k1
  go_wp2
  go_ret
  exact ⟨rfl, G1.out, _, rfl, K1.out⟩
theorem heldChart_any (w : World) (S : Nat → Prop) (v : Value) (b : ChartM) (k : Int) (hk : 0 ≤ k) (hb : k + cntChart b ≤ 4611686018427387904) (h : MChart w S v b k) :
    Calls Try.prog 24 #[v, .int .i64 k] w fun e w' => e = .returned (.int .i64 (k + cntChart b)) ∧ Up w w' := by
  unfold cntChart at *
  obtain ⟨s, rfl, h4⟩ := h
  obtain ⟨A, c, rfl, -, -, -⟩ := RowsX.shape h4
  rw [mkR_length] at *
  have U0 := Lib.hid ((Chg.refl Nowhere w).alloc (.cells #[.int .i64 b.n, .slice A b.rs.length c] 47))
  have H := Lib.hid (RowsX.up h4 U0.out)
  have q1 := (show (w.alloc (.cells #[.int .i64 b.n, .slice A b.rs.length c] 47)).cell? ⟨w.heap.size, 1, none⟩ = some (.slice A b.rs.length c) from cell_new _ _ _ _)
  clear h4
  have hneg : decide (k + (cntC b.rs : Int) < 0) = false := decide_eq_false (by omega)
  go_enter Try.func24, Try.ntmps24
  go_wp2_with fail
  refine (heldRowR_any _ S _ b.rs k hk hb (show MRowX _ S _ b.rs k from H.out)).mono ?_
  rintro e w1 ⟨rfl, g1⟩
  have G1 := Lib.hid (Chg.trans U0.out g1)
  clear g1 q1
  go_wp2
  go_ret
  exact ⟨rfl, G1.out⟩
end Go.Proofs.Ytchfjglofmphfaa
end
