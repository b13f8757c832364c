/- The laws' helpers on nested slices. No condition. Arguments that are machines: carriers and loops. No condition. The laws' helpers on machines in the form that the laws' walk wants. No condition but room. Marks on a machine: cells keep their kinds. No condition. -/
import Derived.Test.YtchfjglofmphfaaPD12
import Derived.Test.YtchfjglofmphfaaPD16
import Derived.Test.YtchfjglofmphfaaPD13
section
set_option linter.unusedSimpArgs false
set_option linter.unusedVariables false
set_option maxRecDepth 100000
set_option maxHeartbeats 1000000
namespace Go.Proofs.Ytchfjglofmphfaa
open Go.ChangeShapes Go.WideShapes Go.ChangeAt Go.RowKit
structure MacM where
  wd : Int
  rk : Int
  fr : List (List Int)
  bk : List (List Int)
  cs : List CarM
  ls : List InfM
  dr : List Int
def MacE (M H L : Nat → Prop) (w : World) (vs : List Value) (x : MacM) : Prop := ∃ A0 c0 A1 c1 A2 c2 A3 c3 A4 c4, vs = [.int .i64 x.wd, .int .i64 x.rk, .slice A0 x.fr.length c0, .slice A1 x.bk.length c1, .slice A2 x.cs.length c2, .slice A3 x.ls.length c3, .slice A4 x.dr.length c4] ∧ IntSSV w M H L (.slice A0 x.fr.length c0) x.fr ∧ IntSSV w M H L (.slice A1 x.bk.length c1) x.bk ∧ CarsL w M H L (.slice A2 x.cs.length c2) x.cs ∧ InfoSV w M H L (.slice A3 x.ls.length c3) x.ls ∧ IntsL w M H L (.slice A4 x.dr.length c4) x.dr ∧ (x.fr.length ≤ c0 ∧ c0 ≤ 9223372036854775807) ∧ (x.bk.length ≤ c1 ∧ c1 ≤ 9223372036854775807) ∧ (x.cs.length ≤ c2 ∧ c2 ≤ 9223372036854775807) ∧ (x.ls.length ≤ c3 ∧ c3 ≤ 9223372036854775807) ∧ (x.dr.length ≤ c4 ∧ c4 ≤ 9223372036854775807) ∧ I64 x.wd ∧ I64 x.rk
theorem MacE.keep {M H L T : Nat → Prop} {w w' : World} {vs : List Value} {x : MacM} (h : MacE M H L w vs x) (g : Chg T w w') (hd : ∀ b, M b ∨ H b ∨ L b → ¬ T b) : MacE M H L w' vs x := let ⟨A0, c0, A1, c1, A2, c2, A3, c3, A4, c4, he, h0, h1, h2, h3, h4, h5, h6, h7, h8, h9, h10, h11⟩ := h; ⟨A0, c0, A1, c1, A2, c2, A3, c3, A4, c4, he, h0.keep g hd, h1.keep g hd, h2.keep g hd, h3.keep g hd, h4.keep g hd, h5, h6, h7, h8, h9, h10, h11⟩
theorem MacE.up {M H L : Nat → Prop} {w w' : World} {vs : List Value} {x : MacM} (h : MacE M H L w vs x) (g : Up w w') : MacE M H L w' vs x := h.keep g fun _ _ h => h
theorem MacE.mono {M H L M' H' L' : Nat → Prop} {w : World} {vs : List Value} {x : MacM} (h : MacE M H L w vs x) (hm : ∀ b, b < w.heap.size → M b → M' b) (hr : ∀ b, b < w.heap.size → H b → H' b) (hl : ∀ b, b < w.heap.size → L b → L' b) : MacE M' H' L' w vs x := let ⟨A0, c0, A1, c1, A2, c2, A3, c3, A4, c4, he, h0, h1, h2, h3, h4, h5, h6, h7, h8, h9, h10, h11⟩ := h; ⟨A0, c0, A1, c1, A2, c2, A3, c3, A4, c4, he, h0.mono hm hr hl, h1.mono hm hr hl, h2.mono hm hr hl, h3.mono hm hr hl, h4.mono hm hr hl, h5, h6, h7, h8, h9, h10, h11⟩
def MacV (w : World) (M H L : Nat → Prop) (v : Value) (x : MacM) : Prop := ∃ A0 c0 A1 c1 A2 c2 A3 c3 A4 c4, v = .agg #[.int .i64 x.wd, .int .i64 x.rk, .slice A0 x.fr.length c0, .slice A1 x.bk.length c1, .slice A2 x.cs.length c2, .slice A3 x.ls.length c3, .slice A4 x.dr.length c4] ∧ IntSSV w M H L (.slice A0 x.fr.length c0) x.fr ∧ IntSSV w M H L (.slice A1 x.bk.length c1) x.bk ∧ CarsL w M H L (.slice A2 x.cs.length c2) x.cs ∧ InfoSV w M H L (.slice A3 x.ls.length c3) x.ls ∧ IntsL w M H L (.slice A4 x.dr.length c4) x.dr ∧ (x.fr.length ≤ c0 ∧ c0 ≤ 9223372036854775807) ∧ (x.bk.length ≤ c1 ∧ c1 ≤ 9223372036854775807) ∧ (x.cs.length ≤ c2 ∧ c2 ≤ 9223372036854775807) ∧ (x.ls.length ≤ c3 ∧ c3 ≤ 9223372036854775807) ∧ (x.dr.length ≤ c4 ∧ c4 ≤ 9223372036854775807) ∧ I64 x.wd ∧ I64 x.rk
theorem MacV.keep {M H L T : Nat → Prop} {w w' : World} {v : Value} {x : MacM} (h : MacV w M H L v x) (g : Chg T w w') (hd : ∀ b, M b ∨ H b ∨ L b → ¬ T b) : MacV w' M H L v x := let ⟨A0, c0, A1, c1, A2, c2, A3, c3, A4, c4, he, h0, h1, h2, h3, h4, h5, h6, h7, h8, h9, h10, h11⟩ := h; ⟨A0, c0, A1, c1, A2, c2, A3, c3, A4, c4, he, h0.keep g hd, h1.keep g hd, h2.keep g hd, h3.keep g hd, h4.keep g hd, h5, h6, h7, h8, h9, h10, h11⟩
theorem MacV.up {M H L : Nat → Prop} {w w' : World} {v : Value} {x : MacM} (h : MacV w M H L v x) (g : Up w w') : MacV w' M H L v x := h.keep g fun _ _ h => h
theorem MacV.mono {M H L M' H' L' : Nat → Prop} {w : World} {v : Value} {x : MacM} (h : MacV w M H L v x) (hm : ∀ b, b < w.heap.size → M b → M' b) (hr : ∀ b, b < w.heap.size → H b → H' b) (hl : ∀ b, b < w.heap.size → L b → L' b) : MacV w M' H' L' v x := let ⟨A0, c0, A1, c1, A2, c2, A3, c3, A4, c4, he, h0, h1, h2, h3, h4, h5, h6, h7, h8, h9, h10, h11⟩ := h; ⟨A0, c0, A1, c1, A2, c2, A3, c3, A4, c4, he, h0.mono hm hr hl, h1.mono hm hr hl, h2.mono hm hr hl, h3.mono hm hr hl, h4.mono hm hr hl, h5, h6, h7, h8, h9, h10, h11⟩
theorem MacE.val {M H L : Nat → Prop} {w : World} {vs : List Value} {x : MacM} (h : MacE M H L w vs x) : ∃ A0 c0 A1 c1 A2 c2 A3 c3 A4 c4, vs = [.int .i64 x.wd, .int .i64 x.rk, .slice A0 x.fr.length c0, .slice A1 x.bk.length c1, .slice A2 x.cs.length c2, .slice A3 x.ls.length c3, .slice A4 x.dr.length c4] ∧ MacV w M H L (.agg #[.int .i64 x.wd, .int .i64 x.rk, .slice A0 x.fr.length c0, .slice A1 x.bk.length c1, .slice A2 x.cs.length c2, .slice A3 x.ls.length c3, .slice A4 x.dr.length c4]) x :=
  let ⟨A0, c0, A1, c1, A2, c2, A3, c3, A4, c4, he, h0, h1, h2, h3, h4, h5, h6, h7, h8, h9, h10, h11⟩ := h; ⟨A0, c0, A1, c1, A2, c2, A3, c3, A4, c4, he, A0, c0, A1, c1, A2, c2, A3, c3, A4, c4, rfl, h0, h1, h2, h3, h4, h5, h6, h7, h8, h9, h10, h11⟩
theorem MacV.val {M H L : Nat → Prop} {w : World} {v : Value} {x : MacM} (h : MacV w M H L v x) : ∃ A0 c0 A1 c1 A2 c2 A3 c3 A4 c4, v = .agg #[.int .i64 x.wd, .int .i64 x.rk, .slice A0 x.fr.length c0, .slice A1 x.bk.length c1, .slice A2 x.cs.length c2, .slice A3 x.ls.length c3, .slice A4 x.dr.length c4] ∧ MacV w M H L (.agg #[.int .i64 x.wd, .int .i64 x.rk, .slice A0 x.fr.length c0, .slice A1 x.bk.length c1, .slice A2 x.cs.length c2, .slice A3 x.ls.length c3, .slice A4 x.dr.length c4]) x := by
  obtain ⟨A0, c0, A1, c1, A2, c2, A3, c3, A4, c4, rfl, h0, h1, h2, h3, h4, h5, h6, h7, h8, h9, h10, h11⟩ := h
  exact ⟨_, _, _, _, _, _, _, _, _, _, rfl, _, _, _, _, _, _, _, _, _, _, rfl, h0, h1, h2, h3, h4, h5, h6, h7, h8, h9, h10, h11⟩
theorem MacV.parts {M H L : Nat → Prop} {w : World} {v : Value} {x : MacM} (h : MacV w M H L v x) : ∃ A0 c0 A1 c1 A2 c2 A3 c3 A4 c4, v = .agg #[.int .i64 x.wd, .int .i64 x.rk, .slice A0 x.fr.length c0, .slice A1 x.bk.length c1, .slice A2 x.cs.length c2, .slice A3 x.ls.length c3, .slice A4 x.dr.length c4] ∧ IntSSV w M H L (.slice A0 x.fr.length c0) x.fr ∧ IntSSV w M H L (.slice A1 x.bk.length c1) x.bk ∧ CarsL w M H L (.slice A2 x.cs.length c2) x.cs ∧ InfoSV w M H L (.slice A3 x.ls.length c3) x.ls ∧ IntsL w M H L (.slice A4 x.dr.length c4) x.dr ∧ (x.fr.length ≤ c0 ∧ c0 ≤ 9223372036854775807) ∧ (x.bk.length ≤ c1 ∧ c1 ≤ 9223372036854775807) ∧ (x.cs.length ≤ c2 ∧ c2 ≤ 9223372036854775807) ∧ (x.ls.length ≤ c3 ∧ c3 ≤ 9223372036854775807) ∧ (x.dr.length ≤ c4 ∧ c4 ≤ 9223372036854775807) ∧ I64 x.wd ∧ I64 x.rk := h
theorem MacE.mk {M H L : Nat → Prop} {w : World} {x : MacM} {B0 B1 B2 B3 B4 : Option Addr} {d0 d1 d2 d3 d4 : Nat} (h : MacV w M H L (.agg #[.int .i64 x.wd, .int .i64 x.rk, .slice B0 x.fr.length d0, .slice B1 x.bk.length d1, .slice B2 x.cs.length d2, .slice B3 x.ls.length d3, .slice B4 x.dr.length d4]) x) : MacE M H L w [.int .i64 x.wd, .int .i64 x.rk, .slice B0 x.fr.length d0, .slice B1 x.bk.length d1, .slice B2 x.cs.length d2, .slice B3 x.ls.length d3, .slice B4 x.dr.length d4] x := by
  obtain ⟨A0, c0, A1, c1, A2, c2, A3, c3, A4, c4, he, h0, h1, h2, h3, h4, h5, h6, h7, h8, h9, h10, h11⟩ := h
  simp only [Value.agg.injEq, Array.mk.injEq, List.cons.injEq, Value.slice.injEq, true_and, and_true] at he
  obtain ⟨⟨rfl, rfl⟩, ⟨rfl, rfl⟩, ⟨rfl, rfl⟩, ⟨rfl, rfl⟩, ⟨rfl, rfl⟩⟩ := he
  exact ⟨_, _, _, _, _, _, _, _, _, _, rfl, h0, h1, h2, h3, h4, h5, h6, h7, h8, h9, h10, h11⟩
theorem szMac_ok (w : World) (M H L : Nat → Prop) (v : Value) (x : MacM) (k : Int) (hk : 0 ≤ k ∧ k ≤ 1048576) (hl : (szF List.length x.fr + szF List.length x.bk + x.cs.length + szF (fun x => x.ps.length) x.ls + x.dr.length : Int) ≤ k) (h : MacV w M H L v x) :
    Calls Try.prog 7 #[v, .int .i64 k] w fun e w' => e = .returned (.int .i64 (k - (szF List.length x.fr + szF List.length x.bk + x.cs.length + szF (fun x => x.ps.length) x.ls + x.dr.length))) ∧ Up w w' := by
  obtain ⟨A0, c0, A1, c1, A2, c2, A3, c3, A4, c4, rfl, h0, h1, h2, h3, h4, h5, h6, h7, h8, h9, h10, h11⟩ := h
  have U0 := Lib.hid ((Chg.refl Nowhere w).alloc (.cells #[.int .i64 x.wd, .int .i64 x.rk, .slice A0 x.fr.length c0, .slice A1 x.bk.length c1, .slice A2 x.cs.length c2, .slice A3 x.ls.length c3, .slice A4 x.dr.length c4] 27))
  have H0 := Lib.hid (h0.up U0.out)
  have H1 := Lib.hid (h1.up U0.out)
  have H2 := Lib.hid (h2.up U0.out)
  have H3 := Lib.hid (h3.up U0.out)
  have H4 := Lib.hid (h4.up U0.out)
  have q0 := (show (w.alloc (.cells #[.int .i64 x.wd, .int .i64 x.rk, .slice A0 x.fr.length c0, .slice A1 x.bk.length c1, .slice A2 x.cs.length c2, .slice A3 x.ls.length c3, .slice A4 x.dr.length c4] 27)).cell? ⟨w.heap.size, 2, none⟩ = some (.slice A0 x.fr.length c0) from cell_new _ _ _ _)
  have q1 := (show (w.alloc (.cells #[.int .i64 x.wd, .int .i64 x.rk, .slice A0 x.fr.length c0, .slice A1 x.bk.length c1, .slice A2 x.cs.length c2, .slice A3 x.ls.length c3, .slice A4 x.dr.length c4] 27)).cell? ⟨w.heap.size, 3, none⟩ = some (.slice A1 x.bk.length c1) from cell_new _ _ _ _)
  have q2 := (show (w.alloc (.cells #[.int .i64 x.wd, .int .i64 x.rk, .slice A0 x.fr.length c0, .slice A1 x.bk.length c1, .slice A2 x.cs.length c2, .slice A3 x.ls.length c3, .slice A4 x.dr.length c4] 27)).cell? ⟨w.heap.size, 4, none⟩ = some (.slice A2 x.cs.length c2) from cell_new _ _ _ _)
  have q3 := (show (w.alloc (.cells #[.int .i64 x.wd, .int .i64 x.rk, .slice A0 x.fr.length c0, .slice A1 x.bk.length c1, .slice A2 x.cs.length c2, .slice A3 x.ls.length c3, .slice A4 x.dr.length c4] 27)).cell? ⟨w.heap.size, 5, none⟩ = some (.slice A3 x.ls.length c3) from cell_new _ _ _ _)
  have q4 := (show (w.alloc (.cells #[.int .i64 x.wd, .int .i64 x.rk, .slice A0 x.fr.length c0, .slice A1 x.bk.length c1, .slice A2 x.cs.length c2, .slice A3 x.ls.length c3, .slice A4 x.dr.length c4] 27)).cell? ⟨w.heap.size, 6, none⟩ = some (.slice A4 x.dr.length c4) from cell_new _ _ _ _)
  clear h0 h1 h2 h3 h4 h5 h6 h7 h8 h9 h10 h11
  have G0 := Lib.hid U0.out
  go_enter Try.func7, Try.ntmps7
  have HB0 : Hid (0 ≤ k ∧ k ≤ 1048576) := Lib.hid (by omega)
  have HX0 : Hid ((szF List.length x.fr : Int) ≤ k) := Lib.hid (by omega)
  have hd0 : decide (k - (szF List.length x.fr : Int) < 0) = false := decide_eq_false (by omega)
  go_wp2_with fail
  with_reducible refine (szIntSSV_ok _ M H L _ x.fr _ HB0.out HX0.out H0.out).mono ?_
  rintro e w1 ⟨rfl, g1⟩
  have G1 := Lib.hid (Chg.trans G0.out g1)
  have q1 := Chg.cell g1 q1 id
  have H1 := Lib.hid (H1.out.up g1)
  have q2 := Chg.cell g1 q2 id
  have H2 := Lib.hid (H2.out.up g1)
  have q3 := Chg.cell g1 q3 id
  have H3 := Lib.hid (H3.out.up g1)
  have q4 := Chg.cell g1 q4 id
  have H4 := Lib.hid (H4.out.up g1)
  clear g1 q0
  have HB1 : Hid (0 ≤ k - szF List.length x.fr ∧ k - szF List.length x.fr ≤ 1048576) := Lib.hid (by omega)
  have HX1 : Hid ((szF List.length x.bk : Int) ≤ k - szF List.length x.fr) := Lib.hid (by omega)
  have hd1 : decide (k - szF List.length x.fr - (szF List.length x.bk : Int) < 0) = false := decide_eq_false (by omega)
  go_wp2_with fail
  with_reducible refine (szIntSSV_ok _ M H L _ x.bk _ HB1.out HX1.out H1.out).mono ?_
  rintro e w2 ⟨rfl, g1⟩
  have G2 := Lib.hid (Chg.trans G1.out g1)
  have q2 := Chg.cell g1 q2 id
  have H2 := Lib.hid (H2.out.up g1)
  have q3 := Chg.cell g1 q3 id
  have H3 := Lib.hid (H3.out.up g1)
  have q4 := Chg.cell g1 q4 id
  have H4 := Lib.hid (H4.out.up g1)
  clear g1 q1
  have HB2 : Hid (0 ≤ k - szF List.length x.fr - szF List.length x.bk ∧ k - szF List.length x.fr - szF List.length x.bk ≤ 1048576) := Lib.hid (by omega)
  have HX2 : Hid ((x.cs.length : Int) ≤ k - szF List.length x.fr - szF List.length x.bk) := Lib.hid (by omega)
  have hd2 : decide (k - szF List.length x.fr - szF List.length x.bk - (x.cs.length : Int) < 0) = false := decide_eq_false (by omega)
  go_wp2_with fail
  with_reducible refine (szCarsL_ok _ M H L _ x.cs _ HB2.out HX2.out H2.out).mono ?_
  rintro e w3 ⟨rfl, g1⟩
  have G3 := Lib.hid (Chg.trans G2.out g1)
  have q3 := Chg.cell g1 q3 id
  have H3 := Lib.hid (H3.out.up g1)
  have q4 := Chg.cell g1 q4 id
  have H4 := Lib.hid (H4.out.up g1)
  clear g1 q2
  have HB3 : Hid (0 ≤ k - szF List.length x.fr - szF List.length x.bk - x.cs.length ∧ k - szF List.length x.fr - szF List.length x.bk - x.cs.length ≤ 1048576) := Lib.hid (by omega)
  have HX3 : Hid ((szF (fun x => x.ps.length) x.ls : Int) ≤ k - szF List.length x.fr - szF List.length x.bk - x.cs.length) := Lib.hid (by omega)
  have hd3 : decide (k - szF List.length x.fr - szF List.length x.bk - x.cs.length - (szF (fun x => x.ps.length) x.ls : Int) < 0) = false := decide_eq_false (by omega)
  go_wp2_with fail
  with_reducible refine (szInfoSV_ok _ M H L _ x.ls _ HB3.out HX3.out H3.out).mono ?_
  rintro e w4 ⟨rfl, g1⟩
  have G4 := Lib.hid (Chg.trans G3.out g1)
  have q4 := Chg.cell g1 q4 id
  have H4 := Lib.hid (H4.out.up g1)
  clear g1 q3
  have HB4 : Hid (0 ≤ k - szF List.length x.fr - szF List.length x.bk - x.cs.length - szF (fun x => x.ps.length) x.ls ∧ k - szF List.length x.fr - szF List.length x.bk - x.cs.length - szF (fun x => x.ps.length) x.ls ≤ 1048576) := Lib.hid (by omega)
  have HX4 : Hid ((x.dr.length : Int) ≤ k - szF List.length x.fr - szF List.length x.bk - x.cs.length - szF (fun x => x.ps.length) x.ls) := Lib.hid (by omega)
  have hd4 : decide (k - szF List.length x.fr - szF List.length x.bk - x.cs.length - szF (fun x => x.ps.length) x.ls - (x.dr.length : Int) < 0) = false := decide_eq_false (by omega)
  go_wp2_with fail
  with_reducible refine (szIntsL_ok _ M H L _ x.dr _ HB4.out HX4.out H4.out).mono ?_
  rintro e w5 ⟨rfl, g1⟩
  have G5 := Lib.hid (Chg.trans G4.out g1)
  clear g1 q4
  go_wp2
  go_ret
  exact ⟨ret_int (by omega), G5.out⟩
theorem szMac_no (w : World) (M H L : Nat → Prop) (v : Value) (x : MacM) (k : Int) (hk : 0 ≤ k ∧ k ≤ 1048576) (hl : k < (szF List.length x.fr + szF List.length x.bk + x.cs.length + szF (fun x => x.ps.length) x.ls + x.dr.length : Int)) (h : MacV w M H L v x) :
    Calls Try.prog 7 #[v, .int .i64 k] w fun e w' => e = .returned (.int .i64 (-1)) ∧ Up w w' := by
  obtain ⟨A0, c0, A1, c1, A2, c2, A3, c3, A4, c4, rfl, h0, h1, h2, h3, h4, h5, h6, h7, h8, h9, h10, h11⟩ := h
  have U0 := Lib.hid ((Chg.refl Nowhere w).alloc (.cells #[.int .i64 x.wd, .int .i64 x.rk, .slice A0 x.fr.length c0, .slice A1 x.bk.length c1, .slice A2 x.cs.length c2, .slice A3 x.ls.length c3, .slice A4 x.dr.length c4] 27))
  have H0 := Lib.hid (h0.up U0.out)
  have H1 := Lib.hid (h1.up U0.out)
  have H2 := Lib.hid (h2.up U0.out)
  have H3 := Lib.hid (h3.up U0.out)
  have H4 := Lib.hid (h4.up U0.out)
  have q0 := (show (w.alloc (.cells #[.int .i64 x.wd, .int .i64 x.rk, .slice A0 x.fr.length c0, .slice A1 x.bk.length c1, .slice A2 x.cs.length c2, .slice A3 x.ls.length c3, .slice A4 x.dr.length c4] 27)).cell? ⟨w.heap.size, 2, none⟩ = some (.slice A0 x.fr.length c0) from cell_new _ _ _ _)
  have q1 := (show (w.alloc (.cells #[.int .i64 x.wd, .int .i64 x.rk, .slice A0 x.fr.length c0, .slice A1 x.bk.length c1, .slice A2 x.cs.length c2, .slice A3 x.ls.length c3, .slice A4 x.dr.length c4] 27)).cell? ⟨w.heap.size, 3, none⟩ = some (.slice A1 x.bk.length c1) from cell_new _ _ _ _)
  have q2 := (show (w.alloc (.cells #[.int .i64 x.wd, .int .i64 x.rk, .slice A0 x.fr.length c0, .slice A1 x.bk.length c1, .slice A2 x.cs.length c2, .slice A3 x.ls.length c3, .slice A4 x.dr.length c4] 27)).cell? ⟨w.heap.size, 4, none⟩ = some (.slice A2 x.cs.length c2) from cell_new _ _ _ _)
  have q3 := (show (w.alloc (.cells #[.int .i64 x.wd, .int .i64 x.rk, .slice A0 x.fr.length c0, .slice A1 x.bk.length c1, .slice A2 x.cs.length c2, .slice A3 x.ls.length c3, .slice A4 x.dr.length c4] 27)).cell? ⟨w.heap.size, 5, none⟩ = some (.slice A3 x.ls.length c3) from cell_new _ _ _ _)
  have q4 := (show (w.alloc (.cells #[.int .i64 x.wd, .int .i64 x.rk, .slice A0 x.fr.length c0, .slice A1 x.bk.length c1, .slice A2 x.cs.length c2, .slice A3 x.ls.length c3, .slice A4 x.dr.length c4] 27)).cell? ⟨w.heap.size, 6, none⟩ = some (.slice A4 x.dr.length c4) from cell_new _ _ _ _)
  clear h0 h1 h2 h3 h4 h5 h6 h7 h8 h9 h10 h11
  have G0 := Lib.hid U0.out
  go_enter Try.func7, Try.ntmps7
  have HB0 : Hid (0 ≤ k ∧ k ≤ 1048576) := Lib.hid (by omega)
  by_cases hx0 : (szF List.length x.fr : Int) ≤ k
  rotate_left
  · have HX0 : Hid (k < (szF List.length x.fr : Int)) := Lib.hid (by omega)
    have hd : decide ((-1 : Int) < 0) = true := rfl
    clear hx0 hl
    go_wp2_with fail
    with_reducible refine (szIntSSV_no _ M H L _ x.fr _ HB0.out HX0.out H0.out).mono ?_
    rintro e w1 ⟨rfl, g1⟩
    have G1 := Lib.hid (Chg.trans G0.out g1)
    clear g1 q0 q1 q2 q3 q4
    go_wp2
    go_ret
    exact ⟨rfl, G1.out⟩
  have HX0 : Hid ((szF List.length x.fr : Int) ≤ k) := Lib.hid (by omega)
  have hd0 : decide (k - (szF List.length x.fr : Int) < 0) = false := decide_eq_false (by omega)
  go_wp2_with fail
  with_reducible refine (szIntSSV_ok _ M H L _ x.fr _ HB0.out HX0.out H0.out).mono ?_
  rintro e w1 ⟨rfl, g1⟩
  have G1 := Lib.hid (Chg.trans G0.out g1)
  have q1 := Chg.cell g1 q1 id
  have H1 := Lib.hid (H1.out.up g1)
  have q2 := Chg.cell g1 q2 id
  have H2 := Lib.hid (H2.out.up g1)
  have q3 := Chg.cell g1 q3 id
  have H3 := Lib.hid (H3.out.up g1)
  have q4 := Chg.cell g1 q4 id
  have H4 := Lib.hid (H4.out.up g1)
  clear g1 q0
  have HB1 : Hid (0 ≤ k - szF List.length x.fr ∧ k - szF List.length x.fr ≤ 1048576) := Lib.hid (by omega)
  by_cases hx1 : (szF List.length x.bk : Int) ≤ k - szF List.length x.fr
  rotate_left
  · have HX1 : Hid (k - szF List.length x.fr < (szF List.length x.bk : Int)) := Lib.hid (by omega)
    have hd : decide ((-1 : Int) < 0) = true := rfl
    clear hx1 hl
    go_wp2_with fail
    with_reducible refine (szIntSSV_no _ M H L _ x.bk _ HB1.out HX1.out H1.out).mono ?_
    rintro e w2 ⟨rfl, g1⟩
    have G2 := Lib.hid (Chg.trans G1.out g1)
    clear g1 q1 q2 q3 q4
    go_wp2
    go_ret
    exact ⟨rfl, G2.out⟩
  have HX1 : Hid ((szF List.length x.bk : Int) ≤ k - szF List.length x.fr) := Lib.hid (by omega)
  have hd1 : decide (k - szF List.length x.fr - (szF List.length x.bk : Int) < 0) = false := decide_eq_false (by omega)
  go_wp2_with fail
  with_reducible refine (szIntSSV_ok _ M H L _ x.bk _ HB1.out HX1.out H1.out).mono ?_
  rintro e w2 ⟨rfl, g1⟩
  have G2 := Lib.hid (Chg.trans G1.out g1)
  have q2 := Chg.cell g1 q2 id
  have H2 := Lib.hid (H2.out.up g1)
  have q3 := Chg.cell g1 q3 id
  have H3 := Lib.hid (H3.out.up g1)
  have q4 := Chg.cell g1 q4 id
  have H4 := Lib.hid (H4.out.up g1)
  clear g1 q1
  have HB2 : Hid (0 ≤ k - szF List.length x.fr - szF List.length x.bk ∧ k - szF List.length x.fr - szF List.length x.bk ≤ 1048576) := Lib.hid (by omega)
  by_cases hx2 : (x.cs.length : Int) ≤ k - szF List.length x.fr - szF List.length x.bk
  rotate_left
  · have HX2 : Hid (k - szF List.length x.fr - szF List.length x.bk < (x.cs.length : Int)) := Lib.hid (by omega)
    have hd : decide ((-1 : Int) < 0) = true := rfl
    clear hx2 hl
    go_wp2_with fail
    with_reducible refine (szCarsL_no _ M H L _ x.cs _ HB2.out HX2.out H2.out).mono ?_
    rintro e w3 ⟨rfl, g1⟩
    have G3 := Lib.hid (Chg.trans G2.out g1)
    clear g1 q2 q3 q4
    go_wp2
    go_ret
    exact ⟨rfl, G3.out⟩
  have HX2 : Hid ((x.cs.length : Int) ≤ k - szF List.length x.fr - szF List.length x.bk) := Lib.hid (by omega)
  have hd2 : decide (k - szF List.length x.fr - szF List.length x.bk - (x.cs.length : Int) < 0) = false := decide_eq_false (by omega)
  go_wp2_with fail
  with_reducible refine (szCarsL_ok _ M H L _ x.cs _ HB2.out HX2.out H2.out).mono ?_
  rintro e w3 ⟨rfl, g1⟩
  have G3 := Lib.hid (Chg.trans G2.out g1)
  have q3 := Chg.cell g1 q3 id
  have H3 := Lib.hid (H3.out.up g1)
  have q4 := Chg.cell g1 q4 id
  have H4 := Lib.hid (H4.out.up g1)
  clear g1 q2
  have HB3 : Hid (0 ≤ k - szF List.length x.fr - szF List.length x.bk - x.cs.length ∧ k - szF List.length x.fr - szF List.length x.bk - x.cs.length ≤ 1048576) := Lib.hid (by omega)
  by_cases hx3 : (szF (fun x => x.ps.length) x.ls : Int) ≤ k - szF List.length x.fr - szF List.length x.bk - x.cs.length
  rotate_left
  · have HX3 : Hid (k - szF List.length x.fr - szF List.length x.bk - x.cs.length < (szF (fun x => x.ps.length) x.ls : Int)) := Lib.hid (by omega)
    have hd : decide ((-1 : Int) < 0) = true := rfl
    clear hx3 hl
    go_wp2_with fail
    with_reducible refine (szInfoSV_no _ M H L _ x.ls _ HB3.out HX3.out H3.out).mono ?_
    rintro e w4 ⟨rfl, g1⟩
    have G4 := Lib.hid (Chg.trans G3.out g1)
    clear g1 q3 q4
    go_wp2
    go_ret
    exact ⟨rfl, G4.out⟩
  have HX3 : Hid ((szF (fun x => x.ps.length) x.ls : Int) ≤ k - szF List.length x.fr - szF List.length x.bk - x.cs.length) := Lib.hid (by omega)
  have hd3 : decide (k - szF List.length x.fr - szF List.length x.bk - x.cs.length - (szF (fun x => x.ps.length) x.ls : Int) < 0) = false := decide_eq_false (by omega)
  go_wp2_with fail
  with_reducible refine (szInfoSV_ok _ M H L _ x.ls _ HB3.out HX3.out H3.out).mono ?_
  rintro e w4 ⟨rfl, g1⟩
  have G4 := Lib.hid (Chg.trans G3.out g1)
  have q4 := Chg.cell g1 q4 id
  have H4 := Lib.hid (H4.out.up g1)
  clear g1 q3
  have HB4 : Hid (0 ≤ k - szF List.length x.fr - szF List.length x.bk - x.cs.length - szF (fun x => x.ps.length) x.ls ∧ k - szF List.length x.fr - szF List.length x.bk - x.cs.length - szF (fun x => x.ps.length) x.ls ≤ 1048576) := Lib.hid (by omega)
  have HX4 : Hid (k - szF List.length x.fr - szF List.length x.bk - x.cs.length - szF (fun x => x.ps.length) x.ls < (x.dr.length : Int)) := Lib.hid (by omega)
  have hd : decide ((-1 : Int) < 0) = true := rfl
  go_wp2_with fail
  with_reducible refine (szIntsL_no _ M H L _ x.dr _ HB4.out HX4.out H4.out).mono ?_
  rintro e w5 ⟨rfl, g1⟩
  have G5 := Lib.hid (Chg.trans G4.out g1)
  clear g1 q4
  go_wp2
  go_ret
  exact ⟨rfl, G5.out⟩
theorem toMac_any (w : World) (M H L : Nat → Prop) (v : Value) (x : MacM) (hb : szF List.length x.fr + szF List.length x.bk + x.cs.length + szF (fun x => x.ps.length) x.ls + x.dr.length ≤ 1048576) (h : MacV w M H L v x) :
    Calls Try.prog 9 #[v] w fun e w' => ∃ u M' H' L', e = .returned u ∧ ApartN w.heap.size w'.heap.size M' H' L' ∧ MacV w' M' H' L' u x ∧ Up w w' := by
  obtain ⟨A0, c0, A1, c1, A2, c2, A3, c3, A4, c4, rfl, h0, h1, h2, h3, h4, h5, h6, h7, h8, h9, h10, h11⟩ := h
  have H0 := Lib.hid h0
  have H1 := Lib.hid h1
  have H2 := Lib.hid h2
  have H3 := Lib.hid h3
  have H4 := Lib.hid h4
  have H5 := Lib.hid h5
  have H6 := Lib.hid h6
  have H7 := Lib.hid h7
  have H8 := Lib.hid h8
  have H9 := Lib.hid h9
  have H10 := Lib.hid h10
  have H11 := Lib.hid h11
  clear h0 h1 h2 h3 h4 h5 h6 h7 h8 h9 h10 h11
  have hw0 := Lib.hid (show Up w (w.alloc (.cells #[.int .i64 x.wd, .int .i64 x.rk, .slice A0 x.fr.length c0, .slice A1 x.bk.length c1, .slice A2 x.cs.length c2, .slice A3 x.ls.length c3, .slice A4 x.dr.length c4] 27)) from (Chg.refl Nowhere w).alloc _)
  go_enter Try.func9, Try.ntmps9
  have q0 := (show (w.alloc (.cells #[.int .i64 x.wd, .int .i64 x.rk, .slice A0 x.fr.length c0, .slice A1 x.bk.length c1, .slice A2 x.cs.length c2, .slice A3 x.ls.length c3, .slice A4 x.dr.length c4] 27)).cell? ⟨w.heap.size, 0, none⟩ = some (.int .i64 x.wd) from cell_new _ _ _ _)
  have q1 := (show (w.alloc (.cells #[.int .i64 x.wd, .int .i64 x.rk, .slice A0 x.fr.length c0, .slice A1 x.bk.length c1, .slice A2 x.cs.length c2, .slice A3 x.ls.length c3, .slice A4 x.dr.length c4] 27)).cell? ⟨w.heap.size, 1, none⟩ = some (.int .i64 x.rk) from cell_new _ _ _ _)
  have q2 := (show (w.alloc (.cells #[.int .i64 x.wd, .int .i64 x.rk, .slice A0 x.fr.length c0, .slice A1 x.bk.length c1, .slice A2 x.cs.length c2, .slice A3 x.ls.length c3, .slice A4 x.dr.length c4] 27)).cell? ⟨w.heap.size, 2, none⟩ = some (.slice A0 x.fr.length c0) from cell_new _ _ _ _)
  have q3 := (show (w.alloc (.cells #[.int .i64 x.wd, .int .i64 x.rk, .slice A0 x.fr.length c0, .slice A1 x.bk.length c1, .slice A2 x.cs.length c2, .slice A3 x.ls.length c3, .slice A4 x.dr.length c4] 27)).cell? ⟨w.heap.size, 3, none⟩ = some (.slice A1 x.bk.length c1) from cell_new _ _ _ _)
  have q4 := (show (w.alloc (.cells #[.int .i64 x.wd, .int .i64 x.rk, .slice A0 x.fr.length c0, .slice A1 x.bk.length c1, .slice A2 x.cs.length c2, .slice A3 x.ls.length c3, .slice A4 x.dr.length c4] 27)).cell? ⟨w.heap.size, 4, none⟩ = some (.slice A2 x.cs.length c2) from cell_new _ _ _ _)
  have q5 := (show (w.alloc (.cells #[.int .i64 x.wd, .int .i64 x.rk, .slice A0 x.fr.length c0, .slice A1 x.bk.length c1, .slice A2 x.cs.length c2, .slice A3 x.ls.length c3, .slice A4 x.dr.length c4] 27)).cell? ⟨w.heap.size, 5, none⟩ = some (.slice A3 x.ls.length c3) from cell_new _ _ _ _)
  have q6 := (show (w.alloc (.cells #[.int .i64 x.wd, .int .i64 x.rk, .slice A0 x.fr.length c0, .slice A1 x.bk.length c1, .slice A2 x.cs.length c2, .slice A3 x.ls.length c3, .slice A4 x.dr.length c4] 27)).cell? ⟨w.heap.size, 6, none⟩ = some (.slice A4 x.dr.length c4) from cell_new _ _ _ _)
  have hbx : w.heap.size < (w.alloc (.cells #[.int .i64 x.wd, .int .i64 x.rk, .slice A0 x.fr.length c0, .slice A1 x.bk.length c1, .slice A2 x.cs.length c2, .slice A3 x.ls.length c3, .slice A4 x.dr.length c4] 27)).heap.size := by simp
  go_wp2_with fail
  refine (toIntSSV_any _ M H L _ x.fr (by omega) (H0.out.up (by repeat (first | exact Chg.refl _ _ | apply Chg.drew | apply Chg.drewN | refine Chg.alloc ?_ _)))).mono ?_
  rintro e w1 ⟨v1, M1, H1', L1, rfl, ap1, k1, g1⟩
  obtain ⟨B1, d1, rfl, hl1, hc1, -⟩ := k1.shape
  have U1 := Lib.hid (show Up w w1 from Chg.trans (by repeat (first | exact Chg.refl _ _ | apply Chg.drew | apply Chg.drewN | refine Chg.alloc ?_ _)) g1)
  have hs1 : w.heap.size + 1 + 1 + 1 ≤ w1.heap.size := by have := g1.size; simpa using this
  have HA1 : Hid (ApartN (w.heap.size + 1 + 1 + 1) w1.heap.size M1 H1' L1) := Lib.hid (by simpa using ap1)
  have q0 := Chg.cell (Chg.trans (by repeat (first | exact Chg.refl _ _ | apply Chg.drew | apply Chg.drewN | refine Chg.alloc ?_ _)) g1) q0 id
  have q1 := Chg.cell (Chg.trans (by repeat (first | exact Chg.refl _ _ | apply Chg.drew | apply Chg.drewN | refine Chg.alloc ?_ _)) g1) q1 id
  have q2 := Chg.cell (Chg.trans (by repeat (first | exact Chg.refl _ _ | apply Chg.drew | apply Chg.drewN | refine Chg.alloc ?_ _)) g1) q2 id
  have q3 := Chg.cell (Chg.trans (by repeat (first | exact Chg.refl _ _ | apply Chg.drew | apply Chg.drewN | refine Chg.alloc ?_ _)) g1) q3 id
  have q4 := Chg.cell (Chg.trans (by repeat (first | exact Chg.refl _ _ | apply Chg.drew | apply Chg.drewN | refine Chg.alloc ?_ _)) g1) q4 id
  have q5 := Chg.cell (Chg.trans (by repeat (first | exact Chg.refl _ _ | apply Chg.drew | apply Chg.drewN | refine Chg.alloc ?_ _)) g1) q5 id
  have q6 := Chg.cell (Chg.trans (by repeat (first | exact Chg.refl _ _ | apply Chg.drew | apply Chg.drewN | refine Chg.alloc ?_ _)) g1) q6 id
  have x0 := (show CellF w1 ⟨w.heap.size + 1 + 1, 0, none⟩ (.int .i64 x.wd) from CellF.up g1 (by repeat (first | ((refine cellF_at ?_ rfl); (simp; done)) | refine CellF.up ((Chg.refl _ _).alloc _) ?_)))
  have x1 := (show CellF w1 ⟨w.heap.size + 1 + 1, 1, none⟩ (.int .i64 x.rk) from CellF.up g1 (by repeat (first | ((refine cellF_at ?_ rfl); (simp; done)) | refine CellF.up ((Chg.refl _ _).alloc _) ?_)))
  have x2 := (show CellF w1 ⟨w.heap.size + 1 + 1, 2, none⟩ (.slice none 0 0) from CellF.up g1 (by repeat (first | ((refine cellF_at ?_ rfl); (simp; done)) | refine CellF.up ((Chg.refl _ _).alloc _) ?_)))
  have x3 := (show CellF w1 ⟨w.heap.size + 1 + 1, 3, none⟩ (.slice none 0 0) from CellF.up g1 (by repeat (first | ((refine cellF_at ?_ rfl); (simp; done)) | refine CellF.up ((Chg.refl _ _).alloc _) ?_)))
  have x4 := (show CellF w1 ⟨w.heap.size + 1 + 1, 4, none⟩ (.slice none 0 0) from CellF.up g1 (by repeat (first | ((refine cellF_at ?_ rfl); (simp; done)) | refine CellF.up ((Chg.refl _ _).alloc _) ?_)))
  have x5 := (show CellF w1 ⟨w.heap.size + 1 + 1, 5, none⟩ (.slice none 0 0) from CellF.up g1 (by repeat (first | ((refine cellF_at ?_ rfl); (simp; done)) | refine CellF.up ((Chg.refl _ _).alloc _) ?_)))
  have x6 := (show CellF w1 ⟨w.heap.size + 1 + 1, 6, none⟩ (.slice none 0 0) from CellF.up g1 (by repeat (first | ((refine cellF_at ?_ rfl); (simp; done)) | refine CellF.up ((Chg.refl _ _).alloc _) ?_)))
  have y0 := (show CellF w1 ⟨w.heap.size + 1, 0, none⟩ (.int .i64 0) from CellF.up g1 (by repeat (first | ((refine cellF_at ?_ rfl); (simp; done)) | refine CellF.up ((Chg.refl _ _).alloc _) ?_)))
  have y1 := (show CellF w1 ⟨w.heap.size + 1, 1, none⟩ (.int .i64 0) from CellF.up g1 (by repeat (first | ((refine cellF_at ?_ rfl); (simp; done)) | refine CellF.up ((Chg.refl _ _).alloc _) ?_)))
  have y2 := (show CellF w1 ⟨w.heap.size + 1, 2, none⟩ (.slice none 0 0) from CellF.up g1 (by repeat (first | ((refine cellF_at ?_ rfl); (simp; done)) | refine CellF.up ((Chg.refl _ _).alloc _) ?_)))
  have y3 := (show CellF w1 ⟨w.heap.size + 1, 3, none⟩ (.slice none 0 0) from CellF.up g1 (by repeat (first | ((refine cellF_at ?_ rfl); (simp; done)) | refine CellF.up ((Chg.refl _ _).alloc _) ?_)))
  have y4 := (show CellF w1 ⟨w.heap.size + 1, 4, none⟩ (.slice none 0 0) from CellF.up g1 (by repeat (first | ((refine cellF_at ?_ rfl); (simp; done)) | refine CellF.up ((Chg.refl _ _).alloc _) ?_)))
  have y5 := (show CellF w1 ⟨w.heap.size + 1, 5, none⟩ (.slice none 0 0) from CellF.up g1 (by repeat (first | ((refine cellF_at ?_ rfl); (simp; done)) | refine CellF.up ((Chg.refl _ _).alloc _) ?_)))
  have y6 := (show CellF w1 ⟨w.heap.size + 1, 6, none⟩ (.slice none 0 0) from CellF.up g1 (by repeat (first | ((refine cellF_at ?_ rfl); (simp; done)) | refine CellF.up ((Chg.refl _ _).alloc _) ?_)))
  have K1 := Lib.hid k1
  clear ap1 k1
  have SG1 := Lib.hid (show Chg (fun b => b = w.heap.size + 1 + 1) w1 (w1.setCell ⟨w.heap.size + 1 + 1, 2, none⟩ (.slice B1 x.fr.length d1)) from Chg.setCell (Chg.refl (fun b => b = w.heap.size + 1 + 1) _) (p := ⟨w.heap.size + 1 + 1, 2, none⟩) (.inl rfl) _)
  have US1 := Lib.hid (show Up w (w1.setCell ⟨w.heap.size + 1 + 1, 2, none⟩ (.slice B1 x.fr.length d1)) from Chg.setCell U1.out (.inr (by show w.heap.size ≤ w.heap.size + 1 + 1; omega)) _)
  clear g1
  obtain ⟨x0c, x0f⟩ := x0
  obtain ⟨y0c, y0f⟩ := y0
  obtain ⟨x1c, x1f⟩ := x1
  obtain ⟨y1c, y1f⟩ := y1
  obtain ⟨x2c, x2f⟩ := x2
  obtain ⟨y2c, y2f⟩ := y2
  obtain ⟨x3c, x3f⟩ := x3
  obtain ⟨y3c, y3f⟩ := y3
  obtain ⟨x4c, x4f⟩ := x4
  obtain ⟨y4c, y4f⟩ := y4
  obtain ⟨x5c, x5f⟩ := x5
  obtain ⟨y5c, y5f⟩ := y5
  obtain ⟨x6c, x6f⟩ := x6
  obtain ⟨y6c, y6f⟩ := y6
  have x0 := Lib.hid (show CellF _ _ _ from ⟨x0c, x0f⟩)
  have y0 := Lib.hid (show CellF _ _ _ from ⟨y0c, y0f⟩)
  have x1 := Lib.hid (show CellF _ _ _ from ⟨x1c, x1f⟩)
  have y1 := Lib.hid (show CellF _ _ _ from ⟨y1c, y1f⟩)
  have x2 := Lib.hid (show CellF _ _ _ from ⟨x2c, x2f⟩)
  have y2 := Lib.hid (show CellF _ _ _ from ⟨y2c, y2f⟩)
  have x3 := Lib.hid (show CellF _ _ _ from ⟨x3c, x3f⟩)
  have y3 := Lib.hid (show CellF _ _ _ from ⟨y3c, y3f⟩)
  have x4 := Lib.hid (show CellF _ _ _ from ⟨x4c, x4f⟩)
  have y4 := Lib.hid (show CellF _ _ _ from ⟨y4c, y4f⟩)
  have x5 := Lib.hid (show CellF _ _ _ from ⟨x5c, x5f⟩)
  have y5 := Lib.hid (show CellF _ _ _ from ⟨y5c, y5f⟩)
  have x6 := Lib.hid (show CellF _ _ _ from ⟨x6c, x6f⟩)
  have y6 := Lib.hid (show CellF _ _ _ from ⟨y6c, y6f⟩)
  go_wp2_with fail
  refine (toIntSSV_any _ M H L _ x.bk (by omega) (H1.out.up (US1.out))).mono ?_
  rintro e w2 ⟨v2, M2, H2', L2, rfl, ap2, k2, g2⟩
  obtain ⟨B2, d2, rfl, hl2, hc2, -⟩ := k2.shape
  have U2 := Lib.hid (Chg.trans US1.out g2)
  have hs2 : w1.heap.size ≤ w2.heap.size := by have := g2.size; simpa using this
  have HA2 : Hid (ApartN (w.heap.size + 1 + 1 + 1) w2.heap.size (Un M1 M2) (Un H1' H2') (Un L1 L2)) := Lib.hid (ApartN.un HA1.out (by simpa using ap2) (by omega) (by omega))
  have q3 := Chg.cell (Chg.trans SG1.out (Chg.of_up g2)) q3 (fun he => by have he : w.heap.size = w.heap.size + 1 + 1 := he; omega)
  have q4 := Chg.cell (Chg.trans SG1.out (Chg.of_up g2)) q4 (fun he => by have he : w.heap.size = w.heap.size + 1 + 1 := he; omega)
  have q5 := Chg.cell (Chg.trans SG1.out (Chg.of_up g2)) q5 (fun he => by have he : w.heap.size = w.heap.size + 1 + 1 := he; omega)
  have q6 := Chg.cell (Chg.trans SG1.out (Chg.of_up g2)) q6 (fun he => by have he : w.heap.size = w.heap.size + 1 + 1 := he; omega)
  have x0 := CellF.up g2 (CellF.set_ne (q := ⟨w.heap.size + 1 + 1, 2, none⟩) (x := .slice B1 x.fr.length d1) x0 (by simp))
  have x1 := CellF.up g2 (CellF.set_ne (q := ⟨w.heap.size + 1 + 1, 2, none⟩) (x := .slice B1 x.fr.length d1) x1 (by simp))
  have x2 := CellF.up g2 (CellF.set (u := .slice B1 x.fr.length d1) x2)
  have x3 := CellF.up g2 (CellF.set_ne (q := ⟨w.heap.size + 1 + 1, 2, none⟩) (x := .slice B1 x.fr.length d1) x3 (by simp))
  have x4 := CellF.up g2 (CellF.set_ne (q := ⟨w.heap.size + 1 + 1, 2, none⟩) (x := .slice B1 x.fr.length d1) x4 (by simp))
  have x5 := CellF.up g2 (CellF.set_ne (q := ⟨w.heap.size + 1 + 1, 2, none⟩) (x := .slice B1 x.fr.length d1) x5 (by simp))
  have x6 := CellF.up g2 (CellF.set_ne (q := ⟨w.heap.size + 1 + 1, 2, none⟩) (x := .slice B1 x.fr.length d1) x6 (by simp))
  have y0 := CellF.up g2 (CellF.set_ne (q := ⟨w.heap.size + 1 + 1, 2, none⟩) (x := .slice B1 x.fr.length d1) y0 (by simp))
  have y1 := CellF.up g2 (CellF.set_ne (q := ⟨w.heap.size + 1 + 1, 2, none⟩) (x := .slice B1 x.fr.length d1) y1 (by simp))
  have y2 := CellF.up g2 (CellF.set_ne (q := ⟨w.heap.size + 1 + 1, 2, none⟩) (x := .slice B1 x.fr.length d1) y2 (by simp))
  have y3 := CellF.up g2 (CellF.set_ne (q := ⟨w.heap.size + 1 + 1, 2, none⟩) (x := .slice B1 x.fr.length d1) y3 (by simp))
  have y4 := CellF.up g2 (CellF.set_ne (q := ⟨w.heap.size + 1 + 1, 2, none⟩) (x := .slice B1 x.fr.length d1) y4 (by simp))
  have y5 := CellF.up g2 (CellF.set_ne (q := ⟨w.heap.size + 1 + 1, 2, none⟩) (x := .slice B1 x.fr.length d1) y5 (by simp))
  have y6 := CellF.up g2 (CellF.set_ne (q := ⟨w.heap.size + 1 + 1, 2, none⟩) (x := .slice B1 x.fr.length d1) y6 (by simp))
  have K1 := Lib.hid ((K1.out.keep SG1.out (fun b hb he => by have := (HA1.out.1 b hb).1; have he : b = w.heap.size + 1 + 1 := he; omega)).up g2)
  have K2 := Lib.hid k2
  clear ap2 k2
  have SG2 := Lib.hid (show Chg (fun b => b = w.heap.size + 1 + 1) w2 (w2.setCell ⟨w.heap.size + 1 + 1, 3, none⟩ (.slice B2 x.bk.length d2)) from Chg.setCell (Chg.refl (fun b => b = w.heap.size + 1 + 1) _) (p := ⟨w.heap.size + 1 + 1, 3, none⟩) (.inl rfl) _)
  have US2 := Lib.hid (show Up w (w2.setCell ⟨w.heap.size + 1 + 1, 3, none⟩ (.slice B2 x.bk.length d2)) from Chg.setCell U2.out (.inr (by show w.heap.size ≤ w.heap.size + 1 + 1; omega)) _)
  clear g2
  obtain ⟨x0c, x0f⟩ := x0
  obtain ⟨y0c, y0f⟩ := y0
  obtain ⟨x1c, x1f⟩ := x1
  obtain ⟨y1c, y1f⟩ := y1
  obtain ⟨x2c, x2f⟩ := x2
  obtain ⟨y2c, y2f⟩ := y2
  obtain ⟨x3c, x3f⟩ := x3
  obtain ⟨y3c, y3f⟩ := y3
  obtain ⟨x4c, x4f⟩ := x4
  obtain ⟨y4c, y4f⟩ := y4
  obtain ⟨x5c, x5f⟩ := x5
  obtain ⟨y5c, y5f⟩ := y5
  obtain ⟨x6c, x6f⟩ := x6
  obtain ⟨y6c, y6f⟩ := y6
  have x0 := Lib.hid (show CellF _ _ _ from ⟨x0c, x0f⟩)
  have y0 := Lib.hid (show CellF _ _ _ from ⟨y0c, y0f⟩)
  have x1 := Lib.hid (show CellF _ _ _ from ⟨x1c, x1f⟩)
  have y1 := Lib.hid (show CellF _ _ _ from ⟨y1c, y1f⟩)
  have x2 := Lib.hid (show CellF _ _ _ from ⟨x2c, x2f⟩)
  have y2 := Lib.hid (show CellF _ _ _ from ⟨y2c, y2f⟩)
  have x3 := Lib.hid (show CellF _ _ _ from ⟨x3c, x3f⟩)
  have y3 := Lib.hid (show CellF _ _ _ from ⟨y3c, y3f⟩)
  have x4 := Lib.hid (show CellF _ _ _ from ⟨x4c, x4f⟩)
  have y4 := Lib.hid (show CellF _ _ _ from ⟨y4c, y4f⟩)
  have x5 := Lib.hid (show CellF _ _ _ from ⟨x5c, x5f⟩)
  have y5 := Lib.hid (show CellF _ _ _ from ⟨y5c, y5f⟩)
  have x6 := Lib.hid (show CellF _ _ _ from ⟨x6c, x6f⟩)
  have y6 := Lib.hid (show CellF _ _ _ from ⟨y6c, y6f⟩)
  go_wp2_with fail
  refine (toCarsL_any _ M H L _ x.cs (by omega) (H2.out.up (US2.out))).mono ?_
  rintro e w3 ⟨v3, M3, H3', L3, rfl, ap3, k3, g3⟩
  obtain ⟨B3, d3, rfl, hl3, hc3, -⟩ := k3.shape
  have U3 := Lib.hid (Chg.trans US2.out g3)
  have hs3 : w2.heap.size ≤ w3.heap.size := by have := g3.size; simpa using this
  have HA3 : Hid (ApartN (w.heap.size + 1 + 1 + 1) w3.heap.size (Un (Un M1 M2) (M3)) (Un (Un H1' H2') (H3')) (Un (Un L1 L2) (L3))) := Lib.hid (ApartN.un HA2.out (by simpa using ap3) (by omega) (by omega))
  have q4 := Chg.cell (Chg.trans SG2.out (Chg.of_up g3)) q4 (fun he => by have he : w.heap.size = w.heap.size + 1 + 1 := he; omega)
  have q5 := Chg.cell (Chg.trans SG2.out (Chg.of_up g3)) q5 (fun he => by have he : w.heap.size = w.heap.size + 1 + 1 := he; omega)
  have q6 := Chg.cell (Chg.trans SG2.out (Chg.of_up g3)) q6 (fun he => by have he : w.heap.size = w.heap.size + 1 + 1 := he; omega)
  have x0 := CellF.up g3 (CellF.set_ne (q := ⟨w.heap.size + 1 + 1, 3, none⟩) (x := .slice B2 x.bk.length d2) x0 (by simp))
  have x1 := CellF.up g3 (CellF.set_ne (q := ⟨w.heap.size + 1 + 1, 3, none⟩) (x := .slice B2 x.bk.length d2) x1 (by simp))
  have x2 := CellF.up g3 (CellF.set_ne (q := ⟨w.heap.size + 1 + 1, 3, none⟩) (x := .slice B2 x.bk.length d2) x2 (by simp))
  have x3 := CellF.up g3 (CellF.set (u := .slice B2 x.bk.length d2) x3)
  have x4 := CellF.up g3 (CellF.set_ne (q := ⟨w.heap.size + 1 + 1, 3, none⟩) (x := .slice B2 x.bk.length d2) x4 (by simp))
  have x5 := CellF.up g3 (CellF.set_ne (q := ⟨w.heap.size + 1 + 1, 3, none⟩) (x := .slice B2 x.bk.length d2) x5 (by simp))
  have x6 := CellF.up g3 (CellF.set_ne (q := ⟨w.heap.size + 1 + 1, 3, none⟩) (x := .slice B2 x.bk.length d2) x6 (by simp))
  have y0 := CellF.up g3 (CellF.set_ne (q := ⟨w.heap.size + 1 + 1, 3, none⟩) (x := .slice B2 x.bk.length d2) y0 (by simp))
  have y1 := CellF.up g3 (CellF.set_ne (q := ⟨w.heap.size + 1 + 1, 3, none⟩) (x := .slice B2 x.bk.length d2) y1 (by simp))
  have y2 := CellF.up g3 (CellF.set_ne (q := ⟨w.heap.size + 1 + 1, 3, none⟩) (x := .slice B2 x.bk.length d2) y2 (by simp))
  have y3 := CellF.up g3 (CellF.set_ne (q := ⟨w.heap.size + 1 + 1, 3, none⟩) (x := .slice B2 x.bk.length d2) y3 (by simp))
  have y4 := CellF.up g3 (CellF.set_ne (q := ⟨w.heap.size + 1 + 1, 3, none⟩) (x := .slice B2 x.bk.length d2) y4 (by simp))
  have y5 := CellF.up g3 (CellF.set_ne (q := ⟨w.heap.size + 1 + 1, 3, none⟩) (x := .slice B2 x.bk.length d2) y5 (by simp))
  have y6 := CellF.up g3 (CellF.set_ne (q := ⟨w.heap.size + 1 + 1, 3, none⟩) (x := .slice B2 x.bk.length d2) y6 (by simp))
  have K1 := Lib.hid ((K1.out.keep SG2.out (fun b hb he => by have := (HA2.out.1 b (hb.elim (fun hz => .inl (.inl hz)) fun hb => hb.elim (fun hz => .inr (.inl (.inl hz))) fun hz => .inr (.inr (.inl hz)))).1; have he : b = w.heap.size + 1 + 1 := he; omega)).up g3)
  have K2 := Lib.hid ((K2.out.keep SG2.out (fun b hb he => by have := (HA2.out.1 b (hb.elim (fun hz => .inl (.inr hz)) fun hb => hb.elim (fun hz => .inr (.inl (.inr hz))) fun hz => .inr (.inr (.inr hz)))).1; have he : b = w.heap.size + 1 + 1 := he; omega)).up g3)
  have K3 := Lib.hid k3
  clear ap3 k3
  have SG3 := Lib.hid (show Chg (fun b => b = w.heap.size + 1 + 1) w3 (w3.setCell ⟨w.heap.size + 1 + 1, 4, none⟩ (.slice B3 x.cs.length d3)) from Chg.setCell (Chg.refl (fun b => b = w.heap.size + 1 + 1) _) (p := ⟨w.heap.size + 1 + 1, 4, none⟩) (.inl rfl) _)
  have US3 := Lib.hid (show Up w (w3.setCell ⟨w.heap.size + 1 + 1, 4, none⟩ (.slice B3 x.cs.length d3)) from Chg.setCell U3.out (.inr (by show w.heap.size ≤ w.heap.size + 1 + 1; omega)) _)
  clear g3
  obtain ⟨x0c, x0f⟩ := x0
  obtain ⟨y0c, y0f⟩ := y0
  obtain ⟨x1c, x1f⟩ := x1
  obtain ⟨y1c, y1f⟩ := y1
  obtain ⟨x2c, x2f⟩ := x2
  obtain ⟨y2c, y2f⟩ := y2
  obtain ⟨x3c, x3f⟩ := x3
  obtain ⟨y3c, y3f⟩ := y3
  obtain ⟨x4c, x4f⟩ := x4
  obtain ⟨y4c, y4f⟩ := y4
  obtain ⟨x5c, x5f⟩ := x5
  obtain ⟨y5c, y5f⟩ := y5
  obtain ⟨x6c, x6f⟩ := x6
  obtain ⟨y6c, y6f⟩ := y6
  have x0 := Lib.hid (show CellF _ _ _ from ⟨x0c, x0f⟩)
  have y0 := Lib.hid (show CellF _ _ _ from ⟨y0c, y0f⟩)
  have x1 := Lib.hid (show CellF _ _ _ from ⟨x1c, x1f⟩)
  have y1 := Lib.hid (show CellF _ _ _ from ⟨y1c, y1f⟩)
  have x2 := Lib.hid (show CellF _ _ _ from ⟨x2c, x2f⟩)
  have y2 := Lib.hid (show CellF _ _ _ from ⟨y2c, y2f⟩)
  have x3 := Lib.hid (show CellF _ _ _ from ⟨x3c, x3f⟩)
  have y3 := Lib.hid (show CellF _ _ _ from ⟨y3c, y3f⟩)
  have x4 := Lib.hid (show CellF _ _ _ from ⟨x4c, x4f⟩)
  have y4 := Lib.hid (show CellF _ _ _ from ⟨y4c, y4f⟩)
  have x5 := Lib.hid (show CellF _ _ _ from ⟨x5c, x5f⟩)
  have y5 := Lib.hid (show CellF _ _ _ from ⟨y5c, y5f⟩)
  have x6 := Lib.hid (show CellF _ _ _ from ⟨x6c, x6f⟩)
  have y6 := Lib.hid (show CellF _ _ _ from ⟨y6c, y6f⟩)
  go_wp2_with fail
  refine (toInfoSV_any _ M H L _ x.ls (by omega) (H3.out.up (US3.out))).mono ?_
  rintro e w4 ⟨v4, M4, H4', L4, rfl, ap4, k4, g4⟩
  obtain ⟨B4, d4, rfl, hl4, hc4, -⟩ := k4.shape
  have U4 := Lib.hid (Chg.trans US3.out g4)
  have hs4 : w3.heap.size ≤ w4.heap.size := by have := g4.size; simpa using this
  have HA4 : Hid (ApartN (w.heap.size + 1 + 1 + 1) w4.heap.size (Un (Un (Un M1 M2) (M3)) (M4)) (Un (Un (Un H1' H2') (H3')) (H4')) (Un (Un (Un L1 L2) (L3)) (L4))) := Lib.hid (ApartN.un HA3.out (by simpa using ap4) (by omega) (by omega))
  have q5 := Chg.cell (Chg.trans SG3.out (Chg.of_up g4)) q5 (fun he => by have he : w.heap.size = w.heap.size + 1 + 1 := he; omega)
  have q6 := Chg.cell (Chg.trans SG3.out (Chg.of_up g4)) q6 (fun he => by have he : w.heap.size = w.heap.size + 1 + 1 := he; omega)
  have x0 := CellF.up g4 (CellF.set_ne (q := ⟨w.heap.size + 1 + 1, 4, none⟩) (x := .slice B3 x.cs.length d3) x0 (by simp))
  have x1 := CellF.up g4 (CellF.set_ne (q := ⟨w.heap.size + 1 + 1, 4, none⟩) (x := .slice B3 x.cs.length d3) x1 (by simp))
  have x2 := CellF.up g4 (CellF.set_ne (q := ⟨w.heap.size + 1 + 1, 4, none⟩) (x := .slice B3 x.cs.length d3) x2 (by simp))
  have x3 := CellF.up g4 (CellF.set_ne (q := ⟨w.heap.size + 1 + 1, 4, none⟩) (x := .slice B3 x.cs.length d3) x3 (by simp))
  have x4 := CellF.up g4 (CellF.set (u := .slice B3 x.cs.length d3) x4)
  have x5 := CellF.up g4 (CellF.set_ne (q := ⟨w.heap.size + 1 + 1, 4, none⟩) (x := .slice B3 x.cs.length d3) x5 (by simp))
  have x6 := CellF.up g4 (CellF.set_ne (q := ⟨w.heap.size + 1 + 1, 4, none⟩) (x := .slice B3 x.cs.length d3) x6 (by simp))
  have y0 := CellF.up g4 (CellF.set_ne (q := ⟨w.heap.size + 1 + 1, 4, none⟩) (x := .slice B3 x.cs.length d3) y0 (by simp))
  have y1 := CellF.up g4 (CellF.set_ne (q := ⟨w.heap.size + 1 + 1, 4, none⟩) (x := .slice B3 x.cs.length d3) y1 (by simp))
  have y2 := CellF.up g4 (CellF.set_ne (q := ⟨w.heap.size + 1 + 1, 4, none⟩) (x := .slice B3 x.cs.length d3) y2 (by simp))
  have y3 := CellF.up g4 (CellF.set_ne (q := ⟨w.heap.size + 1 + 1, 4, none⟩) (x := .slice B3 x.cs.length d3) y3 (by simp))
  have y4 := CellF.up g4 (CellF.set_ne (q := ⟨w.heap.size + 1 + 1, 4, none⟩) (x := .slice B3 x.cs.length d3) y4 (by simp))
  have y5 := CellF.up g4 (CellF.set_ne (q := ⟨w.heap.size + 1 + 1, 4, none⟩) (x := .slice B3 x.cs.length d3) y5 (by simp))
  have y6 := CellF.up g4 (CellF.set_ne (q := ⟨w.heap.size + 1 + 1, 4, none⟩) (x := .slice B3 x.cs.length d3) y6 (by simp))
  have K1 := Lib.hid ((K1.out.keep SG3.out (fun b hb he => by have := (HA3.out.1 b (hb.elim (fun hz => .inl (.inl (.inl hz))) fun hb => hb.elim (fun hz => .inr (.inl (.inl (.inl hz)))) fun hz => .inr (.inr (.inl (.inl hz))))).1; have he : b = w.heap.size + 1 + 1 := he; omega)).up g4)
  have K2 := Lib.hid ((K2.out.keep SG3.out (fun b hb he => by have := (HA3.out.1 b (hb.elim (fun hz => .inl (.inl (.inr hz))) fun hb => hb.elim (fun hz => .inr (.inl (.inl (.inr hz)))) fun hz => .inr (.inr (.inl (.inr hz))))).1; have he : b = w.heap.size + 1 + 1 := he; omega)).up g4)
  have K3 := Lib.hid ((K3.out.keep SG3.out (fun b hb he => by have := (HA3.out.1 b (hb.elim (fun hz => .inl (.inr hz)) fun hb => hb.elim (fun hz => .inr (.inl (.inr hz))) fun hz => .inr (.inr (.inr hz)))).1; have he : b = w.heap.size + 1 + 1 := he; omega)).up g4)
  have K4 := Lib.hid k4
  clear ap4 k4
  have SG4 := Lib.hid (show Chg (fun b => b = w.heap.size + 1 + 1) w4 (w4.setCell ⟨w.heap.size + 1 + 1, 5, none⟩ (.slice B4 x.ls.length d4)) from Chg.setCell (Chg.refl (fun b => b = w.heap.size + 1 + 1) _) (p := ⟨w.heap.size + 1 + 1, 5, none⟩) (.inl rfl) _)
  have US4 := Lib.hid (show Up w (w4.setCell ⟨w.heap.size + 1 + 1, 5, none⟩ (.slice B4 x.ls.length d4)) from Chg.setCell U4.out (.inr (by show w.heap.size ≤ w.heap.size + 1 + 1; omega)) _)
  clear g4
  obtain ⟨x0c, x0f⟩ := x0
  obtain ⟨y0c, y0f⟩ := y0
  obtain ⟨x1c, x1f⟩ := x1
  obtain ⟨y1c, y1f⟩ := y1
  obtain ⟨x2c, x2f⟩ := x2
  obtain ⟨y2c, y2f⟩ := y2
  obtain ⟨x3c, x3f⟩ := x3
  obtain ⟨y3c, y3f⟩ := y3
  obtain ⟨x4c, x4f⟩ := x4
  obtain ⟨y4c, y4f⟩ := y4
  obtain ⟨x5c, x5f⟩ := x5
  obtain ⟨y5c, y5f⟩ := y5
  obtain ⟨x6c, x6f⟩ := x6
  obtain ⟨y6c, y6f⟩ := y6
  have x0 := Lib.hid (show CellF _ _ _ from ⟨x0c, x0f⟩)
  have y0 := Lib.hid (show CellF _ _ _ from ⟨y0c, y0f⟩)
  have x1 := Lib.hid (show CellF _ _ _ from ⟨x1c, x1f⟩)
  have y1 := Lib.hid (show CellF _ _ _ from ⟨y1c, y1f⟩)
  have x2 := Lib.hid (show CellF _ _ _ from ⟨x2c, x2f⟩)
  have y2 := Lib.hid (show CellF _ _ _ from ⟨y2c, y2f⟩)
  have x3 := Lib.hid (show CellF _ _ _ from ⟨x3c, x3f⟩)
  have y3 := Lib.hid (show CellF _ _ _ from ⟨y3c, y3f⟩)
  have x4 := Lib.hid (show CellF _ _ _ from ⟨x4c, x4f⟩)
  have y4 := Lib.hid (show CellF _ _ _ from ⟨y4c, y4f⟩)
  have x5 := Lib.hid (show CellF _ _ _ from ⟨x5c, x5f⟩)
  have y5 := Lib.hid (show CellF _ _ _ from ⟨y5c, y5f⟩)
  have x6 := Lib.hid (show CellF _ _ _ from ⟨x6c, x6f⟩)
  have y6 := Lib.hid (show CellF _ _ _ from ⟨y6c, y6f⟩)
  go_wp2_with fail
  refine (toIntsL_any _ M H L _ x.dr (by omega) (H4.out.up (US4.out))).mono ?_
  rintro e w5 ⟨v5, M5, H5', L5, rfl, ap5, k5, g5⟩
  obtain ⟨B5, d5, rfl, hl5, hc5, -⟩ := k5.shape
  have U5 := Lib.hid (Chg.trans US4.out g5)
  have hs5 : w4.heap.size ≤ w5.heap.size := by have := g5.size; simpa using this
  have HA5 : Hid (ApartN (w.heap.size + 1 + 1 + 1) w5.heap.size (Un (Un (Un (Un M1 M2) (M3)) (M4)) (M5)) (Un (Un (Un (Un H1' H2') (H3')) (H4')) (H5')) (Un (Un (Un (Un L1 L2) (L3)) (L4)) (L5))) := Lib.hid (ApartN.un HA4.out (by simpa using ap5) (by omega) (by omega))
  have q6 := Chg.cell (Chg.trans SG4.out (Chg.of_up g5)) q6 (fun he => by have he : w.heap.size = w.heap.size + 1 + 1 := he; omega)
  have x0 := CellF.up g5 (CellF.set_ne (q := ⟨w.heap.size + 1 + 1, 5, none⟩) (x := .slice B4 x.ls.length d4) x0 (by simp))
  have x1 := CellF.up g5 (CellF.set_ne (q := ⟨w.heap.size + 1 + 1, 5, none⟩) (x := .slice B4 x.ls.length d4) x1 (by simp))
  have x2 := CellF.up g5 (CellF.set_ne (q := ⟨w.heap.size + 1 + 1, 5, none⟩) (x := .slice B4 x.ls.length d4) x2 (by simp))
  have x3 := CellF.up g5 (CellF.set_ne (q := ⟨w.heap.size + 1 + 1, 5, none⟩) (x := .slice B4 x.ls.length d4) x3 (by simp))
  have x4 := CellF.up g5 (CellF.set_ne (q := ⟨w.heap.size + 1 + 1, 5, none⟩) (x := .slice B4 x.ls.length d4) x4 (by simp))
  have x5 := CellF.up g5 (CellF.set (u := .slice B4 x.ls.length d4) x5)
  have x6 := CellF.up g5 (CellF.set_ne (q := ⟨w.heap.size + 1 + 1, 5, none⟩) (x := .slice B4 x.ls.length d4) x6 (by simp))
  have y0 := CellF.up g5 (CellF.set_ne (q := ⟨w.heap.size + 1 + 1, 5, none⟩) (x := .slice B4 x.ls.length d4) y0 (by simp))
  have y1 := CellF.up g5 (CellF.set_ne (q := ⟨w.heap.size + 1 + 1, 5, none⟩) (x := .slice B4 x.ls.length d4) y1 (by simp))
  have y2 := CellF.up g5 (CellF.set_ne (q := ⟨w.heap.size + 1 + 1, 5, none⟩) (x := .slice B4 x.ls.length d4) y2 (by simp))
  have y3 := CellF.up g5 (CellF.set_ne (q := ⟨w.heap.size + 1 + 1, 5, none⟩) (x := .slice B4 x.ls.length d4) y3 (by simp))
  have y4 := CellF.up g5 (CellF.set_ne (q := ⟨w.heap.size + 1 + 1, 5, none⟩) (x := .slice B4 x.ls.length d4) y4 (by simp))
  have y5 := CellF.up g5 (CellF.set_ne (q := ⟨w.heap.size + 1 + 1, 5, none⟩) (x := .slice B4 x.ls.length d4) y5 (by simp))
  have y6 := CellF.up g5 (CellF.set_ne (q := ⟨w.heap.size + 1 + 1, 5, none⟩) (x := .slice B4 x.ls.length d4) y6 (by simp))
  have K1 := Lib.hid ((K1.out.keep SG4.out (fun b hb he => by have := (HA4.out.1 b (hb.elim (fun hz => .inl (.inl (.inl (.inl hz)))) fun hb => hb.elim (fun hz => .inr (.inl (.inl (.inl (.inl hz))))) fun hz => .inr (.inr (.inl (.inl (.inl hz)))))).1; have he : b = w.heap.size + 1 + 1 := he; omega)).up g5)
  have K2 := Lib.hid ((K2.out.keep SG4.out (fun b hb he => by have := (HA4.out.1 b (hb.elim (fun hz => .inl (.inl (.inl (.inr hz)))) fun hb => hb.elim (fun hz => .inr (.inl (.inl (.inl (.inr hz))))) fun hz => .inr (.inr (.inl (.inl (.inr hz)))))).1; have he : b = w.heap.size + 1 + 1 := he; omega)).up g5)
  have K3 := Lib.hid ((K3.out.keep SG4.out (fun b hb he => by have := (HA4.out.1 b (hb.elim (fun hz => .inl (.inl (.inr hz))) fun hb => hb.elim (fun hz => .inr (.inl (.inl (.inr hz)))) fun hz => .inr (.inr (.inl (.inr hz))))).1; have he : b = w.heap.size + 1 + 1 := he; omega)).up g5)
  have K4 := Lib.hid ((K4.out.keep SG4.out (fun b hb he => by have := (HA4.out.1 b (hb.elim (fun hz => .inl (.inr hz)) fun hb => hb.elim (fun hz => .inr (.inl (.inr hz))) fun hz => .inr (.inr (.inr hz)))).1; have he : b = w.heap.size + 1 + 1 := he; omega)).up g5)
  have K5 := Lib.hid k5
  clear ap5 k5
  clear g5
  obtain ⟨x0c, x0f⟩ := x0
  obtain ⟨y0c, y0f⟩ := y0
  obtain ⟨x1c, x1f⟩ := x1
  obtain ⟨y1c, y1f⟩ := y1
  obtain ⟨x2c, x2f⟩ := x2
  obtain ⟨y2c, y2f⟩ := y2
  obtain ⟨x3c, x3f⟩ := x3
  obtain ⟨y3c, y3f⟩ := y3
  obtain ⟨x4c, x4f⟩ := x4
  obtain ⟨y4c, y4f⟩ := y4
  obtain ⟨x5c, x5f⟩ := x5
  obtain ⟨y5c, y5f⟩ := y5
  obtain ⟨x6c, x6f⟩ := x6
  obtain ⟨y6c, y6f⟩ := y6
  go_wp2
  have HC := Lib.hid (show Chg (fun b => b = w.heap.size + 1 ∨ b = w.heap.size + 1 + 1) w5 _ from Chg.setCell (Chg.setCell (Chg.setCell (Chg.setCell (Chg.setCell (Chg.setCell (Chg.setCell (Chg.setCell (Chg.refl _ _) (p := ⟨w.heap.size + 1 + 1, 6, none⟩) (.inl (.inr rfl)) (.slice B5 x.dr.length d5)) (p := ⟨w.heap.size + 1, 0, none⟩) (.inl (.inl rfl)) (.int .i64 x.wd)) (p := ⟨w.heap.size + 1, 1, none⟩) (.inl (.inl rfl)) (.int .i64 x.rk)) (p := ⟨w.heap.size + 1, 2, none⟩) (.inl (.inl rfl)) (.slice B1 x.fr.length d1)) (p := ⟨w.heap.size + 1, 3, none⟩) (.inl (.inl rfl)) (.slice B2 x.bk.length d2)) (p := ⟨w.heap.size + 1, 4, none⟩) (.inl (.inl rfl)) (.slice B3 x.cs.length d3)) (p := ⟨w.heap.size + 1, 5, none⟩) (.inl (.inl rfl)) (.slice B4 x.ls.length d4)) (p := ⟨w.heap.size + 1, 6, none⟩) (.inl (.inl rfl)) (.slice B5 x.dr.length d5))
  have HK : Hid (∀ b, b < w.heap.size + 1 + 1 + 1 → ¬ ((Un (Un (Un (Un M1 M2) (M3)) (M4)) (M5)) b ∨ (Un (Un (Un (Un H1' H2') (H3')) (H4')) (H5')) b ∨ (Un (Un (Un (Un L1 L2) (L3)) (L4)) (L5)) b)) := Lib.hid fun b hb h => by have := (HA5.out.1 b h).1; omega
  exact bodyPost_ret (v := .agg #[.int .i64 x.wd, .int .i64 x.rk, .slice B1 x.fr.length d1, .slice B2 x.bk.length d2, .slice B3 x.cs.length d3, .slice B4 x.ls.length d4, .slice B5 x.dr.length d5]) (by simp [results, Try.results9, go_sem, y0c, y1c, y2c, y3c, y4c, y5c, y6c]) rfl ⟨_, _, _, _, rfl, HA5.out.widen (by omega) (by have := HC.out.size; omega), ⟨_, _, _, _, _, _, _, _, _, _, rfl, (K1.out.keep HC.out (fun b hb hd => HK.out b (by omega) (hb.elim (fun hz => .inl (.inl (.inl (.inl (.inl hz))))) fun hb => hb.elim (fun hz => .inr (.inl (.inl (.inl (.inl (.inl hz)))))) fun hz => .inr (.inr (.inl (.inl (.inl (.inl hz)))))))).mono (fun b _ hb => .inl (.inl (.inl (.inl hb)))) (fun b _ hb => .inl (.inl (.inl (.inl hb)))) (fun b _ hb => .inl (.inl (.inl (.inl hb)))), (K2.out.keep HC.out (fun b hb hd => HK.out b (by omega) (hb.elim (fun hz => .inl (.inl (.inl (.inl (.inr hz))))) fun hb => hb.elim (fun hz => .inr (.inl (.inl (.inl (.inl (.inr hz)))))) fun hz => .inr (.inr (.inl (.inl (.inl (.inr hz)))))))).mono (fun b _ hb => .inl (.inl (.inl (.inr hb)))) (fun b _ hb => .inl (.inl (.inl (.inr hb)))) (fun b _ hb => .inl (.inl (.inl (.inr hb)))), (K3.out.keep HC.out (fun b hb hd => HK.out b (by omega) (hb.elim (fun hz => .inl (.inl (.inl (.inr hz)))) fun hb => hb.elim (fun hz => .inr (.inl (.inl (.inl (.inr hz))))) fun hz => .inr (.inr (.inl (.inl (.inr hz))))))).mono (fun b _ hb => .inl (.inl (.inr hb))) (fun b _ hb => .inl (.inl (.inr hb))) (fun b _ hb => .inl (.inl (.inr hb))), (K4.out.keep HC.out (fun b hb hd => HK.out b (by omega) (hb.elim (fun hz => .inl (.inl (.inr hz))) fun hb => hb.elim (fun hz => .inr (.inl (.inl (.inr hz)))) fun hz => .inr (.inr (.inl (.inr hz)))))).mono (fun b _ hb => .inl (.inr hb)) (fun b _ hb => .inl (.inr hb)) (fun b _ hb => .inl (.inr hb)), (K5.out.keep HC.out (fun b hb hd => HK.out b (by omega) (hb.elim (fun hz => .inl (.inr hz)) fun hb => hb.elim (fun hz => .inr (.inl (.inr hz))) fun hz => .inr (.inr (.inr hz))))).mono (fun b _ hb => .inr hb) (fun b _ hb => .inr hb) (fun b _ hb => .inr hb), ⟨hl1, hc1⟩, ⟨hl2, hc2⟩, ⟨hl3, hc3⟩, ⟨hl4, hc4⟩, ⟨hl5, hc5⟩, H10.out, H11.out⟩, Chg.new U5.out HC.out (fun i hi hd => by omega)⟩
theorem eqMac_same (w : World) (M H L M' H' L' : Nat → Prop) (v u : Value) (x : MacM) (hv : MacV w M H L v x) (hu : MacV w M' H' L' u x) :
    Calls Try.prog 12 #[v, u] w fun e w' => e = .returned (.bool true) ∧ Up w w' := by
  obtain ⟨A0, c0, A1, c1, A2, c2, A3, c3, A4, c4, rfl, h0, h1, h2, h3, h4, h5, h6, h7, h8, h9, h10, h11⟩ := hv
  obtain ⟨B0, d0, B1, d1, B2, d2, B3, d3, B4, d4, rfl, g0, g1, g2, g3, g4, g5, g6, g7, g8, g9, g10, g11⟩ := hu
  have U0 := Lib.hid (show Up w ((w.alloc (.cells #[.int .i64 x.wd, .int .i64 x.rk, .slice A0 x.fr.length c0, .slice A1 x.bk.length c1, .slice A2 x.cs.length c2, .slice A3 x.ls.length c3, .slice A4 x.dr.length c4] 35)).alloc (.cells #[.int .i64 x.wd, .int .i64 x.rk, .slice B0 x.fr.length d0, .slice B1 x.bk.length d1, .slice B2 x.cs.length d2, .slice B3 x.ls.length d3, .slice B4 x.dr.length d4] 35)) from (by repeat (first | exact Chg.refl _ _ | apply Chg.drew | apply Chg.drewN | refine Chg.alloc ?_ _)))
  have H0 := Lib.hid (h0.up U0.out)
  have G0 := Lib.hid (g0.up U0.out)
  have H1 := Lib.hid (h1.up U0.out)
  have G1 := Lib.hid (g1.up U0.out)
  have H2 := Lib.hid (h2.up U0.out)
  have G2 := Lib.hid (g2.up U0.out)
  have H3 := Lib.hid (h3.up U0.out)
  have G3 := Lib.hid (g3.up U0.out)
  have H4 := Lib.hid (h4.up U0.out)
  have G4 := Lib.hid (g4.up U0.out)
  clear h0 h1 h2 h3 h4 h5 h6 h7 h8 h9 h10 h11 g0 g1 g2 g3 g4 g5 g6 g7 g8 g9 g10 g11
  have e0 : (x.wd != x.wd) = false := by simp
  have e1 : (x.rk != x.rk) = false := by simp
  have q0 := Chg.cell ((Chg.refl Nowhere (w.alloc (.cells #[.int .i64 x.wd, .int .i64 x.rk, .slice A0 x.fr.length c0, .slice A1 x.bk.length c1, .slice A2 x.cs.length c2, .slice A3 x.ls.length c3, .slice A4 x.dr.length c4] 35))).alloc (.cells #[.int .i64 x.wd, .int .i64 x.rk, .slice B0 x.fr.length d0, .slice B1 x.bk.length d1, .slice B2 x.cs.length d2, .slice B3 x.ls.length d3, .slice B4 x.dr.length d4] 35)) (show (w.alloc (.cells #[.int .i64 x.wd, .int .i64 x.rk, .slice A0 x.fr.length c0, .slice A1 x.bk.length c1, .slice A2 x.cs.length c2, .slice A3 x.ls.length c3, .slice A4 x.dr.length c4] 35)).cell? ⟨w.heap.size, 0, none⟩ = some (.int .i64 x.wd) from cell_new _ _ _ _) id
  have q1 := Chg.cell ((Chg.refl Nowhere (w.alloc (.cells #[.int .i64 x.wd, .int .i64 x.rk, .slice A0 x.fr.length c0, .slice A1 x.bk.length c1, .slice A2 x.cs.length c2, .slice A3 x.ls.length c3, .slice A4 x.dr.length c4] 35))).alloc (.cells #[.int .i64 x.wd, .int .i64 x.rk, .slice B0 x.fr.length d0, .slice B1 x.bk.length d1, .slice B2 x.cs.length d2, .slice B3 x.ls.length d3, .slice B4 x.dr.length d4] 35)) (show (w.alloc (.cells #[.int .i64 x.wd, .int .i64 x.rk, .slice A0 x.fr.length c0, .slice A1 x.bk.length c1, .slice A2 x.cs.length c2, .slice A3 x.ls.length c3, .slice A4 x.dr.length c4] 35)).cell? ⟨w.heap.size, 1, none⟩ = some (.int .i64 x.rk) from cell_new _ _ _ _) id
  have q2 := Chg.cell ((Chg.refl Nowhere (w.alloc (.cells #[.int .i64 x.wd, .int .i64 x.rk, .slice A0 x.fr.length c0, .slice A1 x.bk.length c1, .slice A2 x.cs.length c2, .slice A3 x.ls.length c3, .slice A4 x.dr.length c4] 35))).alloc (.cells #[.int .i64 x.wd, .int .i64 x.rk, .slice B0 x.fr.length d0, .slice B1 x.bk.length d1, .slice B2 x.cs.length d2, .slice B3 x.ls.length d3, .slice B4 x.dr.length d4] 35)) (show (w.alloc (.cells #[.int .i64 x.wd, .int .i64 x.rk, .slice A0 x.fr.length c0, .slice A1 x.bk.length c1, .slice A2 x.cs.length c2, .slice A3 x.ls.length c3, .slice A4 x.dr.length c4] 35)).cell? ⟨w.heap.size, 2, none⟩ = some (.slice A0 x.fr.length c0) from cell_new _ _ _ _) id
  have q3 := Chg.cell ((Chg.refl Nowhere (w.alloc (.cells #[.int .i64 x.wd, .int .i64 x.rk, .slice A0 x.fr.length c0, .slice A1 x.bk.length c1, .slice A2 x.cs.length c2, .slice A3 x.ls.length c3, .slice A4 x.dr.length c4] 35))).alloc (.cells #[.int .i64 x.wd, .int .i64 x.rk, .slice B0 x.fr.length d0, .slice B1 x.bk.length d1, .slice B2 x.cs.length d2, .slice B3 x.ls.length d3, .slice B4 x.dr.length d4] 35)) (show (w.alloc (.cells #[.int .i64 x.wd, .int .i64 x.rk, .slice A0 x.fr.length c0, .slice A1 x.bk.length c1, .slice A2 x.cs.length c2, .slice A3 x.ls.length c3, .slice A4 x.dr.length c4] 35)).cell? ⟨w.heap.size, 3, none⟩ = some (.slice A1 x.bk.length c1) from cell_new _ _ _ _) id
  have q4 := Chg.cell ((Chg.refl Nowhere (w.alloc (.cells #[.int .i64 x.wd, .int .i64 x.rk, .slice A0 x.fr.length c0, .slice A1 x.bk.length c1, .slice A2 x.cs.length c2, .slice A3 x.ls.length c3, .slice A4 x.dr.length c4] 35))).alloc (.cells #[.int .i64 x.wd, .int .i64 x.rk, .slice B0 x.fr.length d0, .slice B1 x.bk.length d1, .slice B2 x.cs.length d2, .slice B3 x.ls.length d3, .slice B4 x.dr.length d4] 35)) (show (w.alloc (.cells #[.int .i64 x.wd, .int .i64 x.rk, .slice A0 x.fr.length c0, .slice A1 x.bk.length c1, .slice A2 x.cs.length c2, .slice A3 x.ls.length c3, .slice A4 x.dr.length c4] 35)).cell? ⟨w.heap.size, 4, none⟩ = some (.slice A2 x.cs.length c2) from cell_new _ _ _ _) id
  have q5 := Chg.cell ((Chg.refl Nowhere (w.alloc (.cells #[.int .i64 x.wd, .int .i64 x.rk, .slice A0 x.fr.length c0, .slice A1 x.bk.length c1, .slice A2 x.cs.length c2, .slice A3 x.ls.length c3, .slice A4 x.dr.length c4] 35))).alloc (.cells #[.int .i64 x.wd, .int .i64 x.rk, .slice B0 x.fr.length d0, .slice B1 x.bk.length d1, .slice B2 x.cs.length d2, .slice B3 x.ls.length d3, .slice B4 x.dr.length d4] 35)) (show (w.alloc (.cells #[.int .i64 x.wd, .int .i64 x.rk, .slice A0 x.fr.length c0, .slice A1 x.bk.length c1, .slice A2 x.cs.length c2, .slice A3 x.ls.length c3, .slice A4 x.dr.length c4] 35)).cell? ⟨w.heap.size, 5, none⟩ = some (.slice A3 x.ls.length c3) from cell_new _ _ _ _) id
  have q6 := Chg.cell ((Chg.refl Nowhere (w.alloc (.cells #[.int .i64 x.wd, .int .i64 x.rk, .slice A0 x.fr.length c0, .slice A1 x.bk.length c1, .slice A2 x.cs.length c2, .slice A3 x.ls.length c3, .slice A4 x.dr.length c4] 35))).alloc (.cells #[.int .i64 x.wd, .int .i64 x.rk, .slice B0 x.fr.length d0, .slice B1 x.bk.length d1, .slice B2 x.cs.length d2, .slice B3 x.ls.length d3, .slice B4 x.dr.length d4] 35)) (show (w.alloc (.cells #[.int .i64 x.wd, .int .i64 x.rk, .slice A0 x.fr.length c0, .slice A1 x.bk.length c1, .slice A2 x.cs.length c2, .slice A3 x.ls.length c3, .slice A4 x.dr.length c4] 35)).cell? ⟨w.heap.size, 6, none⟩ = some (.slice A4 x.dr.length c4) from cell_new _ _ _ _) id
  have p0 := (show ((w.alloc (.cells #[.int .i64 x.wd, .int .i64 x.rk, .slice A0 x.fr.length c0, .slice A1 x.bk.length c1, .slice A2 x.cs.length c2, .slice A3 x.ls.length c3, .slice A4 x.dr.length c4] 35)).alloc (.cells #[.int .i64 x.wd, .int .i64 x.rk, .slice B0 x.fr.length d0, .slice B1 x.bk.length d1, .slice B2 x.cs.length d2, .slice B3 x.ls.length d3, .slice B4 x.dr.length d4] 35)).cell? ⟨w.heap.size + 1, 0, none⟩ = some (.int .i64 x.wd) from (cellF_at (by simp) rfl).1)
  have p1 := (show ((w.alloc (.cells #[.int .i64 x.wd, .int .i64 x.rk, .slice A0 x.fr.length c0, .slice A1 x.bk.length c1, .slice A2 x.cs.length c2, .slice A3 x.ls.length c3, .slice A4 x.dr.length c4] 35)).alloc (.cells #[.int .i64 x.wd, .int .i64 x.rk, .slice B0 x.fr.length d0, .slice B1 x.bk.length d1, .slice B2 x.cs.length d2, .slice B3 x.ls.length d3, .slice B4 x.dr.length d4] 35)).cell? ⟨w.heap.size + 1, 1, none⟩ = some (.int .i64 x.rk) from (cellF_at (by simp) rfl).1)
  have p2 := (show ((w.alloc (.cells #[.int .i64 x.wd, .int .i64 x.rk, .slice A0 x.fr.length c0, .slice A1 x.bk.length c1, .slice A2 x.cs.length c2, .slice A3 x.ls.length c3, .slice A4 x.dr.length c4] 35)).alloc (.cells #[.int .i64 x.wd, .int .i64 x.rk, .slice B0 x.fr.length d0, .slice B1 x.bk.length d1, .slice B2 x.cs.length d2, .slice B3 x.ls.length d3, .slice B4 x.dr.length d4] 35)).cell? ⟨w.heap.size + 1, 2, none⟩ = some (.slice B0 x.fr.length d0) from (cellF_at (by simp) rfl).1)
  have p3 := (show ((w.alloc (.cells #[.int .i64 x.wd, .int .i64 x.rk, .slice A0 x.fr.length c0, .slice A1 x.bk.length c1, .slice A2 x.cs.length c2, .slice A3 x.ls.length c3, .slice A4 x.dr.length c4] 35)).alloc (.cells #[.int .i64 x.wd, .int .i64 x.rk, .slice B0 x.fr.length d0, .slice B1 x.bk.length d1, .slice B2 x.cs.length d2, .slice B3 x.ls.length d3, .slice B4 x.dr.length d4] 35)).cell? ⟨w.heap.size + 1, 3, none⟩ = some (.slice B1 x.bk.length d1) from (cellF_at (by simp) rfl).1)
  have p4 := (show ((w.alloc (.cells #[.int .i64 x.wd, .int .i64 x.rk, .slice A0 x.fr.length c0, .slice A1 x.bk.length c1, .slice A2 x.cs.length c2, .slice A3 x.ls.length c3, .slice A4 x.dr.length c4] 35)).alloc (.cells #[.int .i64 x.wd, .int .i64 x.rk, .slice B0 x.fr.length d0, .slice B1 x.bk.length d1, .slice B2 x.cs.length d2, .slice B3 x.ls.length d3, .slice B4 x.dr.length d4] 35)).cell? ⟨w.heap.size + 1, 4, none⟩ = some (.slice B2 x.cs.length d2) from (cellF_at (by simp) rfl).1)
  have p5 := (show ((w.alloc (.cells #[.int .i64 x.wd, .int .i64 x.rk, .slice A0 x.fr.length c0, .slice A1 x.bk.length c1, .slice A2 x.cs.length c2, .slice A3 x.ls.length c3, .slice A4 x.dr.length c4] 35)).alloc (.cells #[.int .i64 x.wd, .int .i64 x.rk, .slice B0 x.fr.length d0, .slice B1 x.bk.length d1, .slice B2 x.cs.length d2, .slice B3 x.ls.length d3, .slice B4 x.dr.length d4] 35)).cell? ⟨w.heap.size + 1, 5, none⟩ = some (.slice B3 x.ls.length d3) from (cellF_at (by simp) rfl).1)
  have p6 := (show ((w.alloc (.cells #[.int .i64 x.wd, .int .i64 x.rk, .slice A0 x.fr.length c0, .slice A1 x.bk.length c1, .slice A2 x.cs.length c2, .slice A3 x.ls.length c3, .slice A4 x.dr.length c4] 35)).alloc (.cells #[.int .i64 x.wd, .int .i64 x.rk, .slice B0 x.fr.length d0, .slice B1 x.bk.length d1, .slice B2 x.cs.length d2, .slice B3 x.ls.length d3, .slice B4 x.dr.length d4] 35)).cell? ⟨w.heap.size + 1, 6, none⟩ = some (.slice B4 x.dr.length d4) from (cellF_at (by simp) rfl).1)
  go_enter Try.func12, Try.ntmps12
  go_wp2_with fail
  refine (eqIntSSV_same _ M H L M' H' L' _ _ x.fr (H0.out.up (by repeat (first | exact Chg.refl _ _ | apply Chg.drew | apply Chg.drewN | refine Chg.alloc ?_ _))) (G0.out.up (by repeat (first | exact Chg.refl _ _ | apply Chg.drew | apply Chg.drewN | refine Chg.alloc ?_ _)))).mono ?_
  rintro e w1 ⟨rfl, g1⟩
  have GX := Lib.hid (Chg.trans (by repeat (first | exact Chg.refl _ _ | apply Chg.drew | apply Chg.drewN | refine Chg.alloc ?_ _)) g1)
  clear g1
  have U1 := Lib.hid (Chg.trans U0.out GX.out)
  clear U0
  have H1 := Lib.hid (H1.out.up GX.out)
  have G1 := Lib.hid (G1.out.up GX.out)
  have H2 := Lib.hid (H2.out.up GX.out)
  have G2 := Lib.hid (G2.out.up GX.out)
  have H3 := Lib.hid (H3.out.up GX.out)
  have G3 := Lib.hid (G3.out.up GX.out)
  have H4 := Lib.hid (H4.out.up GX.out)
  have G4 := Lib.hid (G4.out.up GX.out)
  have q0 := Chg.cell GX.out q0 id
  have p0 := Chg.cell GX.out p0 id
  have q1 := Chg.cell GX.out q1 id
  have p1 := Chg.cell GX.out p1 id
  have q2 := Chg.cell GX.out q2 id
  have p2 := Chg.cell GX.out p2 id
  have q3 := Chg.cell GX.out q3 id
  have p3 := Chg.cell GX.out p3 id
  have q4 := Chg.cell GX.out q4 id
  have p4 := Chg.cell GX.out p4 id
  have q5 := Chg.cell GX.out q5 id
  have p5 := Chg.cell GX.out p5 id
  have q6 := Chg.cell GX.out q6 id
  have p6 := Chg.cell GX.out p6 id
  clear GX
  go_wp2_with fail
  refine (eqIntSSV_same _ M H L M' H' L' _ _ x.bk (H1.out.up (by repeat (first | exact Chg.refl _ _ | apply Chg.drew | apply Chg.drewN | refine Chg.alloc ?_ _))) (G1.out.up (by repeat (first | exact Chg.refl _ _ | apply Chg.drew | apply Chg.drewN | refine Chg.alloc ?_ _)))).mono ?_
  rintro e w2 ⟨rfl, g1⟩
  have GX := Lib.hid (Chg.trans (by repeat (first | exact Chg.refl _ _ | apply Chg.drew | apply Chg.drewN | refine Chg.alloc ?_ _)) g1)
  clear g1
  have U2 := Lib.hid (Chg.trans U1.out GX.out)
  clear U1
  have H2 := Lib.hid (H2.out.up GX.out)
  have G2 := Lib.hid (G2.out.up GX.out)
  have H3 := Lib.hid (H3.out.up GX.out)
  have G3 := Lib.hid (G3.out.up GX.out)
  have H4 := Lib.hid (H4.out.up GX.out)
  have G4 := Lib.hid (G4.out.up GX.out)
  have q0 := Chg.cell GX.out q0 id
  have p0 := Chg.cell GX.out p0 id
  have q1 := Chg.cell GX.out q1 id
  have p1 := Chg.cell GX.out p1 id
  have q2 := Chg.cell GX.out q2 id
  have p2 := Chg.cell GX.out p2 id
  have q3 := Chg.cell GX.out q3 id
  have p3 := Chg.cell GX.out p3 id
  have q4 := Chg.cell GX.out q4 id
  have p4 := Chg.cell GX.out p4 id
  have q5 := Chg.cell GX.out q5 id
  have p5 := Chg.cell GX.out p5 id
  have q6 := Chg.cell GX.out q6 id
  have p6 := Chg.cell GX.out p6 id
  clear GX
  go_wp2_with fail
  refine (eqCarsL_same _ M H L M' H' L' _ _ x.cs (H2.out.up (by repeat (first | exact Chg.refl _ _ | apply Chg.drew | apply Chg.drewN | refine Chg.alloc ?_ _))) (G2.out.up (by repeat (first | exact Chg.refl _ _ | apply Chg.drew | apply Chg.drewN | refine Chg.alloc ?_ _)))).mono ?_
  rintro e w3 ⟨rfl, g1⟩
  have GX := Lib.hid (Chg.trans (by repeat (first | exact Chg.refl _ _ | apply Chg.drew | apply Chg.drewN | refine Chg.alloc ?_ _)) g1)
  clear g1
  have U3 := Lib.hid (Chg.trans U2.out GX.out)
  clear U2
  have H3 := Lib.hid (H3.out.up GX.out)
  have G3 := Lib.hid (G3.out.up GX.out)
  have H4 := Lib.hid (H4.out.up GX.out)
  have G4 := Lib.hid (G4.out.up GX.out)
  have q0 := Chg.cell GX.out q0 id
  have p0 := Chg.cell GX.out p0 id
  have q1 := Chg.cell GX.out q1 id
  have p1 := Chg.cell GX.out p1 id
  have q2 := Chg.cell GX.out q2 id
  have p2 := Chg.cell GX.out p2 id
  have q3 := Chg.cell GX.out q3 id
  have p3 := Chg.cell GX.out p3 id
  have q4 := Chg.cell GX.out q4 id
  have p4 := Chg.cell GX.out p4 id
  have q5 := Chg.cell GX.out q5 id
  have p5 := Chg.cell GX.out p5 id
  have q6 := Chg.cell GX.out q6 id
  have p6 := Chg.cell GX.out p6 id
  clear GX
  go_wp2_with fail
  refine (eqInfoSV_same _ M H L M' H' L' _ _ x.ls (H3.out.up (by repeat (first | exact Chg.refl _ _ | apply Chg.drew | apply Chg.drewN | refine Chg.alloc ?_ _))) (G3.out.up (by repeat (first | exact Chg.refl _ _ | apply Chg.drew | apply Chg.drewN | refine Chg.alloc ?_ _)))).mono ?_
  rintro e w4 ⟨rfl, g1⟩
  have GX := Lib.hid (Chg.trans (by repeat (first | exact Chg.refl _ _ | apply Chg.drew | apply Chg.drewN | refine Chg.alloc ?_ _)) g1)
  clear g1
  have U4 := Lib.hid (Chg.trans U3.out GX.out)
  clear U3
  have H4 := Lib.hid (H4.out.up GX.out)
  have G4 := Lib.hid (G4.out.up GX.out)
  have q0 := Chg.cell GX.out q0 id
  have p0 := Chg.cell GX.out p0 id
  have q1 := Chg.cell GX.out q1 id
  have p1 := Chg.cell GX.out p1 id
  have q2 := Chg.cell GX.out q2 id
  have p2 := Chg.cell GX.out p2 id
  have q3 := Chg.cell GX.out q3 id
  have p3 := Chg.cell GX.out p3 id
  have q4 := Chg.cell GX.out q4 id
  have p4 := Chg.cell GX.out p4 id
  have q5 := Chg.cell GX.out q5 id
  have p5 := Chg.cell GX.out p5 id
  have q6 := Chg.cell GX.out q6 id
  have p6 := Chg.cell GX.out p6 id
  clear GX
  go_wp2_with fail
  refine (eqIntsL_same _ M H L M' H' L' _ _ x.dr (H4.out.up (by repeat (first | exact Chg.refl _ _ | apply Chg.drew | apply Chg.drewN | refine Chg.alloc ?_ _))) (G4.out.up (by repeat (first | exact Chg.refl _ _ | apply Chg.drew | apply Chg.drewN | refine Chg.alloc ?_ _)))).mono ?_
  rintro e w5 ⟨rfl, g1⟩
  have GX := Lib.hid (Chg.trans (by repeat (first | exact Chg.refl _ _ | apply Chg.drew | apply Chg.drewN | refine Chg.alloc ?_ _)) g1)
  clear g1
  have U5 := Lib.hid (Chg.trans U4.out GX.out)
  clear U4
  have q0 := Chg.cell GX.out q0 id
  have p0 := Chg.cell GX.out p0 id
  have q1 := Chg.cell GX.out q1 id
  have p1 := Chg.cell GX.out p1 id
  have q2 := Chg.cell GX.out q2 id
  have p2 := Chg.cell GX.out p2 id
  have q3 := Chg.cell GX.out q3 id
  have p3 := Chg.cell GX.out p3 id
  have q4 := Chg.cell GX.out q4 id
  have p4 := Chg.cell GX.out p4 id
  have q5 := Chg.cell GX.out q5 id
  have p5 := Chg.cell GX.out p5 id
  have q6 := Chg.cell GX.out q6 id
  have p6 := Chg.cell GX.out p6 id
  clear GX
  go_wp2
  go_ret
  exact ⟨rfl, Chg.trans U5.out (by repeat (first | exact Chg.refl _ _ | apply Chg.drew | apply Chg.drewN | refine Chg.alloc ?_ _))⟩
end Go.Proofs.Ytchfjglofmphfaa
end
section
set_option linter.unusedSimpArgs false
set_option linter.unusedVariables false
namespace Go.Proofs.Ytchfjglofmphfaa
open Go.ChangeShapes Go.WideShapes Go.ChangeAt Go.RowKit Go.Deep
section
variable {H : Type} {enc : TypeId × Value → H} {w : World}
theorem struct_bool {P : Program} {t : TypeId} {n : Nat} {cs : List Value} {x : DataW H × List MemPlace} {fs : Array Field} (ht : P.underlying t = some (.struct fs)) (h : DataW.trod enc P w 0 (fun _ => true) true n t cs = some x)
    {i : Nat} {f : Field} (hf : fs[i]? = some f) (hu : P.underlying f.type = some .bool) (hc : P.cellsOf f.type = 1) : ∃ z, cs[f.offset]? = some (.bool z) := by
  obtain ⟨m, y, hy⟩ := struct_sub ht h hf
  rw [hc] at hy
  obtain ⟨z, he, -⟩ := DataW.trod_bool hu hy
  refine ⟨z, ?_⟩
  have := congrArg (fun l => l[0]?) he
  simpa using this
set_option maxRecDepth 100000 in
theorem dec_Car (n : Nat) (cs : List Value) (x : DataW H × List MemPlace) (h : DataW.trod enc Try.prog w 0 (fun _ => true) true n 171 cs = some x) : ∃ y : CarM, cs = y.cells ∧ y.ok := by
  obtain ⟨a0, a1, rfl⟩ := len2 ((struct_len Try.underlying171 h).trans (by kernel_rfl))
  obtain ⟨z0, e0⟩ := struct_bool Try.underlying171 h (i := 0) rfl Try.underlying4 (by kernel_rfl)
  obtain ⟨z1, e1, i1⟩ := struct_int Try.underlying171 h (i := 1) rfl Try.underlying2 int1
  simp at e0 e1
  subst e0 e1
  exact ⟨⟨z0, z1⟩, rfl, i1⟩
theorem open_CarsT {n : Nat} {u : Value} {y : DataW H × List MemPlace} (h : DataW.trod enc Try.prog w 0 (fun _ => true) true n 23 [u] = some y) (hz : ∀ b off, MemPlace.cell b off ∈ y.2 → w.frozen? ⟨b, off, none⟩ = false) :
    ∃ xs, Cars w (fun b => b < w.heap.size) u xs := by
  obtain ⟨xs, cs, h1, h2⟩ := open_nst (fun _ cs (y : CarM) => cs = y.cells ∧ y.ok) 2 (by omega) Try.underlying23 (show Try.prog.cellsOf 171 = 2 by kernel_rfl) (fun n cs x h hz hl => dec_Car n cs x h) h hz
  have e := flat_of_chunks CarM.cells 2 (by omega) CarM.cells_length xs cs h1.1 (fun i hi => (h2 i hi).1)
  subst e
  refine ⟨xs, h1, fun x hx => ?_⟩
  obtain ⟨i, hi, rfl⟩ := List.getElem_of_mem hx
  exact (h2 i hi).2
set_option maxRecDepth 100000 in
theorem dec_Info (n : Nat) (cs : List Value) (x : DataW H × List MemPlace) (h : DataW.trod enc Try.prog w 0 (fun _ => true) true n 159 cs = some x) (hz : ∀ b off, MemPlace.cell b off ∈ x.2 → w.frozen? ⟨b, off, none⟩ = false) (hl : cs.length = 6) :
    ∃ y, InfoE (fun b => b < w.heap.size) (fun b => b < w.heap.size) (fun b => b < w.heap.size) w cs y := by
  obtain ⟨a0, a1, a2, a3, a4, a5, rfl⟩ := len6 hl
  obtain ⟨z0, e0, i0⟩ := struct_int Try.underlying159 h (i := 0) rfl Try.underlying2 int1
  obtain ⟨z1, e1, i1⟩ := struct_int Try.underlying159 h (i := 1) rfl Try.underlying2 int1
  obtain ⟨z2, e2, i2⟩ := struct_int Try.underlying159 h (i := 2) rfl Try.underlying2 int1
  obtain ⟨z3, e3, i3⟩ := struct_int Try.underlying159 h (i := 3) rfl Try.underlying2 int1
  obtain ⟨z4, e4, i4⟩ := struct_int Try.underlying159 h (i := 4) rfl Try.underlying2 int1
  obtain ⟨m2, y2, h2, hz2⟩ := struct_subz Try.underlying159 h hz (i := 5) rfl
  obtain ⟨xs, hx⟩ := open_IntsT (u := a5) Try.underlying25 Try.underlying2 (by kernel_rfl) (by simpa [show Try.prog.cellsOf 25 = 1 by kernel_rfl] using h2) hz2
  simp at e0 e1 e2 e3 e4
  subst e0 e1 e2 e3 e4
  obtain ⟨A, c, rfl, k1, k2, -⟩ := hx.shape
  exact ⟨⟨z0, z1, z2, z3, z4, xs⟩, A, c, rfl, hx, ⟨k1, k2⟩, i0, i1, i2, i3, i4⟩
theorem open_InfosT {n : Nat} {u : Value} {y : DataW H × List MemPlace} (h : DataW.trod enc Try.prog w 0 (fun _ => true) true n 24 [u] = some y) (hz : ∀ b off, MemPlace.cell b off ∈ y.2 → w.frozen? ⟨b, off, none⟩ = false) :
    ∃ xs, InfoSV w (fun b => b < w.heap.size) (fun b => b < w.heap.size) (fun b => b < w.heap.size) u xs :=
  open_nst (InfoE (fun b => b < w.heap.size) (fun b => b < w.heap.size) (fun b => b < w.heap.size)) 6 (by omega) Try.underlying24 (show Try.prog.cellsOf 159 = 6 by kernel_rfl) (fun n cs x h hz hl => dec_Info n cs x h hz hl) h hz
end
/-- a machine, as an argument -/
def MacA (w : World) (S : Nat → Prop) (v : Value) (p : MacM) : Prop := MacV w S S S v p
theorem MacA.up {w w' : World} {S : Nat → Prop} {v : Value} {p : MacM} (h : MacA w S v p) (g : Up w w') : MacA w' S v p := MacV.up h g
theorem array7 {α : Type} {cs : Array α} (h : cs.size = 7) : ∃ c0 c1 c2 c3 c4 c5 c6, cs = #[c0, c1, c2, c3, c4, c5, c6] := by
  obtain ⟨l⟩ := cs
  match l, h with
  | [c0, c1, c2, c3, c4, c5, c6], _ => exact ⟨c0, c1, c2, c3, c4, c5, c6, rfl⟩
set_option maxRecDepth 100000 in
theorem open_Machine {H : Type} {enc : TypeId × Value → H} {w : World} {v : Value} {d : DataW H} {p : List MemPlace} {base : Nat}
    (hv : Value.okWide Try.prog w .any base 27 v) (h : DataW.Trod enc Try.prog w 0 (fun _ => true) true 27 v d p)
    (hz : ∀ b off, MemPlace.cell b off ∈ p → w.frozen? ⟨b, off, none⟩ = false) : ∃ r, MacA w (fun b => b < w.heap.size) v r := by
  obtain ⟨cs, rfl, hsz⟩ := okWide_struct Try.underlying27 hv
  obtain ⟨a0, a1, a2, a3, a4, a5, a6, rfl⟩ := array7 (hsz.trans (show Try.prog.cellsOf 27 = 7 by kernel_rfl))
  obtain ⟨fuel, hf⟩ := h
  have hf' : DataW.trod enc Try.prog w 0 (fun _ => true) true fuel 27 [a0, a1, a2, a3, a4, a5, a6] = some (d, p) := hf
  obtain ⟨z0, e0, i0⟩ := struct_int Try.underlying27 hf' (i := 0) rfl Try.underlying2 int1
  obtain ⟨z1, e1, i1⟩ := struct_int Try.underlying27 hf' (i := 1) rfl Try.underlying2 int1
  obtain ⟨m2, y2, h2, hz2⟩ := struct_subz Try.underlying27 hf' hz (i := 2) rfl
  obtain ⟨m3, y3, h3, hz3⟩ := struct_subz Try.underlying27 hf' hz (i := 3) rfl
  obtain ⟨m4, y4, h4, hz4⟩ := struct_subz Try.underlying27 hf' hz (i := 4) rfl
  obtain ⟨m5, y5, h5, hz5⟩ := struct_subz Try.underlying27 hf' hz (i := 5) rfl
  obtain ⟨m6, y6, h6, hz6⟩ := struct_subz Try.underlying27 hf' hz (i := 6) rfl
  obtain ⟨fr, k2⟩ := open_IntSST (u := a2) (by simpa [show Try.prog.cellsOf 22 = 1 by kernel_rfl] using h2) hz2
  obtain ⟨bk, k3⟩ := open_IntSST (u := a3) (by simpa [show Try.prog.cellsOf 22 = 1 by kernel_rfl] using h3) hz3
  obtain ⟨cr, k4⟩ := open_CarsT (u := a4) (by simpa [show Try.prog.cellsOf 23 = 1 by kernel_rfl] using h4) hz4
  obtain ⟨ls, k5⟩ := open_InfosT (u := a5) (by simpa [show Try.prog.cellsOf 24 = 1 by kernel_rfl] using h5) hz5
  obtain ⟨dr, k6⟩ := open_IntsT (u := a6) Try.underlying25 Try.underlying2 (by kernel_rfl) (by simpa [show Try.prog.cellsOf 25 = 1 by kernel_rfl] using h6) hz6
  simp at e0 e1
  subst e0 e1
  obtain ⟨A2, c2, rfl, p2, q2, -⟩ := k2.shape
  obtain ⟨A3, c3, rfl, p3, q3, -⟩ := k3.shape
  obtain ⟨A4, c4, rfl, p4, q4, -⟩ := k4.shape
  obtain ⟨A5, c5, rfl, p5, q5, -⟩ := k5.shape
  obtain ⟨A6, c6, rfl, p6, q6, -⟩ := k6.shape
  exact ⟨⟨z0, z1, fr, bk, cr, ls, dr⟩, A2, c2, A3, c3, A4, c4, A5, c5, A6, c6, rfl, k2, k3, k4, k5, k6, ⟨p2, q2⟩, ⟨p3, q3⟩, ⟨p4, q4⟩, ⟨p5, q5⟩, ⟨p6, q6⟩, i0, i1⟩
end Go.Proofs.Ytchfjglofmphfaa
end
section
set_option linter.unusedSimpArgs false
set_option linter.unusedVariables false
namespace Go.Proofs.Ytchfjglofmphfaa
open Go.ChangeShapes Go.WideShapes Go.ChangeAt Go.RowKit
def szMc (p : MacM) : Nat := szF List.length p.fr + szF List.length p.bk + p.cs.length + szF (fun x => x.ps.length) p.ls + p.dr.length
theorem openMac {w : World} {S : Nat → Prop} {v : Value} {p : MacM} (h : MacA w S v p) : ∃ A0 c0 A1 c1 A2 c2 A3 c3 A4 c4, v = .agg #[.int .i64 p.wd, .int .i64 p.rk, .slice A0 p.fr.length c0, .slice A1 p.bk.length c1, .slice A2 p.cs.length c2, .slice A3 p.ls.length c3, .slice A4 p.dr.length c4] ∧ MacA w S v p :=
  let ⟨A0, c0, A1, c1, A2, c2, A3, c3, A4, c4, he, hr⟩ := h; ⟨A0, c0, A1, c1, A2, c2, A3, c3, A4, c4, he, A0, c0, A1, c1, A2, c2, A3, c3, A4, c4, he, hr⟩
theorem szMacA_ok (w : World) (S : Nat → Prop) (v : Value) (p : MacM) (k : Int) (hk : 0 ≤ k ∧ k ≤ 1048576) (hl : (szMc p : Int) ≤ k) (h : MacA w S v p) :
    Calls Try.prog 7 #[v, .int .i64 k] w fun e w' => e = .returned (.int .i64 (k - szMc p)) ∧ Up w w' :=
  (szMac_ok w S S S v p k hk (by unfold szMc at hl; omega) h).mono fun _ _ ⟨he, hg⟩ => ⟨he.trans (ret_int (by unfold szMc; omega)), hg⟩
theorem szMacA_no (w : World) (S : Nat → Prop) (v : Value) (p : MacM) (k : Int) (hk : 0 ≤ k ∧ k ≤ 1048576) (hl : k < (szMc p : Int)) (h : MacA w S v p) :
    Calls Try.prog 7 #[v, .int .i64 k] w fun e w' => e = .returned (.int .i64 (-1)) ∧ Up w w' :=
  szMac_no w S S S v p k hk (by unfold szMc at hl; omega) h
theorem toMacA_any (w : World) (S : Nat → Prop) (v : Value) (p : MacM) (hb : szMc p ≤ 1048576) (h : MacA w S v p) :
    Calls Try.prog 9 #[v] w fun e w' => ∃ u, e = .returned u ∧ MacA w' (New w.heap.size w'.heap.size) u p ∧ Up w w' :=
  (toMac_any w S S S v p (by unfold szMc at hb; omega) h).mono fun _ _ ⟨u, M, H, L, he, ha, hr, hg⟩ => ⟨u, he, hr.mono (fun b _ h => ha.1 b (.inl h)) (fun b _ h => ha.1 b (.inr (.inl h))) (fun b _ h => ha.1 b (.inr (.inr h))), hg⟩
theorem eqMacA_same (w : World) (S T : Nat → Prop) (v u : Value) (p : MacM) (h : MacA w S v p) (h2 : MacA w T u p) :
    Calls Try.prog 12 #[v, u] w fun e w' => e = .returned (.bool true) ∧ Up w w' := eqMac_same w S S S T T T v u p h h2
end Go.Proofs.Ytchfjglofmphfaa
end
section
set_option linter.unusedSimpArgs false
set_option linter.unusedVariables false
set_option maxRecDepth 100000
set_option maxHeartbeats 2000000
namespace Go.Proofs.Ytchfjglofmphfaa
open Go.ChangeShapes Go.WideShapes Go.ChangeAt Go.RowKit
theorem ints_blkB {w : World} {S : Nat → Prop} {b o c n : Nat} {xs : List Int} (h : Ints w S (.slice (some ⟨b, o, none⟩) n c) xs) (hp : 0 < xs.length) : S b := by
  obtain ⟨A', c', he, _, _, _, hr, _⟩ := h
  obtain ⟨b', o', hA, hs, _⟩ := hr hp
  simp at he
  obtain ⟨rfl, rfl, rfl⟩ := he
  simp at hA
  rw [hA.1]
  exact hs
structure KeptB (w w' : World) : Prop where
  int : ∀ {b o : Nat} {i : Int}, w.cell? ⟨b, o, none⟩ = some (.int .i64 i) → ∃ i', w'.cell? ⟨b, o, none⟩ = some (.int .i64 i')
  slc : ∀ {b o : Nat} {A : Option Addr} {n c : Nat}, w.cell? ⟨b, o, none⟩ = some (.slice A n c) → w'.cell? ⟨b, o, none⟩ = some (.slice A n c)
  fz : ∀ {b o : Nat} {i : Int}, w.cell? ⟨b, o, none⟩ = some (.int .i64 i) → w'.frozen? ⟨b, o, none⟩ = w.frozen? ⟨b, o, none⟩
  bl : ∀ {b o : Nat} {i : Bool}, w.cell? ⟨b, o, none⟩ = some (.bool i) → ∃ i', w'.cell? ⟨b, o, none⟩ = some (.bool i')
  fzb : ∀ {b o : Nat} {i : Bool}, w.cell? ⟨b, o, none⟩ = some (.bool i) → w'.frozen? ⟨b, o, none⟩ = w.frozen? ⟨b, o, none⟩
theorem KeptB.refl (w : World) : KeptB w w := ⟨fun h => ⟨_, h⟩, fun h => h, fun _ => rfl, fun h => ⟨_, h⟩, fun _ => rfl⟩
theorem KeptB.up {w w' : World} (g : Up w w') : KeptB w w' := ⟨fun h => ⟨_, Chg.cell g h id⟩, fun h => Chg.cell g h id, fun h => Chg.frozen g h id, fun h => ⟨_, Chg.cell g h id⟩, fun h => Chg.frozen g h id⟩
theorem KeptB.trans {a b c : World} (h : KeptB a b) (k : KeptB b c) : KeptB a c :=
  ⟨fun e => let ⟨_, e2⟩ := h.int e; k.int e2, fun e => k.slc (h.slc e), fun e => let ⟨_, e2⟩ := h.int e; (k.fz e2).trans (h.fz e), fun e => let ⟨_, e2⟩ := h.bl e; k.bl e2, fun e => let ⟨_, e2⟩ := h.bl e; (k.fzb e2).trans (h.fzb e)⟩
theorem KeptB.setInt {w : World} {b o : Nat} {i : Int} (h : w.cell? ⟨b, o, none⟩ = some (.int .i64 i)) (i' : Int) : KeptB w (w.setCell ⟨b, o, none⟩ (.int .i64 i')) := by
  refine ⟨fun {b2 o2 j} e => ?_, fun {b2 o2 A n c} e => ?_, fun _ => World.frozen?_setCell .., fun {b2 o2 j} e => ?_, fun _ => World.frozen?_setCell ..⟩
  · by_cases hh : (⟨b, o, none⟩ : Addr) = ⟨b2, o2, none⟩
    · rw [← hh]; exact ⟨_, World.cell?_setCell_same _ _ _ h⟩
    · exact ⟨_, (World.cell?_setCell_other w ⟨b, o, none⟩ ⟨b2, o2, none⟩ _ hh).trans e⟩
  · by_cases hh : (⟨b, o, none⟩ : Addr) = ⟨b2, o2, none⟩
    · rw [← hh, h] at e; cases e
    · exact (World.cell?_setCell_other w ⟨b, o, none⟩ ⟨b2, o2, none⟩ _ hh).trans e
  · by_cases hh : (⟨b, o, none⟩ : Addr) = ⟨b2, o2, none⟩
    · rw [← hh, h] at e; cases e
    · exact ⟨_, (World.cell?_setCell_other w ⟨b, o, none⟩ ⟨b2, o2, none⟩ _ hh).trans e⟩
theorem KeptB.setBl {w : World} {b o : Nat} {i : Bool} (h : w.cell? ⟨b, o, none⟩ = some (.bool i)) (i' : Bool) : KeptB w (w.setCell ⟨b, o, none⟩ (.bool i')) := by
  refine ⟨fun {b2 o2 j} e => ?_, fun {b2 o2 A n c} e => ?_, fun _ => World.frozen?_setCell .., fun {b2 o2 j} e => ?_, fun _ => World.frozen?_setCell ..⟩
  · by_cases hh : (⟨b, o, none⟩ : Addr) = ⟨b2, o2, none⟩
    · rw [← hh, h] at e; cases e
    · exact ⟨_, (World.cell?_setCell_other w ⟨b, o, none⟩ ⟨b2, o2, none⟩ _ hh).trans e⟩
  · by_cases hh : (⟨b, o, none⟩ : Addr) = ⟨b2, o2, none⟩
    · rw [← hh, h] at e; cases e
    · exact (World.cell?_setCell_other w ⟨b, o, none⟩ ⟨b2, o2, none⟩ _ hh).trans e
  · by_cases hh : (⟨b, o, none⟩ : Addr) = ⟨b2, o2, none⟩
    · rw [← hh]; exact ⟨_, World.cell?_setCell_same _ _ _ h⟩
    · exact ⟨_, (World.cell?_setCell_other w ⟨b, o, none⟩ ⟨b2, o2, none⟩ _ hh).trans e⟩
theorem KeptB.set {a w : World} (h : KeptB a w) {b o : Nat} {i : Int} (hc : a.cell? ⟨b, o, none⟩ = some (.int .i64 i)) (i' : Int) : KeptB a (w.setCell ⟨b, o, none⟩ (.int .i64 i')) :=
  let ⟨_, e⟩ := h.int hc; h.trans (KeptB.setInt e i')
theorem KeptB.setb {a w : World} (h : KeptB a w) {b o : Nat} {i : Bool} (hc : a.cell? ⟨b, o, none⟩ = some (.bool i)) (i' : Bool) : KeptB a (w.setCell ⟨b, o, none⟩ (.bool i')) :=
  let ⟨_, e⟩ := h.bl hc; h.trans (KeptB.setBl e i')
def cSSB (xss : List (List Int)) : Nat := cntF List.length xss xss.length
def cIn (x : InfM) : Nat := 5 + x.ps.length
def cIS (xs : List InfM) : Nat := cntF cIn xs xs.length
def cMac (p : MacM) : Nat := cSSB p.fr + cSSB p.bk + 2 * p.cs.length + cIS p.ls + p.dr.length
theorem mkIntsB (w0 w : World) (S : Nat → Prop) (v : Value) (xs : List Int) (k : Int) (hk : 0 ≤ k) (hb : k + (xs.length : Nat) ≤ 4611686018427387904) (h : Ints w0 S v xs) (kp : KeptB w0 w) :
    Calls Try.prog 65 #[v, .int .i64 k] w fun e w' => e = .returned (.int .i64 (k + (xs.length : Nat))) ∧ Chg (S) w w' ∧ KeptB w w' := by
  obtain ⟨A, c, rfl, hlc, hcm, -⟩ := h.shape
  have H := Lib.hid h
  have KP := Lib.hid kp
  clear h kp
  go_enter Try.func65, Try.ntmps65
  go_wp2
  go_loopw [1, 5] (fun q i wr => ∃ j : Nat, j ≤ xs.length ∧ i = .int .i64 j ∧ q = .int .i64 (k + (j : Nat)) ∧ Hid (Chg S w wr) ∧ Hid (KeptB w wr)) (fun _ i _ => xs.length - (intOf i).toNat)
  case atStart => exact ⟨0, by omega, rfl, by simp, Chg.refl _ _, KeptB.refl _⟩
  case round =>
    obtain ⟨j, hj, rfl, rfl, hg, hp⟩ := hrel
    by_cases hlt : j < xs.length
    · obtain ⟨b, o, rfl, -, hc⟩ := ints_ixf H.out hlt
      have HS := Lib.hid (ints_blkB H.out (by omega))
      obtain ⟨p1, p2⟩ := hc j hlt
      obtain ⟨i0, c0⟩ := KP.out.int p1
      have z0 := (KP.out.fz p1).trans p2
      obtain ⟨i1, f0⟩ := hp.out.int c0
      have q0 := (hp.out.fz c0).trans z0
      have C0 := Lib.hid c0
      clear hc p1 p2 c0 z0
      go_wp2
      go_roundw
      case rel => exact ⟨j + 1, by omega, by go_num, by simp only [Value.int.injEq, true_and]; omega, Chg.setCell hg.out (p := ⟨b, o + j, none⟩) (.inl HS.out) _, hp.out.set C0.out _⟩
      case measure => first | (simp [intOf]; done) | (simp [intOf]; omega)
    · obtain rfl : j = xs.length := by omega
      go_wp2
      go_ret
      exact ⟨ret_int (by omega), hg.out, hp.out⟩
theorem mkSSB (w0 w : World) (M H L : Nat → Prop) (v : Value) (xs : List (List Int)) (k : Int) (hk : 0 ≤ k) (hb : k + (cSSB xs : Nat) ≤ 4611686018427387904) (h : IntSSV w0 M H L v xs) (kp : KeptB w0 w) :
    Calls Try.prog 62 #[v, .int .i64 k] w fun e w' => e = .returned (.int .i64 (k + (cSSB xs : Nat))) ∧ Chg (L) w w' ∧ KeptB w w' := by
  obtain ⟨A, c, rfl, hlc, hcm, -⟩ := h.shape
  have H := Lib.hid h
  have KP := Lib.hid kp
  clear h kp
  unfold cSSB at hb ⊢
  go_enter Try.func62, Try.ntmps62
  go_wp2
  go_loopw [1, 5] (fun q i wr => ∃ j : Nat, j ≤ xs.length ∧ i = .int .i64 j ∧ q = .int .i64 (k + (cntF List.length xs j : Nat)) ∧ Hid (Chg L w wr) ∧ Hid (KeptB w wr)) (fun _ i _ => xs.length - (intOf i).toNat)
  case atStart => exact ⟨0, by omega, rfl, by simp [cntF], Chg.refl _ _, KeptB.refl _⟩
  case round =>
    obtain ⟨j, hj, rfl, rfl, hg, hp⟩ := hrel
    by_cases hlt : j < xs.length
    · obtain ⟨b, o, c', vs, he, -, -, -, hE, hc⟩ := H.out.at_ hlt
      obtain ⟨rfl, rfl⟩ : A = some ⟨b, o, none⟩ ∧ c = c' := by simpa using he
      obtain ⟨A3, k3, rfl, hv, -⟩ := hE.val
      have p1 := (hc 0 _ rfl).1
      simp only [Nat.mul_one, Nat.add_zero] at p1
      have f0 := hp.out.slc (KP.out.slc p1)
      have HV := Lib.hid hv
      have HC := Lib.hid (cntF_succ (f := List.length) hlt)
      have hle := cntF_le (f := List.length) (xs := xs) (show j + 1 ≤ xs.length by omega)
      rw [HC.out] at hle
      have HB := Lib.hid (show k + (cntF List.length xs j : Nat) + ((List.length xs[j] : Nat) : Int) ≤ 4611686018427387904 by omega)
      have HK := Lib.hid (show 0 ≤ k + (cntF List.length xs j : Nat) by omega)
      clear hc he hE hv p1 hle
      go_wp2_with fail
      refine (mkIntsB w0 _ L _ xs[j] _ HK.out HB.out HV.out (KP.out.trans hp.out)).mono ?_
      rintro e w1 ⟨rfl, g1, k1⟩
      have HG := Lib.hid (Chg.trans hg.out g1)
      have HP := Lib.hid (hp.out.trans k1)
      clear g1 k1 f0
      go_wp2
      go_roundw
      case rel => exact ⟨j + 1, by omega, by go_num, by rw [HC.out]; simp only [Value.int.injEq, true_and]; omega, HG.out, HP.out⟩
      case measure => first | (simp [intOf]; done) | (simp [intOf]; omega)
    · obtain rfl : j = xs.length := by omega
      go_wp2
      go_ret
      exact ⟨rfl, hg.out, hp.out⟩
theorem mkCarsB (w0 w : World) (S : Nat → Prop) (v : Value) (xs : List CarM) (k : Int) (hk : 0 ≤ k) (hb : k + (2 * xs.length : Nat) ≤ 4611686018427387904) (h : Cars w0 S v xs) (kp : KeptB w0 w) :
    Calls Try.prog 63 #[v, .int .i64 k] w fun e w' => e = .returned (.int .i64 (k + (2 * xs.length : Nat))) ∧ Chg (S) w w' ∧ KeptB w w' := by
  obtain ⟨A, c, rfl, hlc, hcm, -⟩ := h.shape
  have H := Lib.hid h
  have KP := Lib.hid kp
  clear h kp
  go_enter Try.func63, Try.ntmps63
  go_wp2
  go_loopw [1, 5] (fun q i wr => ∃ j : Nat, j ≤ xs.length ∧ i = .int .i64 j ∧ q = .int .i64 (k + 2 * (j : Nat)) ∧ Hid (Chg S w wr) ∧ Hid (KeptB w wr)) (fun _ i _ => xs.length - (intOf i).toNat)
  case atStart => exact ⟨0, by omega, rfl, by simp, Chg.refl _ _, KeptB.refl _⟩
  case round =>
    obtain ⟨j, hj, rfl, rfl, hg, hp⟩ := hrel
    by_cases hlt : j < xs.length
    · obtain ⟨b, o, c', he, hs, -, hc⟩ := H.out.at_ hlt
      obtain ⟨rfl, rfl⟩ : A = some ⟨b, o, none⟩ ∧ c = c' := by simpa using he
      have HS := Lib.hid hs
      obtain ⟨p0, y0⟩ := hc 0 _ rfl
      obtain ⟨i0, c0⟩ := KP.out.bl p0
      have z0 := (KP.out.fzb p0).trans y0
      obtain ⟨x0, f0⟩ := hp.out.bl c0
      have q0 := (hp.out.fzb c0).trans z0
      have C0 := Lib.hid c0
      clear p0 y0 c0 z0
      obtain ⟨p1, y1⟩ := hc 1 _ rfl
      obtain ⟨i1, c1⟩ := KP.out.int p1
      have z1 := (KP.out.fz p1).trans y1
      obtain ⟨x1, f1⟩ := hp.out.int c1
      have q1 := (hp.out.fz c1).trans z1
      have C1 := Lib.hid c1
      clear p1 y1 c1 z1
      rw [Nat.add_zero] at f0 q0
      have C0 : Hid (w.cell? ⟨b, o + j * 2, none⟩ = some (.bool i0)) := C0
      clear hc he hs
      go_wp2
      go_roundw
      case rel => exact ⟨j + 1, by omega, by go_num, by simp only [Value.int.injEq, true_and]; omega, Chg.setCell (Chg.setCell hg.out (p := ⟨b, o + j * 2, none⟩) (.inl HS.out) _) (p := ⟨b, o + j * 2 + 1, none⟩) (.inl HS.out) _, KeptB.set (KeptB.setb hp.out C0.out _) C1.out _⟩
      case measure => first | (simp [intOf]; done) | (simp [intOf]; omega)
    · obtain rfl : j = xs.length := by omega
      go_wp2
      go_ret
      exact ⟨ret_int (by omega), hg.out, hp.out⟩
theorem mkInfB (w0 w : World) (M H L : Nat → Prop) (v : Value) (xs : List InfM) (k : Int) (hk : 0 ≤ k) (hb : k + (cIS xs : Nat) ≤ 4611686018427387904) (h : InfoSV w0 M H L v xs) (kp : KeptB w0 w) :
    Calls Try.prog 64 #[v, .int .i64 k] w fun e w' => e = .returned (.int .i64 (k + (cIS xs : Nat))) ∧ Chg (fun b => M b ∨ L b) w w' ∧ KeptB w w' := by
  obtain ⟨A, c, rfl, hlc, hcm, -⟩ := h.shape
  have HY := Lib.hid h
  have KP := Lib.hid kp
  clear h kp
  unfold cIS at hb ⊢
  go_enter Try.func64, Try.ntmps64
  go_wp2
  go_loopw [1, 5] (fun q i wr => ∃ j : Nat, j ≤ xs.length ∧ i = .int .i64 j ∧ q = .int .i64 (k + (cntF cIn xs j : Nat)) ∧ Hid (Chg (fun b => M b ∨ L b) w wr) ∧ Hid (KeptB w wr)) (fun _ i _ => xs.length - (intOf i).toNat)
  case atStart => exact ⟨0, by omega, rfl, by simp [cntF], Chg.refl _ _, KeptB.refl _⟩
  case round =>
    obtain ⟨j, hj, rfl, rfl, hg, hp⟩ := hrel
    by_cases hlt : j < xs.length
    · obtain ⟨b, o, c', vs, he, hs, -, -, hE, hc⟩ := HY.out.at_ hlt
      obtain ⟨rfl, rfl⟩ : A = some ⟨b, o, none⟩ ∧ c = c' := by simpa using he
      obtain ⟨A3, k3, rfl, hv, -⟩ := hE
      have HS := Lib.hid hs
      obtain ⟨p0, y0⟩ := hc 0 _ rfl
      obtain ⟨i0, c0⟩ := KP.out.int p0
      have z0 := (KP.out.fz p0).trans y0
      obtain ⟨x0, f0⟩ := hp.out.int c0
      have q0 := (hp.out.fz c0).trans z0
      have C0 := Lib.hid c0
      clear p0 y0 c0 z0
      obtain ⟨p1, y1⟩ := hc 1 _ rfl
      obtain ⟨i1, c1⟩ := KP.out.int p1
      have z1 := (KP.out.fz p1).trans y1
      obtain ⟨x1, f1⟩ := hp.out.int c1
      have q1 := (hp.out.fz c1).trans z1
      have C1 := Lib.hid c1
      clear p1 y1 c1 z1
      obtain ⟨p2, y2⟩ := hc 2 _ rfl
      obtain ⟨i2, c2⟩ := KP.out.int p2
      have z2 := (KP.out.fz p2).trans y2
      obtain ⟨x2, f2⟩ := hp.out.int c2
      have q2 := (hp.out.fz c2).trans z2
      have C2 := Lib.hid c2
      clear p2 y2 c2 z2
      obtain ⟨p3, y3⟩ := hc 3 _ rfl
      obtain ⟨i3, c3⟩ := KP.out.int p3
      have z3 := (KP.out.fz p3).trans y3
      obtain ⟨x3, f3⟩ := hp.out.int c3
      have q3 := (hp.out.fz c3).trans z3
      have C3 := Lib.hid c3
      clear p3 y3 c3 z3
      obtain ⟨p4, y4⟩ := hc 4 _ rfl
      obtain ⟨i4, c4⟩ := KP.out.int p4
      have z4 := (KP.out.fz p4).trans y4
      obtain ⟨x4, f4⟩ := hp.out.int c4
      have q4 := (hp.out.fz c4).trans z4
      have C4 := Lib.hid c4
      clear p4 y4 c4 z4
      rw [Nat.add_zero] at f0 q0
      have C0 : Hid (w.cell? ⟨b, o + j * 6, none⟩ = some (.int .i64 i0)) := C0
      have c5 := KP.out.slc (hc 5 _ rfl).1
      have f5 := hp.out.slc c5
      have HV := Lib.hid hv
      have HC := Lib.hid (cntF_succ (f := cIn) hlt)
      have hle := cntF_le (f := cIn) (xs := xs) (show j + 1 ≤ xs.length by omega)
      rw [HC.out] at hle
      have hcn : cIn xs[j] = 5 + xs[j].ps.length := rfl
      obtain ⟨m, hm⟩ : ∃ m : Nat, m = cntF cIn xs j := ⟨_, rfl⟩
      rw [← hm] at hle ⊢
      have HM := Lib.hid hm
      have HCN := Lib.hid hcn
      have HB := Lib.hid (show k + (m : Nat) + 1 + 1 + 1 + 1 + 1 + ((xs[j].ps.length : Nat) : Int) ≤ 4611686018427387904 by omega)
      have HK := Lib.hid (show 0 ≤ k + (m : Nat) + 1 + 1 + 1 + 1 + 1 by omega)
      have hb2 : k + (m : Int) + 5 ≤ 4611686018427387904 := by omega
      have WD := Lib.hid (show Chg (fun b => M b ∨ L b) w (((((wr.setCell ⟨b, o + j * 6, none⟩ (.int .i64 (k + m))).setCell ⟨b, o + j * 6 + 1, none⟩ (.int .i64 (k + m + 1))).setCell ⟨b, o + j * 6 + 2, none⟩ (.int .i64 (k + m + 1 + 1))).setCell ⟨b, o + j * 6 + 3, none⟩ (.int .i64 (k + m + 1 + 1 + 1))).setCell ⟨b, o + j * 6 + 4, none⟩ (.int .i64 (k + m + 1 + 1 + 1 + 1))) from Chg.setCell (Chg.setCell (Chg.setCell (Chg.setCell (Chg.setCell (hg.out) (p := ⟨b, o + j * 6, none⟩) (.inl (.inl HS.out)) _) (p := ⟨b, o + j * 6 + 1, none⟩) (.inl (.inl HS.out)) _) (p := ⟨b, o + j * 6 + 2, none⟩) (.inl (.inl HS.out)) _) (p := ⟨b, o + j * 6 + 3, none⟩) (.inl (.inl HS.out)) _) (p := ⟨b, o + j * 6 + 4, none⟩) (.inl (.inl HS.out)) _)
      have KD := Lib.hid (show KeptB w (((((wr.setCell ⟨b, o + j * 6, none⟩ (.int .i64 (k + m))).setCell ⟨b, o + j * 6 + 1, none⟩ (.int .i64 (k + m + 1))).setCell ⟨b, o + j * 6 + 2, none⟩ (.int .i64 (k + m + 1 + 1))).setCell ⟨b, o + j * 6 + 3, none⟩ (.int .i64 (k + m + 1 + 1 + 1))).setCell ⟨b, o + j * 6 + 4, none⟩ (.int .i64 (k + m + 1 + 1 + 1 + 1))) from KeptB.set (KeptB.set (KeptB.set (KeptB.set (KeptB.set (hp.out) C0.out _) C1.out _) C2.out _) C3.out _) C4.out _)
      have f5' := KD.out.slc c5
      clear hc he hv hle hm hcn c5 hs
      go_wp2_with fail
      refine (mkIntsB w0 _ L _ xs[j].ps _ HK.out HB.out HV.out (KP.out.trans KD.out)).mono ?_
      rintro e w1 ⟨rfl, g1, k1⟩
      have HG := Lib.hid (Chg.trans WD.out (g1.mono (fun b _ hb => .inr hb)))
      have HP := Lib.hid (KD.out.trans k1)
      clear g1 k1 f0 f1 f2 f3 f4 f5 q0 q1 q2 q3 q4 f5'
      go_wp2
      go_roundw
      case rel => exact ⟨j + 1, by omega, by go_num, by rw [HC.out, HCN.out, ← HM.out]; simp only [Value.int.injEq, true_and]; omega, HG.out, HP.out⟩
      case measure => first | (simp [intOf]; done) | (simp [intOf]; omega)
    · obtain rfl : j = xs.length := by omega
      go_wp2
      go_ret
      exact ⟨rfl, hg.out, hp.out⟩
theorem mkMacB (w0 w : World) (M H L : Nat → Prop) (v : Value) (p : MacM) (k : Int) (hk : 0 ≤ k) (hb : k + (cMac p : Nat) ≤ 4611686018427387904) (h : MacV w0 M H L v p) (kp : KeptB w0 w) :
    Calls Try.prog 13 #[v, .int .i64 k] w fun e w' => e = .returned (.int .i64 (k + (cMac p : Nat))) ∧ Chg (fun b => M b ∨ H b ∨ L b) w w' ∧ KeptB w w' := by
  obtain ⟨A0, c0, A1, c1, A2, c2, A3, c3, A4, c4, rfl, h0, h1, h2, h3, h4, ⟨hl0, hc0⟩, ⟨hl1, hc1⟩, ⟨hl2, hc2⟩, ⟨hl3, hc3⟩, ⟨hl4, hc4⟩, -, -⟩ := h
  have H0 := Lib.hid h0
  have H1 := Lib.hid h1
  have H2 := Lib.hid h2
  have H3 := Lib.hid h3
  have H4 := Lib.hid h4
  have KP := Lib.hid kp
  have UB := Lib.hid (show Up w (w.alloc (.cells #[.int .i64 p.wd, .int .i64 p.rk, .slice A0 p.fr.length c0, .slice A1 p.bk.length c1, .slice A2 p.cs.length c2, .slice A3 p.ls.length c3, .slice A4 p.dr.length c4] 35)) from (Chg.refl Nowhere w).alloc _)
  have q0 := (show (w.alloc (.cells #[.int .i64 p.wd, .int .i64 p.rk, .slice A0 p.fr.length c0, .slice A1 p.bk.length c1, .slice A2 p.cs.length c2, .slice A3 p.ls.length c3, .slice A4 p.dr.length c4] 35)).cell? ⟨w.heap.size, 2, none⟩ = some (.slice A0 p.fr.length c0) from cell_new _ _ _ _)
  have q1 := (show (w.alloc (.cells #[.int .i64 p.wd, .int .i64 p.rk, .slice A0 p.fr.length c0, .slice A1 p.bk.length c1, .slice A2 p.cs.length c2, .slice A3 p.ls.length c3, .slice A4 p.dr.length c4] 35)).cell? ⟨w.heap.size, 3, none⟩ = some (.slice A1 p.bk.length c1) from cell_new _ _ _ _)
  have q2 := (show (w.alloc (.cells #[.int .i64 p.wd, .int .i64 p.rk, .slice A0 p.fr.length c0, .slice A1 p.bk.length c1, .slice A2 p.cs.length c2, .slice A3 p.ls.length c3, .slice A4 p.dr.length c4] 35)).cell? ⟨w.heap.size, 4, none⟩ = some (.slice A2 p.cs.length c2) from cell_new _ _ _ _)
  have q3 := (show (w.alloc (.cells #[.int .i64 p.wd, .int .i64 p.rk, .slice A0 p.fr.length c0, .slice A1 p.bk.length c1, .slice A2 p.cs.length c2, .slice A3 p.ls.length c3, .slice A4 p.dr.length c4] 35)).cell? ⟨w.heap.size, 5, none⟩ = some (.slice A3 p.ls.length c3) from cell_new _ _ _ _)
  have q4 := (show (w.alloc (.cells #[.int .i64 p.wd, .int .i64 p.rk, .slice A0 p.fr.length c0, .slice A1 p.bk.length c1, .slice A2 p.cs.length c2, .slice A3 p.ls.length c3, .slice A4 p.dr.length c4] 35)).cell? ⟨w.heap.size, 6, none⟩ = some (.slice A4 p.dr.length c4) from cell_new _ _ _ _)
  have KB := Lib.hid (KeptB.up UB.out)
  have hcp : cMac p = cSSB p.fr + cSSB p.bk + 2 * p.cs.length + cIS p.ls + p.dr.length := rfl
  have HCP := Lib.hid hcp
  have HK0 := Lib.hid (show 0 ≤ k by omega)
  have HB0 := Lib.hid (show k + ((cSSB p.fr : Nat) : Int) ≤ 4611686018427387904 by omega)
  have HK1 := Lib.hid (show 0 ≤ k + ((cSSB p.fr : Nat) : Int) by omega)
  have HB1 := Lib.hid (show k + ((cSSB p.fr : Nat) : Int) + ((cSSB p.bk : Nat) : Int) ≤ 4611686018427387904 by omega)
  have HK2 := Lib.hid (show 0 ≤ k + ((cSSB p.fr : Nat) : Int) + ((cSSB p.bk : Nat) : Int) by omega)
  have HB2 := Lib.hid (show k + ((cSSB p.fr : Nat) : Int) + ((cSSB p.bk : Nat) : Int) + ((2 * p.cs.length : Nat) : Int) ≤ 4611686018427387904 by omega)
  have HK3 := Lib.hid (show 0 ≤ k + ((cSSB p.fr : Nat) : Int) + ((cSSB p.bk : Nat) : Int) + ((2 * p.cs.length : Nat) : Int) by omega)
  have HB3 := Lib.hid (show k + ((cSSB p.fr : Nat) : Int) + ((cSSB p.bk : Nat) : Int) + ((2 * p.cs.length : Nat) : Int) + ((cIS p.ls : Nat) : Int) ≤ 4611686018427387904 by omega)
  have HK4 := Lib.hid (show 0 ≤ k + ((cSSB p.fr : Nat) : Int) + ((cSSB p.bk : Nat) : Int) + ((2 * p.cs.length : Nat) : Int) + ((cIS p.ls : Nat) : Int) by omega)
  have HB4 := Lib.hid (show k + ((cSSB p.fr : Nat) : Int) + ((cSSB p.bk : Nat) : Int) + ((2 * p.cs.length : Nat) : Int) + ((cIS p.ls : Nat) : Int) + ((p.dr.length : Nat) : Int) ≤ 4611686018427387904 by omega)
  clear h0 h1 h2 h3 h4 kp hcp
  go_enter Try.func13, Try.ntmps13
  go_wp2_with fail
  refine (mkSSB w0 _ M H L _ p.fr _ HK0.out HB0.out H0.out (KP.out.trans (KB.out))).mono ?_
  rintro e w1 ⟨rfl, g1, k1⟩
  have K1 := Lib.hid k1
  have G1 := Lib.hid g1
  clear g1 k1 q0
  have q1 := K1.out.slc q1
  have q2 := K1.out.slc q2
  have q3 := K1.out.slc q3
  have q4 := K1.out.slc q4
  go_wp2_with fail
  refine (mkSSB w0 _ M H L _ p.bk _ HK1.out HB1.out H1.out (KP.out.trans (KeptB.trans (KB.out) K1.out))).mono ?_
  rintro e w2 ⟨rfl, g1, k1⟩
  have K2 := Lib.hid k1
  have G2 := Lib.hid g1
  clear g1 k1 q1
  have q2 := K2.out.slc q2
  have q3 := K2.out.slc q3
  have q4 := K2.out.slc q4
  go_wp2_with fail
  refine (mkCarsB w0 _ L _ p.cs _ HK2.out HB2.out H2.out (KP.out.trans (KeptB.trans (KeptB.trans (KB.out) K1.out) K2.out))).mono ?_
  rintro e w3 ⟨rfl, g1, k1⟩
  have K3 := Lib.hid k1
  have G3 := Lib.hid g1
  clear g1 k1 q2
  have q3 := K3.out.slc q3
  have q4 := K3.out.slc q4
  go_wp2_with fail
  refine (mkInfB w0 _ M H L _ p.ls _ HK3.out HB3.out H3.out (KP.out.trans (KeptB.trans (KeptB.trans (KeptB.trans (KB.out) K1.out) K2.out) K3.out))).mono ?_
  rintro e w4 ⟨rfl, g1, k1⟩
  have K4 := Lib.hid k1
  have G4 := Lib.hid g1
  clear g1 k1 q3
  have q4 := K4.out.slc q4
  go_wp2_with fail
  refine (mkIntsB w0 _ L _ p.dr _ HK4.out HB4.out H4.out (KP.out.trans (KeptB.trans (KeptB.trans (KeptB.trans (KeptB.trans (KB.out) K1.out) K2.out) K3.out) K4.out))).mono ?_
  rintro e w5 ⟨rfl, g1, k1⟩
  have K5 := Lib.hid k1
  have G5 := Lib.hid g1
  clear g1 k1 q4
  go_wp2
  go_ret
  exact ⟨ret_int (by rw [HCP.out]; omega), Chg.trans (Chg.trans (Chg.trans (Chg.trans (Chg.trans (Chg.of_up UB.out) (G1.out.mono (fun b _ hb => .inr (.inr hb)))) (G2.out.mono (fun b _ hb => .inr (.inr hb)))) (G3.out.mono (fun b _ hb => .inr (.inr hb)))) (G4.out.mono (fun b _ hb => hb.elim .inl (fun h => .inr (.inr h))))) (G5.out.mono (fun b _ hb => .inr (.inr hb))), KeptB.trans (KeptB.trans (KeptB.trans (KeptB.trans (KeptB.trans (KB.out) K1.out) K2.out) K3.out) K4.out) K5.out⟩
theorem MacA.keep {S T : Nat → Prop} {w w' : World} {v : Value} {p : MacM} (h : MacA w S v p) (g : Chg T w w') (hd : ∀ b, b < w.heap.size → S b → ¬ T b) : MacA w' S v p :=
  MacV.mono (MacV.keep (MacV.mono (M' := fun b => S b ∧ b < w.heap.size) (H' := fun b => S b ∧ b < w.heap.size) (L' := fun b => S b ∧ b < w.heap.size) h (fun b hb h => ⟨h, hb⟩) (fun b hb h => ⟨h, hb⟩) (fun b hb h => ⟨h, hb⟩)) g
    (fun b hb => by rcases hb with hb | hb | hb <;> exact hd b hb.2 hb.1)) (fun b _ h => h.1) (fun b _ h => h.1) (fun b _ h => h.1)
theorem markMacA_any (w : World) (S : Nat → Prop) (v : Value) (p : MacM) (k : Int) (hk : 0 ≤ k) (hb : k + (cMac p : Nat) ≤ 4611686018427387904) (h : MacA w S v p) :
    Calls Try.prog 13 #[v, .int .i64 k] w fun e w' => e = .returned (.int .i64 (k + (cMac p : Nat))) ∧ Chg S w w' :=
  (mkMacB w w S S S v p k hk hb h (KeptB.refl w)).mono fun _ _ ⟨he, hg, _⟩ => ⟨he, hg.mono fun _ _ hb => hb.elim id (fun h => h.elim id id)⟩
theorem cntF_linB {α : Type} {f g : α → Nat} (a c : Nat) (h : ∀ x, f x ≤ a + c * g x) (xs : List α) : ∀ j, j ≤ xs.length → cntF f xs j ≤ a * j + c * cntF g xs j
  | 0, _ => by simp [cntF]
  | j + 1, hj => by
    have h1 := cntF_linB a c h xs j (by omega)
    have h2 := h (xs[j]'(by omega))
    rw [cntF_succ (show j < xs.length by omega), cntF_succ (show j < xs.length by omega), Nat.mul_add, Nat.mul_add]
    omega
theorem cMac_le (p : MacM) : cMac p ≤ 6 * szMc p := by
  have h1 := cntF_linB (f := cIn) (g := fun x : InfM => x.ps.length) 5 1 (fun x => by unfold cIn; omega) p.ls p.ls.length (Nat.le_refl _)
  unfold cMac cSSB cIS szMc
  rw [show szF List.length p.fr = p.fr.length + cntF List.length p.fr p.fr.length from rfl, show szF List.length p.bk = p.bk.length + cntF List.length p.bk p.bk.length from rfl, show szF (fun x : InfM => x.ps.length) p.ls = p.ls.length + cntF (fun x : InfM => x.ps.length) p.ls p.ls.length from rfl]
  omega
end Go.Proofs.Ytchfjglofmphfaa
end
