/- The laws' helpers on nested slices. No condition. Needles and operations that are valid: the program's tests and the reference's. No condition. -/
import Derived.Test.YtchfjglofmphfaaRB5
import Derived.Test.YtchfjglofmphfaaRB2
import Derived.Test.YtchfjglofmphfaaRB1
section
set_option linter.unusedSimpArgs false
set_option linter.unusedVariables false
set_option maxRecDepth 100000
set_option maxHeartbeats 1000000
namespace Go.Proofs.Ytchfjglofmphfaa
open Go.ChangeShapes Go.WideShapes Go.ChangeAt Go.RowKit
structure MacM where
  wd : Int
  rk : Int
  fr : List (List Int)
  bk : List (List Int)
  cs : List CarM
  ls : List InfM
  dr : List Int
def MacE (M H L : Nat → Prop) (w : World) (vs : List Value) (x : MacM) : Prop := ∃ A0 c0 A1 c1 A2 c2 A3 c3 A4 c4, vs = [.int .i64 x.wd, .int .i64 x.rk, .slice A0 x.fr.length c0, .slice A1 x.bk.length c1, .slice A2 x.cs.length c2, .slice A3 x.ls.length c3, .slice A4 x.dr.length c4] ∧ IntSSV w M H L (.slice A0 x.fr.length c0) x.fr ∧ IntSSV w M H L (.slice A1 x.bk.length c1) x.bk ∧ CarsL w M H L (.slice A2 x.cs.length c2) x.cs ∧ InfoSV w M H L (.slice A3 x.ls.length c3) x.ls ∧ IntsL w M H L (.slice A4 x.dr.length c4) x.dr ∧ (x.fr.length ≤ c0 ∧ c0 ≤ 9223372036854775807) ∧ (x.bk.length ≤ c1 ∧ c1 ≤ 9223372036854775807) ∧ (x.cs.length ≤ c2 ∧ c2 ≤ 9223372036854775807) ∧ (x.ls.length ≤ c3 ∧ c3 ≤ 9223372036854775807) ∧ (x.dr.length ≤ c4 ∧ c4 ≤ 9223372036854775807) ∧ I64 x.wd ∧ I64 x.rk
theorem MacE.keep {M H L T : Nat → Prop} {w w' : World} {vs : List Value} {x : MacM} (h : MacE M H L w vs x) (g : Chg T w w') (hd : ∀ b, M b ∨ H b ∨ L b → ¬ T b) : MacE M H L w' vs x := let ⟨A0, c0, A1, c1, A2, c2, A3, c3, A4, c4, he, h0, h1, h2, h3, h4, h5, h6, h7, h8, h9, h10, h11⟩ := h; ⟨A0, c0, A1, c1, A2, c2, A3, c3, A4, c4, he, h0.keep g hd, h1.keep g hd, h2.keep g hd, h3.keep g hd, h4.keep g hd, h5, h6, h7, h8, h9, h10, h11⟩
theorem MacE.up {M H L : Nat → Prop} {w w' : World} {vs : List Value} {x : MacM} (h : MacE M H L w vs x) (g : Up w w') : MacE M H L w' vs x := h.keep g fun _ _ h => h
theorem MacE.mono {M H L M' H' L' : Nat → Prop} {w : World} {vs : List Value} {x : MacM} (h : MacE M H L w vs x) (hm : ∀ b, b < w.heap.size → M b → M' b) (hr : ∀ b, b < w.heap.size → H b → H' b) (hl : ∀ b, b < w.heap.size → L b → L' b) : MacE M' H' L' w vs x := let ⟨A0, c0, A1, c1, A2, c2, A3, c3, A4, c4, he, h0, h1, h2, h3, h4, h5, h6, h7, h8, h9, h10, h11⟩ := h; ⟨A0, c0, A1, c1, A2, c2, A3, c3, A4, c4, he, h0.mono hm hr hl, h1.mono hm hr hl, h2.mono hm hr hl, h3.mono hm hr hl, h4.mono hm hr hl, h5, h6, h7, h8, h9, h10, h11⟩
def MacV (w : World) (M H L : Nat → Prop) (v : Value) (x : MacM) : Prop := ∃ A0 c0 A1 c1 A2 c2 A3 c3 A4 c4, v = .agg #[.int .i64 x.wd, .int .i64 x.rk, .slice A0 x.fr.length c0, .slice A1 x.bk.length c1, .slice A2 x.cs.length c2, .slice A3 x.ls.length c3, .slice A4 x.dr.length c4] ∧ IntSSV w M H L (.slice A0 x.fr.length c0) x.fr ∧ IntSSV w M H L (.slice A1 x.bk.length c1) x.bk ∧ CarsL w M H L (.slice A2 x.cs.length c2) x.cs ∧ InfoSV w M H L (.slice A3 x.ls.length c3) x.ls ∧ IntsL w M H L (.slice A4 x.dr.length c4) x.dr ∧ (x.fr.length ≤ c0 ∧ c0 ≤ 9223372036854775807) ∧ (x.bk.length ≤ c1 ∧ c1 ≤ 9223372036854775807) ∧ (x.cs.length ≤ c2 ∧ c2 ≤ 9223372036854775807) ∧ (x.ls.length ≤ c3 ∧ c3 ≤ 9223372036854775807) ∧ (x.dr.length ≤ c4 ∧ c4 ≤ 9223372036854775807) ∧ I64 x.wd ∧ I64 x.rk
theorem MacV.keep {M H L T : Nat → Prop} {w w' : World} {v : Value} {x : MacM} (h : MacV w M H L v x) (g : Chg T w w') (hd : ∀ b, M b ∨ H b ∨ L b → ¬ T b) : MacV w' M H L v x := let ⟨A0, c0, A1, c1, A2, c2, A3, c3, A4, c4, he, h0, h1, h2, h3, h4, h5, h6, h7, h8, h9, h10, h11⟩ := h; ⟨A0, c0, A1, c1, A2, c2, A3, c3, A4, c4, he, h0.keep g hd, h1.keep g hd, h2.keep g hd, h3.keep g hd, h4.keep g hd, h5, h6, h7, h8, h9, h10, h11⟩
theorem MacV.up {M H L : Nat → Prop} {w w' : World} {v : Value} {x : MacM} (h : MacV w M H L v x) (g : Up w w') : MacV w' M H L v x := h.keep g fun _ _ h => h
theorem MacV.mono {M H L M' H' L' : Nat → Prop} {w : World} {v : Value} {x : MacM} (h : MacV w M H L v x) (hm : ∀ b, b < w.heap.size → M b → M' b) (hr : ∀ b, b < w.heap.size → H b → H' b) (hl : ∀ b, b < w.heap.size → L b → L' b) : MacV w M' H' L' v x := let ⟨A0, c0, A1, c1, A2, c2, A3, c3, A4, c4, he, h0, h1, h2, h3, h4, h5, h6, h7, h8, h9, h10, h11⟩ := h; ⟨A0, c0, A1, c1, A2, c2, A3, c3, A4, c4, he, h0.mono hm hr hl, h1.mono hm hr hl, h2.mono hm hr hl, h3.mono hm hr hl, h4.mono hm hr hl, h5, h6, h7, h8, h9, h10, h11⟩
theorem MacE.val {M H L : Nat → Prop} {w : World} {vs : List Value} {x : MacM} (h : MacE M H L w vs x) : ∃ A0 c0 A1 c1 A2 c2 A3 c3 A4 c4, vs = [.int .i64 x.wd, .int .i64 x.rk, .slice A0 x.fr.length c0, .slice A1 x.bk.length c1, .slice A2 x.cs.length c2, .slice A3 x.ls.length c3, .slice A4 x.dr.length c4] ∧ MacV w M H L (.agg #[.int .i64 x.wd, .int .i64 x.rk, .slice A0 x.fr.length c0, .slice A1 x.bk.length c1, .slice A2 x.cs.length c2, .slice A3 x.ls.length c3, .slice A4 x.dr.length c4]) x :=
  let ⟨A0, c0, A1, c1, A2, c2, A3, c3, A4, c4, he, h0, h1, h2, h3, h4, h5, h6, h7, h8, h9, h10, h11⟩ := h; ⟨A0, c0, A1, c1, A2, c2, A3, c3, A4, c4, he, A0, c0, A1, c1, A2, c2, A3, c3, A4, c4, rfl, h0, h1, h2, h3, h4, h5, h6, h7, h8, h9, h10, h11⟩
theorem MacV.val {M H L : Nat → Prop} {w : World} {v : Value} {x : MacM} (h : MacV w M H L v x) : ∃ A0 c0 A1 c1 A2 c2 A3 c3 A4 c4, v = .agg #[.int .i64 x.wd, .int .i64 x.rk, .slice A0 x.fr.length c0, .slice A1 x.bk.length c1, .slice A2 x.cs.length c2, .slice A3 x.ls.length c3, .slice A4 x.dr.length c4] ∧ MacV w M H L (.agg #[.int .i64 x.wd, .int .i64 x.rk, .slice A0 x.fr.length c0, .slice A1 x.bk.length c1, .slice A2 x.cs.length c2, .slice A3 x.ls.length c3, .slice A4 x.dr.length c4]) x := by
  obtain ⟨A0, c0, A1, c1, A2, c2, A3, c3, A4, c4, rfl, h0, h1, h2, h3, h4, h5, h6, h7, h8, h9, h10, h11⟩ := h
  exact ⟨_, _, _, _, _, _, _, _, _, _, rfl, _, _, _, _, _, _, _, _, _, _, rfl, h0, h1, h2, h3, h4, h5, h6, h7, h8, h9, h10, h11⟩
theorem MacV.parts {M H L : Nat → Prop} {w : World} {v : Value} {x : MacM} (h : MacV w M H L v x) : ∃ A0 c0 A1 c1 A2 c2 A3 c3 A4 c4, v = .agg #[.int .i64 x.wd, .int .i64 x.rk, .slice A0 x.fr.length c0, .slice A1 x.bk.length c1, .slice A2 x.cs.length c2, .slice A3 x.ls.length c3, .slice A4 x.dr.length c4] ∧ IntSSV w M H L (.slice A0 x.fr.length c0) x.fr ∧ IntSSV w M H L (.slice A1 x.bk.length c1) x.bk ∧ CarsL w M H L (.slice A2 x.cs.length c2) x.cs ∧ InfoSV w M H L (.slice A3 x.ls.length c3) x.ls ∧ IntsL w M H L (.slice A4 x.dr.length c4) x.dr ∧ (x.fr.length ≤ c0 ∧ c0 ≤ 9223372036854775807) ∧ (x.bk.length ≤ c1 ∧ c1 ≤ 9223372036854775807) ∧ (x.cs.length ≤ c2 ∧ c2 ≤ 9223372036854775807) ∧ (x.ls.length ≤ c3 ∧ c3 ≤ 9223372036854775807) ∧ (x.dr.length ≤ c4 ∧ c4 ≤ 9223372036854775807) ∧ I64 x.wd ∧ I64 x.rk := h
theorem MacE.mk {M H L : Nat → Prop} {w : World} {x : MacM} {B0 B1 B2 B3 B4 : Option Addr} {d0 d1 d2 d3 d4 : Nat} (h : MacV w M H L (.agg #[.int .i64 x.wd, .int .i64 x.rk, .slice B0 x.fr.length d0, .slice B1 x.bk.length d1, .slice B2 x.cs.length d2, .slice B3 x.ls.length d3, .slice B4 x.dr.length d4]) x) : MacE M H L w [.int .i64 x.wd, .int .i64 x.rk, .slice B0 x.fr.length d0, .slice B1 x.bk.length d1, .slice B2 x.cs.length d2, .slice B3 x.ls.length d3, .slice B4 x.dr.length d4] x := by
  obtain ⟨A0, c0, A1, c1, A2, c2, A3, c3, A4, c4, he, h0, h1, h2, h3, h4, h5, h6, h7, h8, h9, h10, h11⟩ := h
  simp only [Value.agg.injEq, Array.mk.injEq, List.cons.injEq, Value.slice.injEq, true_and, and_true] at he
  obtain ⟨⟨rfl, rfl⟩, ⟨rfl, rfl⟩, ⟨rfl, rfl⟩, ⟨rfl, rfl⟩, ⟨rfl, rfl⟩⟩ := he
  exact ⟨_, _, _, _, _, _, _, _, _, _, rfl, h0, h1, h2, h3, h4, h5, h6, h7, h8, h9, h10, h11⟩
theorem szMac_ok (w : World) (M H L : Nat → Prop) (v : Value) (x : MacM) (k : Int) (hk : 0 ≤ k ∧ k ≤ 1048576) (hl : (szF List.length x.fr + szF List.length x.bk + x.cs.length + szF (fun x => x.ps.length) x.ls + x.dr.length : Int) ≤ k) (h : MacV w M H L v x) :
    Calls Try.prog 7 #[v, .int .i64 k] w fun e w' => e = .returned (.int .i64 (k - (szF List.length x.fr + szF List.length x.bk + x.cs.length + szF (fun x => x.ps.length) x.ls + x.dr.length))) ∧ Up w w' := by
  obtain ⟨A0, c0, A1, c1, A2, c2, A3, c3, A4, c4, rfl, h0, h1, h2, h3, h4, h5, h6, h7, h8, h9, h10, h11⟩ := h
  have U0 := Lib.hid ((Chg.refl Nowhere w).alloc (.cells #[.int .i64 x.wd, .int .i64 x.rk, .slice A0 x.fr.length c0, .slice A1 x.bk.length c1, .slice A2 x.cs.length c2, .slice A3 x.ls.length c3, .slice A4 x.dr.length c4] 27))
  have H0 := Lib.hid (h0.up U0.out)
  have H1 := Lib.hid (h1.up U0.out)
  have H2 := Lib.hid (h2.up U0.out)
  have H3 := Lib.hid (h3.up U0.out)
  have H4 := Lib.hid (h4.up U0.out)
  have q0 := (show (w.alloc (.cells #[.int .i64 x.wd, .int .i64 x.rk, .slice A0 x.fr.length c0, .slice A1 x.bk.length c1, .slice A2 x.cs.length c2, .slice A3 x.ls.length c3, .slice A4 x.dr.length c4] 27)).cell? ⟨w.heap.size, 2, none⟩ = some (.slice A0 x.fr.length c0) from cell_new _ _ _ _)
  have q1 := (show (w.alloc (.cells #[.int .i64 x.wd, .int .i64 x.rk, .slice A0 x.fr.length c0, .slice A1 x.bk.length c1, .slice A2 x.cs.length c2, .slice A3 x.ls.length c3, .slice A4 x.dr.length c4] 27)).cell? ⟨w.heap.size, 3, none⟩ = some (.slice A1 x.bk.length c1) from cell_new _ _ _ _)
  have q2 := (show (w.alloc (.cells #[.int .i64 x.wd, .int .i64 x.rk, .slice A0 x.fr.length c0, .slice A1 x.bk.length c1, .slice A2 x.cs.length c2, .slice A3 x.ls.length c3, .slice A4 x.dr.length c4] 27)).cell? ⟨w.heap.size, 4, none⟩ = some (.slice A2 x.cs.length c2) from cell_new _ _ _ _)
  have q3 := (show (w.alloc (.cells #[.int .i64 x.wd, .int .i64 x.rk, .slice A0 x.fr.length c0, .slice A1 x.bk.length c1, .slice A2 x.cs.length c2, .slice A3 x.ls.length c3, .slice A4 x.dr.length c4] 27)).cell? ⟨w.heap.size, 5, none⟩ = some (.slice A3 x.ls.length c3) from cell_new _ _ _ _)
  have q4 := (show (w.alloc (.cells #[.int .i64 x.wd, .int .i64 x.rk, .slice A0 x.fr.length c0, .slice A1 x.bk.length c1, .slice A2 x.cs.length c2, .slice A3 x.ls.length c3, .slice A4 x.dr.length c4] 27)).cell? ⟨w.heap.size, 6, none⟩ = some (.slice A4 x.dr.length c4) from cell_new _ _ _ _)
  clear h0 h1 h2 h3 h4 h5 h6 h7 h8 h9 h10 h11
  have G0 := Lib.hid U0.out
  go_enter Try.func7, Try.ntmps7
  have HB0 : Hid (0 ≤ k ∧ k ≤ 1048576) := Lib.hid (by omega)
  have HX0 : Hid ((szF List.length x.fr : Int) ≤ k) := Lib.hid (by omega)
  have hd0 : decide (k - (szF List.length x.fr : Int) < 0) = false := decide_eq_false (by omega)
  go_wp2_with fail
  with_reducible refine (szIntSSV_ok _ M H L _ x.fr _ HB0.out HX0.out H0.out).mono ?_
  rintro e w1 ⟨rfl, g1⟩
  have G1 := Lib.hid (Chg.trans G0.out g1)
  have q1 := Chg.cell g1 q1 id
  have H1 := Lib.hid (H1.out.up g1)
  have q2 := Chg.cell g1 q2 id
  have H2 := Lib.hid (H2.out.up g1)
  have q3 := Chg.cell g1 q3 id
  have H3 := Lib.hid (H3.out.up g1)
  have q4 := Chg.cell g1 q4 id
  have H4 := Lib.hid (H4.out.up g1)
  clear g1 q0
  have HB1 : Hid (0 ≤ k - szF List.length x.fr ∧ k - szF List.length x.fr ≤ 1048576) := Lib.hid (by omega)
  have HX1 : Hid ((szF List.length x.bk : Int) ≤ k - szF List.length x.fr) := Lib.hid (by omega)
  have hd1 : decide (k - szF List.length x.fr - (szF List.length x.bk : Int) < 0) = false := decide_eq_false (by omega)
  go_wp2_with fail
  with_reducible refine (szIntSSV_ok _ M H L _ x.bk _ HB1.out HX1.out H1.out).mono ?_
  rintro e w2 ⟨rfl, g1⟩
  have G2 := Lib.hid (Chg.trans G1.out g1)
  have q2 := Chg.cell g1 q2 id
  have H2 := Lib.hid (H2.out.up g1)
  have q3 := Chg.cell g1 q3 id
  have H3 := Lib.hid (H3.out.up g1)
  have q4 := Chg.cell g1 q4 id
  have H4 := Lib.hid (H4.out.up g1)
  clear g1 q1
  have HB2 : Hid (0 ≤ k - szF List.length x.fr - szF List.length x.bk ∧ k - szF List.length x.fr - szF List.length x.bk ≤ 1048576) := Lib.hid (by omega)
  have HX2 : Hid ((x.cs.length : Int) ≤ k - szF List.length x.fr - szF List.length x.bk) := Lib.hid (by omega)
  have hd2 : decide (k - szF List.length x.fr - szF List.length x.bk - (x.cs.length : Int) < 0) = false := decide_eq_false (by omega)
  go_wp2_with fail
  with_reducible refine (szCarsL_ok _ M H L _ x.cs _ HB2.out HX2.out H2.out).mono ?_
  rintro e w3 ⟨rfl, g1⟩
  have G3 := Lib.hid (Chg.trans G2.out g1)
  have q3 := Chg.cell g1 q3 id
  have H3 := Lib.hid (H3.out.up g1)
  have q4 := Chg.cell g1 q4 id
  have H4 := Lib.hid (H4.out.up g1)
  clear g1 q2
  have HB3 : Hid (0 ≤ k - szF List.length x.fr - szF List.length x.bk - x.cs.length ∧ k - szF List.length x.fr - szF List.length x.bk - x.cs.length ≤ 1048576) := Lib.hid (by omega)
  have HX3 : Hid ((szF (fun x => x.ps.length) x.ls : Int) ≤ k - szF List.length x.fr - szF List.length x.bk - x.cs.length) := Lib.hid (by omega)
  have hd3 : decide (k - szF List.length x.fr - szF List.length x.bk - x.cs.length - (szF (fun x => x.ps.length) x.ls : Int) < 0) = false := decide_eq_false (by omega)
  go_wp2_with fail
  with_reducible refine (szInfoSV_ok _ M H L _ x.ls _ HB3.out HX3.out H3.out).mono ?_
  rintro e w4 ⟨rfl, g1⟩
  have G4 := Lib.hid (Chg.trans G3.out g1)
  have q4 := Chg.cell g1 q4 id
  have H4 := Lib.hid (H4.out.up g1)
  clear g1 q3
  have HB4 : Hid (0 ≤ k - szF List.length x.fr - szF List.length x.bk - x.cs.length - szF (fun x => x.ps.length) x.ls ∧ k - szF List.length x.fr - szF List.length x.bk - x.cs.length - szF (fun x => x.ps.length) x.ls ≤ 1048576) := Lib.hid (by omega)
  have HX4 : Hid ((x.dr.length : Int) ≤ k - szF List.length x.fr - szF List.length x.bk - x.cs.length - szF (fun x => x.ps.length) x.ls) := Lib.hid (by omega)
  have hd4 : decide (k - szF List.length x.fr - szF List.length x.bk - x.cs.length - szF (fun x => x.ps.length) x.ls - (x.dr.length : Int) < 0) = false := decide_eq_false (by omega)
  go_wp2_with fail
  with_reducible refine (szIntsL_ok _ M H L _ x.dr _ HB4.out HX4.out H4.out).mono ?_
  rintro e w5 ⟨rfl, g1⟩
  have G5 := Lib.hid (Chg.trans G4.out g1)
  clear g1 q4
  go_wp2
  go_ret
  exact ⟨ret_int (by omega), G5.out⟩
theorem szMac_no (w : World) (M H L : Nat → Prop) (v : Value) (x : MacM) (k : Int) (hk : 0 ≤ k ∧ k ≤ 1048576) (hl : k < (szF List.length x.fr + szF List.length x.bk + x.cs.length + szF (fun x => x.ps.length) x.ls + x.dr.length : Int)) (h : MacV w M H L v x) :
    Calls Try.prog 7 #[v, .int .i64 k] w fun e w' => e = .returned (.int .i64 (-1)) ∧ Up w w' := by
  obtain ⟨A0, c0, A1, c1, A2, c2, A3, c3, A4, c4, rfl, h0, h1, h2, h3, h4, h5, h6, h7, h8, h9, h10, h11⟩ := h
  have U0 := Lib.hid ((Chg.refl Nowhere w).alloc (.cells #[.int .i64 x.wd, .int .i64 x.rk, .slice A0 x.fr.length c0, .slice A1 x.bk.length c1, .slice A2 x.cs.length c2, .slice A3 x.ls.length c3, .slice A4 x.dr.length c4] 27))
  have H0 := Lib.hid (h0.up U0.out)
  have H1 := Lib.hid (h1.up U0.out)
  have H2 := Lib.hid (h2.up U0.out)
  have H3 := Lib.hid (h3.up U0.out)
  have H4 := Lib.hid (h4.up U0.out)
  have q0 := (show (w.alloc (.cells #[.int .i64 x.wd, .int .i64 x.rk, .slice A0 x.fr.length c0, .slice A1 x.bk.length c1, .slice A2 x.cs.length c2, .slice A3 x.ls.length c3, .slice A4 x.dr.length c4] 27)).cell? ⟨w.heap.size, 2, none⟩ = some (.slice A0 x.fr.length c0) from cell_new _ _ _ _)
  have q1 := (show (w.alloc (.cells #[.int .i64 x.wd, .int .i64 x.rk, .slice A0 x.fr.length c0, .slice A1 x.bk.length c1, .slice A2 x.cs.length c2, .slice A3 x.ls.length c3, .slice A4 x.dr.length c4] 27)).cell? ⟨w.heap.size, 3, none⟩ = some (.slice A1 x.bk.length c1) from cell_new _ _ _ _)
  have q2 := (show (w.alloc (.cells #[.int .i64 x.wd, .int .i64 x.rk, .slice A0 x.fr.length c0, .slice A1 x.bk.length c1, .slice A2 x.cs.length c2, .slice A3 x.ls.length c3, .slice A4 x.dr.length c4] 27)).cell? ⟨w.heap.size, 4, none⟩ = some (.slice A2 x.cs.length c2) from cell_new _ _ _ _)
  have q3 := (show (w.alloc (.cells #[.int .i64 x.wd, .int .i64 x.rk, .slice A0 x.fr.length c0, .slice A1 x.bk.length c1, .slice A2 x.cs.length c2, .slice A3 x.ls.length c3, .slice A4 x.dr.length c4] 27)).cell? ⟨w.heap.size, 5, none⟩ = some (.slice A3 x.ls.length c3) from cell_new _ _ _ _)
  have q4 := (show (w.alloc (.cells #[.int .i64 x.wd, .int .i64 x.rk, .slice A0 x.fr.length c0, .slice A1 x.bk.length c1, .slice A2 x.cs.length c2, .slice A3 x.ls.length c3, .slice A4 x.dr.length c4] 27)).cell? ⟨w.heap.size, 6, none⟩ = some (.slice A4 x.dr.length c4) from cell_new _ _ _ _)
  clear h0 h1 h2 h3 h4 h5 h6 h7 h8 h9 h10 h11
  have G0 := Lib.hid U0.out
  go_enter Try.func7, Try.ntmps7
  have HB0 : Hid (0 ≤ k ∧ k ≤ 1048576) := Lib.hid (by omega)
  by_cases hx0 : (szF List.length x.fr : Int) ≤ k
  rotate_left
  · have HX0 : Hid (k < (szF List.length x.fr : Int)) := Lib.hid (by omega)
    have hd : decide ((-1 : Int) < 0) = true := rfl
    clear hx0 hl
    go_wp2_with fail
    with_reducible refine (szIntSSV_no _ M H L _ x.fr _ HB0.out HX0.out H0.out).mono ?_
    rintro e w1 ⟨rfl, g1⟩
    have G1 := Lib.hid (Chg.trans G0.out g1)
    clear g1 q0 q1 q2 q3 q4
    go_wp2
    go_ret
    exact ⟨rfl, G1.out⟩
  have HX0 : Hid ((szF List.length x.fr : Int) ≤ k) := Lib.hid (by omega)
  have hd0 : decide (k - (szF List.length x.fr : Int) < 0) = false := decide_eq_false (by omega)
  go_wp2_with fail
  with_reducible refine (szIntSSV_ok _ M H L _ x.fr _ HB0.out HX0.out H0.out).mono ?_
  rintro e w1 ⟨rfl, g1⟩
  have G1 := Lib.hid (Chg.trans G0.out g1)
  have q1 := Chg.cell g1 q1 id
  have H1 := Lib.hid (H1.out.up g1)
  have q2 := Chg.cell g1 q2 id
  have H2 := Lib.hid (H2.out.up g1)
  have q3 := Chg.cell g1 q3 id
  have H3 := Lib.hid (H3.out.up g1)
  have q4 := Chg.cell g1 q4 id
  have H4 := Lib.hid (H4.out.up g1)
  clear g1 q0
  have HB1 : Hid (0 ≤ k - szF List.length x.fr ∧ k - szF List.length x.fr ≤ 1048576) := Lib.hid (by omega)
  by_cases hx1 : (szF List.length x.bk : Int) ≤ k - szF List.length x.fr
  rotate_left
  · have HX1 : Hid (k - szF List.length x.fr < (szF List.length x.bk : Int)) := Lib.hid (by omega)
    have hd : decide ((-1 : Int) < 0) = true := rfl
    clear hx1 hl
    go_wp2_with fail
    with_reducible refine (szIntSSV_no _ M H L _ x.bk _ HB1.out HX1.out H1.out).mono ?_
    rintro e w2 ⟨rfl, g1⟩
    have G2 := Lib.hid (Chg.trans G1.out g1)
    clear g1 q1 q2 q3 q4
    go_wp2
    go_ret
    exact ⟨rfl, G2.out⟩
  have HX1 : Hid ((szF List.length x.bk : Int) ≤ k - szF List.length x.fr) := Lib.hid (by omega)
  have hd1 : decide (k - szF List.length x.fr - (szF List.length x.bk : Int) < 0) = false := decide_eq_false (by omega)
  go_wp2_with fail
  with_reducible refine (szIntSSV_ok _ M H L _ x.bk _ HB1.out HX1.out H1.out).mono ?_
  rintro e w2 ⟨rfl, g1⟩
  have G2 := Lib.hid (Chg.trans G1.out g1)
  have q2 := Chg.cell g1 q2 id
  have H2 := Lib.hid (H2.out.up g1)
  have q3 := Chg.cell g1 q3 id
  have H3 := Lib.hid (H3.out.up g1)
  have q4 := Chg.cell g1 q4 id
  have H4 := Lib.hid (H4.out.up g1)
  clear g1 q1
  have HB2 : Hid (0 ≤ k - szF List.length x.fr - szF List.length x.bk ∧ k - szF List.length x.fr - szF List.length x.bk ≤ 1048576) := Lib.hid (by omega)
  by_cases hx2 : (x.cs.length : Int) ≤ k - szF List.length x.fr - szF List.length x.bk
  rotate_left
  · have HX2 : Hid (k - szF List.length x.fr - szF List.length x.bk < (x.cs.length : Int)) := Lib.hid (by omega)
    have hd : decide ((-1 : Int) < 0) = true := rfl
    clear hx2 hl
    go_wp2_with fail
    with_reducible refine (szCarsL_no _ M H L _ x.cs _ HB2.out HX2.out H2.out).mono ?_
    rintro e w3 ⟨rfl, g1⟩
    have G3 := Lib.hid (Chg.trans G2.out g1)
    clear g1 q2 q3 q4
    go_wp2
    go_ret
    exact ⟨rfl, G3.out⟩
  have HX2 : Hid ((x.cs.length : Int) ≤ k - szF List.length x.fr - szF List.length x.bk) := Lib.hid (by omega)
  have hd2 : decide (k - szF List.length x.fr - szF List.length x.bk - (x.cs.length : Int) < 0) = false := decide_eq_false (by omega)
  go_wp2_with fail
  with_reducible refine (szCarsL_ok _ M H L _ x.cs _ HB2.out HX2.out H2.out).mono ?_
  rintro e w3 ⟨rfl, g1⟩
  have G3 := Lib.hid (Chg.trans G2.out g1)
  have q3 := Chg.cell g1 q3 id
  have H3 := Lib.hid (H3.out.up g1)
  have q4 := Chg.cell g1 q4 id
  have H4 := Lib.hid (H4.out.up g1)
  clear g1 q2
  have HB3 : Hid (0 ≤ k - szF List.length x.fr - szF List.length x.bk - x.cs.length ∧ k - szF List.length x.fr - szF List.length x.bk - x.cs.length ≤ 1048576) := Lib.hid (by omega)
  by_cases hx3 : (szF (fun x => x.ps.length) x.ls : Int) ≤ k - szF List.length x.fr - szF List.length x.bk - x.cs.length
  rotate_left
  · have HX3 : Hid (k - szF List.length x.fr - szF List.length x.bk - x.cs.length < (szF (fun x => x.ps.length) x.ls : Int)) := Lib.hid (by omega)
    have hd : decide ((-1 : Int) < 0) = true := rfl
    clear hx3 hl
    go_wp2_with fail
    with_reducible refine (szInfoSV_no _ M H L _ x.ls _ HB3.out HX3.out H3.out).mono ?_
    rintro e w4 ⟨rfl, g1⟩
    have G4 := Lib.hid (Chg.trans G3.out g1)
    clear g1 q3 q4
    go_wp2
    go_ret
    exact ⟨rfl, G4.out⟩
  have HX3 : Hid ((szF (fun x => x.ps.length) x.ls : Int) ≤ k - szF List.length x.fr - szF List.length x.bk - x.cs.length) := Lib.hid (by omega)
  have hd3 : decide (k - szF List.length x.fr - szF List.length x.bk - x.cs.length - (szF (fun x => x.ps.length) x.ls : Int) < 0) = false := decide_eq_false (by omega)
  go_wp2_with fail
  with_reducible refine (szInfoSV_ok _ M H L _ x.ls _ HB3.out HX3.out H3.out).mono ?_
  rintro e w4 ⟨rfl, g1⟩
  have G4 := Lib.hid (Chg.trans G3.out g1)
  have q4 := Chg.cell g1 q4 id
  have H4 := Lib.hid (H4.out.up g1)
  clear g1 q3
  have HB4 : Hid (0 ≤ k - szF List.length x.fr - szF List.length x.bk - x.cs.length - szF (fun x => x.ps.length) x.ls ∧ k - szF List.length x.fr - szF List.length x.bk - x.cs.length - szF (fun x => x.ps.length) x.ls ≤ 1048576) := Lib.hid (by omega)
  have HX4 : Hid (k - szF List.length x.fr - szF List.length x.bk - x.cs.length - szF (fun x => x.ps.length) x.ls < (x.dr.length : Int)) := Lib.hid (by omega)
  have hd : decide ((-1 : Int) < 0) = true := rfl
  go_wp2_with fail
  with_reducible refine (szIntsL_no _ M H L _ x.dr _ HB4.out HX4.out H4.out).mono ?_
  rintro e w5 ⟨rfl, g1⟩
  have G5 := Lib.hid (Chg.trans G4.out g1)
  clear g1 q4
  go_wp2
  go_ret
  exact ⟨rfl, G5.out⟩
theorem toMac_any (w : World) (M H L : Nat → Prop) (v : Value) (x : MacM) (hb : szF List.length x.fr + szF List.length x.bk + x.cs.length + szF (fun x => x.ps.length) x.ls + x.dr.length ≤ 1048576) (h : MacV w M H L v x) :
    Calls Try.prog 9 #[v] w fun e w' => ∃ u M' H' L', e = .returned u ∧ ApartN w.heap.size w'.heap.size M' H' L' ∧ MacV w' M' H' L' u x ∧ Up w w' := by
  obtain ⟨A0, c0, A1, c1, A2, c2, A3, c3, A4, c4, rfl, h0, h1, h2, h3, h4, h5, h6, h7, h8, h9, h10, h11⟩ := h
  have H0 := Lib.hid h0
  have H1 := Lib.hid h1
  have H2 := Lib.hid h2
  have H3 := Lib.hid h3
  have H4 := Lib.hid h4
  have H5 := Lib.hid h5
  have H6 := Lib.hid h6
  have H7 := Lib.hid h7
  have H8 := Lib.hid h8
  have H9 := Lib.hid h9
  have H10 := Lib.hid h10
  have H11 := Lib.hid h11
  clear h0 h1 h2 h3 h4 h5 h6 h7 h8 h9 h10 h11
  have hw0 := Lib.hid (show Up w (w.alloc (.cells #[.int .i64 x.wd, .int .i64 x.rk, .slice A0 x.fr.length c0, .slice A1 x.bk.length c1, .slice A2 x.cs.length c2, .slice A3 x.ls.length c3, .slice A4 x.dr.length c4] 27)) from (Chg.refl Nowhere w).alloc _)
  go_enter Try.func9, Try.ntmps9
  have q0 := (show (w.alloc (.cells #[.int .i64 x.wd, .int .i64 x.rk, .slice A0 x.fr.length c0, .slice A1 x.bk.length c1, .slice A2 x.cs.length c2, .slice A3 x.ls.length c3, .slice A4 x.dr.length c4] 27)).cell? ⟨w.heap.size, 0, none⟩ = some (.int .i64 x.wd) from cell_new _ _ _ _)
  have q1 := (show (w.alloc (.cells #[.int .i64 x.wd, .int .i64 x.rk, .slice A0 x.fr.length c0, .slice A1 x.bk.length c1, .slice A2 x.cs.length c2, .slice A3 x.ls.length c3, .slice A4 x.dr.length c4] 27)).cell? ⟨w.heap.size, 1, none⟩ = some (.int .i64 x.rk) from cell_new _ _ _ _)
  have q2 := (show (w.alloc (.cells #[.int .i64 x.wd, .int .i64 x.rk, .slice A0 x.fr.length c0, .slice A1 x.bk.length c1, .slice A2 x.cs.length c2, .slice A3 x.ls.length c3, .slice A4 x.dr.length c4] 27)).cell? ⟨w.heap.size, 2, none⟩ = some (.slice A0 x.fr.length c0) from cell_new _ _ _ _)
  have q3 := (show (w.alloc (.cells #[.int .i64 x.wd, .int .i64 x.rk, .slice A0 x.fr.length c0, .slice A1 x.bk.length c1, .slice A2 x.cs.length c2, .slice A3 x.ls.length c3, .slice A4 x.dr.length c4] 27)).cell? ⟨w.heap.size, 3, none⟩ = some (.slice A1 x.bk.length c1) from cell_new _ _ _ _)
  have q4 := (show (w.alloc (.cells #[.int .i64 x.wd, .int .i64 x.rk, .slice A0 x.fr.length c0, .slice A1 x.bk.length c1, .slice A2 x.cs.length c2, .slice A3 x.ls.length c3, .slice A4 x.dr.length c4] 27)).cell? ⟨w.heap.size, 4, none⟩ = some (.slice A2 x.cs.length c2) from cell_new _ _ _ _)
  have q5 := (show (w.alloc (.cells #[.int .i64 x.wd, .int .i64 x.rk, .slice A0 x.fr.length c0, .slice A1 x.bk.length c1, .slice A2 x.cs.length c2, .slice A3 x.ls.length c3, .slice A4 x.dr.length c4] 27)).cell? ⟨w.heap.size, 5, none⟩ = some (.slice A3 x.ls.length c3) from cell_new _ _ _ _)
  have q6 := (show (w.alloc (.cells #[.int .i64 x.wd, .int .i64 x.rk, .slice A0 x.fr.length c0, .slice A1 x.bk.length c1, .slice A2 x.cs.length c2, .slice A3 x.ls.length c3, .slice A4 x.dr.length c4] 27)).cell? ⟨w.heap.size, 6, none⟩ = some (.slice A4 x.dr.length c4) from cell_new _ _ _ _)
  have hbx : w.heap.size < (w.alloc (.cells #[.int .i64 x.wd, .int .i64 x.rk, .slice A0 x.fr.length c0, .slice A1 x.bk.length c1, .slice A2 x.cs.length c2, .slice A3 x.ls.length c3, .slice A4 x.dr.length c4] 27)).heap.size := by simp
  go_wp2_with fail
  refine (toIntSSV_any _ M H L _ x.fr (by omega) (H0.out.up (by repeat (first | exact Chg.refl _ _ | apply Chg.drew | apply Chg.drewN | refine Chg.alloc ?_ _)))).mono ?_
  rintro e w1 ⟨v1, M1, H1', L1, rfl, ap1, k1, g1⟩
  obtain ⟨B1, d1, rfl, hl1, hc1, -⟩ := k1.shape
  have U1 := Lib.hid (show Up w w1 from Chg.trans (by repeat (first | exact Chg.refl _ _ | apply Chg.drew | apply Chg.drewN | refine Chg.alloc ?_ _)) g1)
  have hs1 : w.heap.size + 1 + 1 + 1 ≤ w1.heap.size := by have := g1.size; simpa using this
  have HA1 : Hid (ApartN (w.heap.size + 1 + 1 + 1) w1.heap.size M1 H1' L1) := Lib.hid (by simpa using ap1)
  have q0 := Chg.cell (Chg.trans (by repeat (first | exact Chg.refl _ _ | apply Chg.drew | apply Chg.drewN | refine Chg.alloc ?_ _)) g1) q0 id
  have q1 := Chg.cell (Chg.trans (by repeat (first | exact Chg.refl _ _ | apply Chg.drew | apply Chg.drewN | refine Chg.alloc ?_ _)) g1) q1 id
  have q2 := Chg.cell (Chg.trans (by repeat (first | exact Chg.refl _ _ | apply Chg.drew | apply Chg.drewN | refine Chg.alloc ?_ _)) g1) q2 id
  have q3 := Chg.cell (Chg.trans (by repeat (first | exact Chg.refl _ _ | apply Chg.drew | apply Chg.drewN | refine Chg.alloc ?_ _)) g1) q3 id
  have q4 := Chg.cell (Chg.trans (by repeat (first | exact Chg.refl _ _ | apply Chg.drew | apply Chg.drewN | refine Chg.alloc ?_ _)) g1) q4 id
  have q5 := Chg.cell (Chg.trans (by repeat (first | exact Chg.refl _ _ | apply Chg.drew | apply Chg.drewN | refine Chg.alloc ?_ _)) g1) q5 id
  have q6 := Chg.cell (Chg.trans (by repeat (first | exact Chg.refl _ _ | apply Chg.drew | apply Chg.drewN | refine Chg.alloc ?_ _)) g1) q6 id
  have x0 := (show CellF w1 ⟨w.heap.size + 1 + 1, 0, none⟩ (.int .i64 x.wd) from CellF.up g1 (by repeat (first | ((refine cellF_at ?_ rfl); (simp; done)) | refine CellF.up ((Chg.refl _ _).alloc _) ?_)))
  have x1 := (show CellF w1 ⟨w.heap.size + 1 + 1, 1, none⟩ (.int .i64 x.rk) from CellF.up g1 (by repeat (first | ((refine cellF_at ?_ rfl); (simp; done)) | refine CellF.up ((Chg.refl _ _).alloc _) ?_)))
  have x2 := (show CellF w1 ⟨w.heap.size + 1 + 1, 2, none⟩ (.slice none 0 0) from CellF.up g1 (by repeat (first | ((refine cellF_at ?_ rfl); (simp; done)) | refine CellF.up ((Chg.refl _ _).alloc _) ?_)))
  have x3 := (show CellF w1 ⟨w.heap.size + 1 + 1, 3, none⟩ (.slice none 0 0) from CellF.up g1 (by repeat (first | ((refine cellF_at ?_ rfl); (simp; done)) | refine CellF.up ((Chg.refl _ _).alloc _) ?_)))
  have x4 := (show CellF w1 ⟨w.heap.size + 1 + 1, 4, none⟩ (.slice none 0 0) from CellF.up g1 (by repeat (first | ((refine cellF_at ?_ rfl); (simp; done)) | refine CellF.up ((Chg.refl _ _).alloc _) ?_)))
  have x5 := (show CellF w1 ⟨w.heap.size + 1 + 1, 5, none⟩ (.slice none 0 0) from CellF.up g1 (by repeat (first | ((refine cellF_at ?_ rfl); (simp; done)) | refine CellF.up ((Chg.refl _ _).alloc _) ?_)))
  have x6 := (show CellF w1 ⟨w.heap.size + 1 + 1, 6, none⟩ (.slice none 0 0) from CellF.up g1 (by repeat (first | ((refine cellF_at ?_ rfl); (simp; done)) | refine CellF.up ((Chg.refl _ _).alloc _) ?_)))
  have y0 := (show CellF w1 ⟨w.heap.size + 1, 0, none⟩ (.int .i64 0) from CellF.up g1 (by repeat (first | ((refine cellF_at ?_ rfl); (simp; done)) | refine CellF.up ((Chg.refl _ _).alloc _) ?_)))
  have y1 := (show CellF w1 ⟨w.heap.size + 1, 1, none⟩ (.int .i64 0) from CellF.up g1 (by repeat (first | ((refine cellF_at ?_ rfl); (simp; done)) | refine CellF.up ((Chg.refl _ _).alloc _) ?_)))
  have y2 := (show CellF w1 ⟨w.heap.size + 1, 2, none⟩ (.slice none 0 0) from CellF.up g1 (by repeat (first | ((refine cellF_at ?_ rfl); (simp; done)) | refine CellF.up ((Chg.refl _ _).alloc _) ?_)))
  have y3 := (show CellF w1 ⟨w.heap.size + 1, 3, none⟩ (.slice none 0 0) from CellF.up g1 (by repeat (first | ((refine cellF_at ?_ rfl); (simp; done)) | refine CellF.up ((Chg.refl _ _).alloc _) ?_)))
  have y4 := (show CellF w1 ⟨w.heap.size + 1, 4, none⟩ (.slice none 0 0) from CellF.up g1 (by repeat (first | ((refine cellF_at ?_ rfl); (simp; done)) | refine CellF.up ((Chg.refl _ _).alloc _) ?_)))
  have y5 := (show CellF w1 ⟨w.heap.size + 1, 5, none⟩ (.slice none 0 0) from CellF.up g1 (by repeat (first | ((refine cellF_at ?_ rfl); (simp; done)) | refine CellF.up ((Chg.refl _ _).alloc _) ?_)))
  have y6 := (show CellF w1 ⟨w.heap.size + 1, 6, none⟩ (.slice none 0 0) from CellF.up g1 (by repeat (first | ((refine cellF_at ?_ rfl); (simp; done)) | refine CellF.up ((Chg.refl _ _).alloc _) ?_)))
  have K1 := Lib.hid k1
  clear ap1 k1
  have SG1 := Lib.hid (show Chg (fun b => b = w.heap.size + 1 + 1) w1 (w1.setCell ⟨w.heap.size + 1 + 1, 2, none⟩ (.slice B1 x.fr.length d1)) from Chg.setCell (Chg.refl (fun b => b = w.heap.size + 1 + 1) _) (p := ⟨w.heap.size + 1 + 1, 2, none⟩) (.inl rfl) _)
  have US1 := Lib.hid (show Up w (w1.setCell ⟨w.heap.size + 1 + 1, 2, none⟩ (.slice B1 x.fr.length d1)) from Chg.setCell U1.out (.inr (by show w.heap.size ≤ w.heap.size + 1 + 1; omega)) _)
  clear g1
  obtain ⟨x0c, x0f⟩ := x0
  obtain ⟨y0c, y0f⟩ := y0
  obtain ⟨x1c, x1f⟩ := x1
  obtain ⟨y1c, y1f⟩ := y1
  obtain ⟨x2c, x2f⟩ := x2
  obtain ⟨y2c, y2f⟩ := y2
  obtain ⟨x3c, x3f⟩ := x3
  obtain ⟨y3c, y3f⟩ := y3
  obtain ⟨x4c, x4f⟩ := x4
  obtain ⟨y4c, y4f⟩ := y4
  obtain ⟨x5c, x5f⟩ := x5
  obtain ⟨y5c, y5f⟩ := y5
  obtain ⟨x6c, x6f⟩ := x6
  obtain ⟨y6c, y6f⟩ := y6
  have x0 := Lib.hid (show CellF _ _ _ from ⟨x0c, x0f⟩)
  have y0 := Lib.hid (show CellF _ _ _ from ⟨y0c, y0f⟩)
  have x1 := Lib.hid (show CellF _ _ _ from ⟨x1c, x1f⟩)
  have y1 := Lib.hid (show CellF _ _ _ from ⟨y1c, y1f⟩)
  have x2 := Lib.hid (show CellF _ _ _ from ⟨x2c, x2f⟩)
  have y2 := Lib.hid (show CellF _ _ _ from ⟨y2c, y2f⟩)
  have x3 := Lib.hid (show CellF _ _ _ from ⟨x3c, x3f⟩)
  have y3 := Lib.hid (show CellF _ _ _ from ⟨y3c, y3f⟩)
  have x4 := Lib.hid (show CellF _ _ _ from ⟨x4c, x4f⟩)
  have y4 := Lib.hid (show CellF _ _ _ from ⟨y4c, y4f⟩)
  have x5 := Lib.hid (show CellF _ _ _ from ⟨x5c, x5f⟩)
  have y5 := Lib.hid (show CellF _ _ _ from ⟨y5c, y5f⟩)
  have x6 := Lib.hid (show CellF _ _ _ from ⟨x6c, x6f⟩)
  have y6 := Lib.hid (show CellF _ _ _ from ⟨y6c, y6f⟩)
  go_wp2_with fail
  refine (toIntSSV_any _ M H L _ x.bk (by omega) (H1.out.up (US1.out))).mono ?_
  rintro e w2 ⟨v2, M2, H2', L2, rfl, ap2, k2, g2⟩
  obtain ⟨B2, d2, rfl, hl2, hc2, -⟩ := k2.shape
  have U2 := Lib.hid (Chg.trans US1.out g2)
  have hs2 : w1.heap.size ≤ w2.heap.size := by have := g2.size; simpa using this
  have HA2 : Hid (ApartN (w.heap.size + 1 + 1 + 1) w2.heap.size (Un M1 M2) (Un H1' H2') (Un L1 L2)) := Lib.hid (ApartN.un HA1.out (by simpa using ap2) (by omega) (by omega))
  have q3 := Chg.cell (Chg.trans SG1.out (Chg.of_up g2)) q3 (fun he => by have he : w.heap.size = w.heap.size + 1 + 1 := he; omega)
  have q4 := Chg.cell (Chg.trans SG1.out (Chg.of_up g2)) q4 (fun he => by have he : w.heap.size = w.heap.size + 1 + 1 := he; omega)
  have q5 := Chg.cell (Chg.trans SG1.out (Chg.of_up g2)) q5 (fun he => by have he : w.heap.size = w.heap.size + 1 + 1 := he; omega)
  have q6 := Chg.cell (Chg.trans SG1.out (Chg.of_up g2)) q6 (fun he => by have he : w.heap.size = w.heap.size + 1 + 1 := he; omega)
  have x0 := CellF.up g2 (CellF.set_ne (q := ⟨w.heap.size + 1 + 1, 2, none⟩) (x := .slice B1 x.fr.length d1) x0 (by simp))
  have x1 := CellF.up g2 (CellF.set_ne (q := ⟨w.heap.size + 1 + 1, 2, none⟩) (x := .slice B1 x.fr.length d1) x1 (by simp))
  have x2 := CellF.up g2 (CellF.set (u := .slice B1 x.fr.length d1) x2)
  have x3 := CellF.up g2 (CellF.set_ne (q := ⟨w.heap.size + 1 + 1, 2, none⟩) (x := .slice B1 x.fr.length d1) x3 (by simp))
  have x4 := CellF.up g2 (CellF.set_ne (q := ⟨w.heap.size + 1 + 1, 2, none⟩) (x := .slice B1 x.fr.length d1) x4 (by simp))
  have x5 := CellF.up g2 (CellF.set_ne (q := ⟨w.heap.size + 1 + 1, 2, none⟩) (x := .slice B1 x.fr.length d1) x5 (by simp))
  have x6 := CellF.up g2 (CellF.set_ne (q := ⟨w.heap.size + 1 + 1, 2, none⟩) (x := .slice B1 x.fr.length d1) x6 (by simp))
  have y0 := CellF.up g2 (CellF.set_ne (q := ⟨w.heap.size + 1 + 1, 2, none⟩) (x := .slice B1 x.fr.length d1) y0 (by simp))
  have y1 := CellF.up g2 (CellF.set_ne (q := ⟨w.heap.size + 1 + 1, 2, none⟩) (x := .slice B1 x.fr.length d1) y1 (by simp))
  have y2 := CellF.up g2 (CellF.set_ne (q := ⟨w.heap.size + 1 + 1, 2, none⟩) (x := .slice B1 x.fr.length d1) y2 (by simp))
  have y3 := CellF.up g2 (CellF.set_ne (q := ⟨w.heap.size + 1 + 1, 2, none⟩) (x := .slice B1 x.fr.length d1) y3 (by simp))
  have y4 := CellF.up g2 (CellF.set_ne (q := ⟨w.heap.size + 1 + 1, 2, none⟩) (x := .slice B1 x.fr.length d1) y4 (by simp))
  have y5 := CellF.up g2 (CellF.set_ne (q := ⟨w.heap.size + 1 + 1, 2, none⟩) (x := .slice B1 x.fr.length d1) y5 (by simp))
  have y6 := CellF.up g2 (CellF.set_ne (q := ⟨w.heap.size + 1 + 1, 2, none⟩) (x := .slice B1 x.fr.length d1) y6 (by simp))
  have K1 := Lib.hid ((K1.out.keep SG1.out (fun b hb he => by have := (HA1.out.1 b hb).1; have he : b = w.heap.size + 1 + 1 := he; omega)).up g2)
  have K2 := Lib.hid k2
  clear ap2 k2
  have SG2 := Lib.hid (show Chg (fun b => b = w.heap.size + 1 + 1) w2 (w2.setCell ⟨w.heap.size + 1 + 1, 3, none⟩ (.slice B2 x.bk.length d2)) from Chg.setCell (Chg.refl (fun b => b = w.heap.size + 1 + 1) _) (p := ⟨w.heap.size + 1 + 1, 3, none⟩) (.inl rfl) _)
  have US2 := Lib.hid (show Up w (w2.setCell ⟨w.heap.size + 1 + 1, 3, none⟩ (.slice B2 x.bk.length d2)) from Chg.setCell U2.out (.inr (by show w.heap.size ≤ w.heap.size + 1 + 1; omega)) _)
  clear g2
  obtain ⟨x0c, x0f⟩ := x0
  obtain ⟨y0c, y0f⟩ := y0
  obtain ⟨x1c, x1f⟩ := x1
  obtain ⟨y1c, y1f⟩ := y1
  obtain ⟨x2c, x2f⟩ := x2
  obtain ⟨y2c, y2f⟩ := y2
  obtain ⟨x3c, x3f⟩ := x3
  obtain ⟨y3c, y3f⟩ := y3
  obtain ⟨x4c, x4f⟩ := x4
  obtain ⟨y4c, y4f⟩ := y4
  obtain ⟨x5c, x5f⟩ := x5
  obtain ⟨y5c, y5f⟩ := y5
  obtain ⟨x6c, x6f⟩ := x6
  obtain ⟨y6c, y6f⟩ := y6
  have x0 := Lib.hid (show CellF _ _ _ from ⟨x0c, x0f⟩)
  have y0 := Lib.hid (show CellF _ _ _ from ⟨y0c, y0f⟩)
  have x1 := Lib.hid (show CellF _ _ _ from ⟨x1c, x1f⟩)
  have y1 := Lib.hid (show CellF _ _ _ from ⟨y1c, y1f⟩)
  have x2 := Lib.hid (show CellF _ _ _ from ⟨x2c, x2f⟩)
  have y2 := Lib.hid (show CellF _ _ _ from ⟨y2c, y2f⟩)
  have x3 := Lib.hid (show CellF _ _ _ from ⟨x3c, x3f⟩)
  have y3 := Lib.hid (show CellF _ _ _ from ⟨y3c, y3f⟩)
  have x4 := Lib.hid (show CellF _ _ _ from ⟨x4c, x4f⟩)
  have y4 := Lib.hid (show CellF _ _ _ from ⟨y4c, y4f⟩)
  have x5 := Lib.hid (show CellF _ _ _ from ⟨x5c, x5f⟩)
  have y5 := Lib.hid (show CellF _ _ _ from ⟨y5c, y5f⟩)
  have x6 := Lib.hid (show CellF _ _ _ from ⟨x6c, x6f⟩)
  have y6 := Lib.hid (show CellF _ _ _ from ⟨y6c, y6f⟩)
  go_wp2_with fail
  refine (toCarsL_any _ M H L _ x.cs (by omega) (H2.out.up (US2.out))).mono ?_
  rintro e w3 ⟨v3, M3, H3', L3, rfl, ap3, k3, g3⟩
  obtain ⟨B3, d3, rfl, hl3, hc3, -⟩ := k3.shape
  have U3 := Lib.hid (Chg.trans US2.out g3)
  have hs3 : w2.heap.size ≤ w3.heap.size := by have := g3.size; simpa using this
  have HA3 : Hid (ApartN (w.heap.size + 1 + 1 + 1) w3.heap.size (Un (Un M1 M2) (M3)) (Un (Un H1' H2') (H3')) (Un (Un L1 L2) (L3))) := Lib.hid (ApartN.un HA2.out (by simpa using ap3) (by omega) (by omega))
  have q4 := Chg.cell (Chg.trans SG2.out (Chg.of_up g3)) q4 (fun he => by have he : w.heap.size = w.heap.size + 1 + 1 := he; omega)
  have q5 := Chg.cell (Chg.trans SG2.out (Chg.of_up g3)) q5 (fun he => by have he : w.heap.size = w.heap.size + 1 + 1 := he; omega)
  have q6 := Chg.cell (Chg.trans SG2.out (Chg.of_up g3)) q6 (fun he => by have he : w.heap.size = w.heap.size + 1 + 1 := he; omega)
  have x0 := CellF.up g3 (CellF.set_ne (q := ⟨w.heap.size + 1 + 1, 3, none⟩) (x := .slice B2 x.bk.length d2) x0 (by simp))
  have x1 := CellF.up g3 (CellF.set_ne (q := ⟨w.heap.size + 1 + 1, 3, none⟩) (x := .slice B2 x.bk.length d2) x1 (by simp))
  have x2 := CellF.up g3 (CellF.set_ne (q := ⟨w.heap.size + 1 + 1, 3, none⟩) (x := .slice B2 x.bk.length d2) x2 (by simp))
  have x3 := CellF.up g3 (CellF.set (u := .slice B2 x.bk.length d2) x3)
  have x4 := CellF.up g3 (CellF.set_ne (q := ⟨w.heap.size + 1 + 1, 3, none⟩) (x := .slice B2 x.bk.length d2) x4 (by simp))
  have x5 := CellF.up g3 (CellF.set_ne (q := ⟨w.heap.size + 1 + 1, 3, none⟩) (x := .slice B2 x.bk.length d2) x5 (by simp))
  have x6 := CellF.up g3 (CellF.set_ne (q := ⟨w.heap.size + 1 + 1, 3, none⟩) (x := .slice B2 x.bk.length d2) x6 (by simp))
  have y0 := CellF.up g3 (CellF.set_ne (q := ⟨w.heap.size + 1 + 1, 3, none⟩) (x := .slice B2 x.bk.length d2) y0 (by simp))
  have y1 := CellF.up g3 (CellF.set_ne (q := ⟨w.heap.size + 1 + 1, 3, none⟩) (x := .slice B2 x.bk.length d2) y1 (by simp))
  have y2 := CellF.up g3 (CellF.set_ne (q := ⟨w.heap.size + 1 + 1, 3, none⟩) (x := .slice B2 x.bk.length d2) y2 (by simp))
  have y3 := CellF.up g3 (CellF.set_ne (q := ⟨w.heap.size + 1 + 1, 3, none⟩) (x := .slice B2 x.bk.length d2) y3 (by simp))
  have y4 := CellF.up g3 (CellF.set_ne (q := ⟨w.heap.size + 1 + 1, 3, none⟩) (x := .slice B2 x.bk.length d2) y4 (by simp))
  have y5 := CellF.up g3 (CellF.set_ne (q := ⟨w.heap.size + 1 + 1, 3, none⟩) (x := .slice B2 x.bk.length d2) y5 (by simp))
  have y6 := CellF.up g3 (CellF.set_ne (q := ⟨w.heap.size + 1 + 1, 3, none⟩) (x := .slice B2 x.bk.length d2) y6 (by simp))
  have K1 := Lib.hid ((K1.out.keep SG2.out (fun b hb he => by have := (HA2.out.1 b (hb.elim (fun hz => .inl (.inl hz)) fun hb => hb.elim (fun hz => .inr (.inl (.inl hz))) fun hz => .inr (.inr (.inl hz)))).1; have he : b = w.heap.size + 1 + 1 := he; omega)).up g3)
  have K2 := Lib.hid ((K2.out.keep SG2.out (fun b hb he => by have := (HA2.out.1 b (hb.elim (fun hz => .inl (.inr hz)) fun hb => hb.elim (fun hz => .inr (.inl (.inr hz))) fun hz => .inr (.inr (.inr hz)))).1; have he : b = w.heap.size + 1 + 1 := he; omega)).up g3)
  have K3 := Lib.hid k3
  clear ap3 k3
  have SG3 := Lib.hid (show Chg (fun b => b = w.heap.size + 1 + 1) w3 (w3.setCell ⟨w.heap.size + 1 + 1, 4, none⟩ (.slice B3 x.cs.length d3)) from Chg.setCell (Chg.refl (fun b => b = w.heap.size + 1 + 1) _) (p := ⟨w.heap.size + 1 + 1, 4, none⟩) (.inl rfl) _)
  have US3 := Lib.hid (show Up w (w3.setCell ⟨w.heap.size + 1 + 1, 4, none⟩ (.slice B3 x.cs.length d3)) from Chg.setCell U3.out (.inr (by show w.heap.size ≤ w.heap.size + 1 + 1; omega)) _)
  clear g3
  obtain ⟨x0c, x0f⟩ := x0
  obtain ⟨y0c, y0f⟩ := y0
  obtain ⟨x1c, x1f⟩ := x1
  obtain ⟨y1c, y1f⟩ := y1
  obtain ⟨x2c, x2f⟩ := x2
  obtain ⟨y2c, y2f⟩ := y2
  obtain ⟨x3c, x3f⟩ := x3
  obtain ⟨y3c, y3f⟩ := y3
  obtain ⟨x4c, x4f⟩ := x4
  obtain ⟨y4c, y4f⟩ := y4
  obtain ⟨x5c, x5f⟩ := x5
  obtain ⟨y5c, y5f⟩ := y5
  obtain ⟨x6c, x6f⟩ := x6
  obtain ⟨y6c, y6f⟩ := y6
  have x0 := Lib.hid (show CellF _ _ _ from ⟨x0c, x0f⟩)
  have y0 := Lib.hid (show CellF _ _ _ from ⟨y0c, y0f⟩)
  have x1 := Lib.hid (show CellF _ _ _ from ⟨x1c, x1f⟩)
  have y1 := Lib.hid (show CellF _ _ _ from ⟨y1c, y1f⟩)
  have x2 := Lib.hid (show CellF _ _ _ from ⟨x2c, x2f⟩)
  have y2 := Lib.hid (show CellF _ _ _ from ⟨y2c, y2f⟩)
  have x3 := Lib.hid (show CellF _ _ _ from ⟨x3c, x3f⟩)
  have y3 := Lib.hid (show CellF _ _ _ from ⟨y3c, y3f⟩)
  have x4 := Lib.hid (show CellF _ _ _ from ⟨x4c, x4f⟩)
  have y4 := Lib.hid (show CellF _ _ _ from ⟨y4c, y4f⟩)
  have x5 := Lib.hid (show CellF _ _ _ from ⟨x5c, x5f⟩)
  have y5 := Lib.hid (show CellF _ _ _ from ⟨y5c, y5f⟩)
  have x6 := Lib.hid (show CellF _ _ _ from ⟨x6c, x6f⟩)
  have y6 := Lib.hid (show CellF _ _ _ from ⟨y6c, y6f⟩)
  go_wp2_with fail
  refine (toInfoSV_any _ M H L _ x.ls (by omega) (H3.out.up (US3.out))).mono ?_
  rintro e w4 ⟨v4, M4, H4', L4, rfl, ap4, k4, g4⟩
  obtain ⟨B4, d4, rfl, hl4, hc4, -⟩ := k4.shape
  have U4 := Lib.hid (Chg.trans US3.out g4)
  have hs4 : w3.heap.size ≤ w4.heap.size := by have := g4.size; simpa using this
  have HA4 : Hid (ApartN (w.heap.size + 1 + 1 + 1) w4.heap.size (Un (Un (Un M1 M2) (M3)) (M4)) (Un (Un (Un H1' H2') (H3')) (H4')) (Un (Un (Un L1 L2) (L3)) (L4))) := Lib.hid (ApartN.un HA3.out (by simpa using ap4) (by omega) (by omega))
  have q5 := Chg.cell (Chg.trans SG3.out (Chg.of_up g4)) q5 (fun he => by have he : w.heap.size = w.heap.size + 1 + 1 := he; omega)
  have q6 := Chg.cell (Chg.trans SG3.out (Chg.of_up g4)) q6 (fun he => by have he : w.heap.size = w.heap.size + 1 + 1 := he; omega)
  have x0 := CellF.up g4 (CellF.set_ne (q := ⟨w.heap.size + 1 + 1, 4, none⟩) (x := .slice B3 x.cs.length d3) x0 (by simp))
  have x1 := CellF.up g4 (CellF.set_ne (q := ⟨w.heap.size + 1 + 1, 4, none⟩) (x := .slice B3 x.cs.length d3) x1 (by simp))
  have x2 := CellF.up g4 (CellF.set_ne (q := ⟨w.heap.size + 1 + 1, 4, none⟩) (x := .slice B3 x.cs.length d3) x2 (by simp))
  have x3 := CellF.up g4 (CellF.set_ne (q := ⟨w.heap.size + 1 + 1, 4, none⟩) (x := .slice B3 x.cs.length d3) x3 (by simp))
  have x4 := CellF.up g4 (CellF.set (u := .slice B3 x.cs.length d3) x4)
  have x5 := CellF.up g4 (CellF.set_ne (q := ⟨w.heap.size + 1 + 1, 4, none⟩) (x := .slice B3 x.cs.length d3) x5 (by simp))
  have x6 := CellF.up g4 (CellF.set_ne (q := ⟨w.heap.size + 1 + 1, 4, none⟩) (x := .slice B3 x.cs.length d3) x6 (by simp))
  have y0 := CellF.up g4 (CellF.set_ne (q := ⟨w.heap.size + 1 + 1, 4, none⟩) (x := .slice B3 x.cs.length d3) y0 (by simp))
  have y1 := CellF.up g4 (CellF.set_ne (q := ⟨w.heap.size + 1 + 1, 4, none⟩) (x := .slice B3 x.cs.length d3) y1 (by simp))
  have y2 := CellF.up g4 (CellF.set_ne (q := ⟨w.heap.size + 1 + 1, 4, none⟩) (x := .slice B3 x.cs.length d3) y2 (by simp))
  have y3 := CellF.up g4 (CellF.set_ne (q := ⟨w.heap.size + 1 + 1, 4, none⟩) (x := .slice B3 x.cs.length d3) y3 (by simp))
  have y4 := CellF.up g4 (CellF.set_ne (q := ⟨w.heap.size + 1 + 1, 4, none⟩) (x := .slice B3 x.cs.length d3) y4 (by simp))
  have y5 := CellF.up g4 (CellF.set_ne (q := ⟨w.heap.size + 1 + 1, 4, none⟩) (x := .slice B3 x.cs.length d3) y5 (by simp))
  have y6 := CellF.up g4 (CellF.set_ne (q := ⟨w.heap.size + 1 + 1, 4, none⟩) (x := .slice B3 x.cs.length d3) y6 (by simp))
  have K1 := Lib.hid ((K1.out.keep SG3.out (fun b hb he => by have := (HA3.out.1 b (hb.elim (fun hz => .inl (.inl (.inl hz))) fun hb => hb.elim (fun hz => .inr (.inl (.inl (.inl hz)))) fun hz => .inr (.inr (.inl (.inl hz))))).1; have he : b = w.heap.size + 1 + 1 := he; omega)).up g4)
  have K2 := Lib.hid ((K2.out.keep SG3.out (fun b hb he => by have := (HA3.out.1 b (hb.elim (fun hz => .inl (.inl (.inr hz))) fun hb => hb.elim (fun hz => .inr (.inl (.inl (.inr hz)))) fun hz => .inr (.inr (.inl (.inr hz))))).1; have he : b = w.heap.size + 1 + 1 := he; omega)).up g4)
  have K3 := Lib.hid ((K3.out.keep SG3.out (fun b hb he => by have := (HA3.out.1 b (hb.elim (fun hz => .inl (.inr hz)) fun hb => hb.elim (fun hz => .inr (.inl (.inr hz))) fun hz => .inr (.inr (.inr hz)))).1; have he : b = w.heap.size + 1 + 1 := he; omega)).up g4)
  have K4 := Lib.hid k4
  clear ap4 k4
  have SG4 := Lib.hid (show Chg (fun b => b = w.heap.size + 1 + 1) w4 (w4.setCell ⟨w.heap.size + 1 + 1, 5, none⟩ (.slice B4 x.ls.length d4)) from Chg.setCell (Chg.refl (fun b => b = w.heap.size + 1 + 1) _) (p := ⟨w.heap.size + 1 + 1, 5, none⟩) (.inl rfl) _)
  have US4 := Lib.hid (show Up w (w4.setCell ⟨w.heap.size + 1 + 1, 5, none⟩ (.slice B4 x.ls.length d4)) from Chg.setCell U4.out (.inr (by show w.heap.size ≤ w.heap.size + 1 + 1; omega)) _)
  clear g4
  obtain ⟨x0c, x0f⟩ := x0
  obtain ⟨y0c, y0f⟩ := y0
  obtain ⟨x1c, x1f⟩ := x1
  obtain ⟨y1c, y1f⟩ := y1
  obtain ⟨x2c, x2f⟩ := x2
  obtain ⟨y2c, y2f⟩ := y2
  obtain ⟨x3c, x3f⟩ := x3
  obtain ⟨y3c, y3f⟩ := y3
  obtain ⟨x4c, x4f⟩ := x4
  obtain ⟨y4c, y4f⟩ := y4
  obtain ⟨x5c, x5f⟩ := x5
  obtain ⟨y5c, y5f⟩ := y5
  obtain ⟨x6c, x6f⟩ := x6
  obtain ⟨y6c, y6f⟩ := y6
  have x0 := Lib.hid (show CellF _ _ _ from ⟨x0c, x0f⟩)
  have y0 := Lib.hid (show CellF _ _ _ from ⟨y0c, y0f⟩)
  have x1 := Lib.hid (show CellF _ _ _ from ⟨x1c, x1f⟩)
  have y1 := Lib.hid (show CellF _ _ _ from ⟨y1c, y1f⟩)
  have x2 := Lib.hid (show CellF _ _ _ from ⟨x2c, x2f⟩)
  have y2 := Lib.hid (show CellF _ _ _ from ⟨y2c, y2f⟩)
  have x3 := Lib.hid (show CellF _ _ _ from ⟨x3c, x3f⟩)
  have y3 := Lib.hid (show CellF _ _ _ from ⟨y3c, y3f⟩)
  have x4 := Lib.hid (show CellF _ _ _ from ⟨x4c, x4f⟩)
  have y4 := Lib.hid (show CellF _ _ _ from ⟨y4c, y4f⟩)
  have x5 := Lib.hid (show CellF _ _ _ from ⟨x5c, x5f⟩)
  have y5 := Lib.hid (show CellF _ _ _ from ⟨y5c, y5f⟩)
  have x6 := Lib.hid (show CellF _ _ _ from ⟨x6c, x6f⟩)
  have y6 := Lib.hid (show CellF _ _ _ from ⟨y6c, y6f⟩)
  go_wp2_with fail
  refine (toIntsL_any _ M H L _ x.dr (by omega) (H4.out.up (US4.out))).mono ?_
  rintro e w5 ⟨v5, M5, H5', L5, rfl, ap5, k5, g5⟩
  obtain ⟨B5, d5, rfl, hl5, hc5, -⟩ := k5.shape
  have U5 := Lib.hid (Chg.trans US4.out g5)
  have hs5 : w4.heap.size ≤ w5.heap.size := by have := g5.size; simpa using this
  have HA5 : Hid (ApartN (w.heap.size + 1 + 1 + 1) w5.heap.size (Un (Un (Un (Un M1 M2) (M3)) (M4)) (M5)) (Un (Un (Un (Un H1' H2') (H3')) (H4')) (H5')) (Un (Un (Un (Un L1 L2) (L3)) (L4)) (L5))) := Lib.hid (ApartN.un HA4.out (by simpa using ap5) (by omega) (by omega))
  have q6 := Chg.cell (Chg.trans SG4.out (Chg.of_up g5)) q6 (fun he => by have he : w.heap.size = w.heap.size + 1 + 1 := he; omega)
  have x0 := CellF.up g5 (CellF.set_ne (q := ⟨w.heap.size + 1 + 1, 5, none⟩) (x := .slice B4 x.ls.length d4) x0 (by simp))
  have x1 := CellF.up g5 (CellF.set_ne (q := ⟨w.heap.size + 1 + 1, 5, none⟩) (x := .slice B4 x.ls.length d4) x1 (by simp))
  have x2 := CellF.up g5 (CellF.set_ne (q := ⟨w.heap.size + 1 + 1, 5, none⟩) (x := .slice B4 x.ls.length d4) x2 (by simp))
  have x3 := CellF.up g5 (CellF.set_ne (q := ⟨w.heap.size + 1 + 1, 5, none⟩) (x := .slice B4 x.ls.length d4) x3 (by simp))
  have x4 := CellF.up g5 (CellF.set_ne (q := ⟨w.heap.size + 1 + 1, 5, none⟩) (x := .slice B4 x.ls.length d4) x4 (by simp))
  have x5 := CellF.up g5 (CellF.set (u := .slice B4 x.ls.length d4) x5)
  have x6 := CellF.up g5 (CellF.set_ne (q := ⟨w.heap.size + 1 + 1, 5, none⟩) (x := .slice B4 x.ls.length d4) x6 (by simp))
  have y0 := CellF.up g5 (CellF.set_ne (q := ⟨w.heap.size + 1 + 1, 5, none⟩) (x := .slice B4 x.ls.length d4) y0 (by simp))
  have y1 := CellF.up g5 (CellF.set_ne (q := ⟨w.heap.size + 1 + 1, 5, none⟩) (x := .slice B4 x.ls.length d4) y1 (by simp))
  have y2 := CellF.up g5 (CellF.set_ne (q := ⟨w.heap.size + 1 + 1, 5, none⟩) (x := .slice B4 x.ls.length d4) y2 (by simp))
  have y3 := CellF.up g5 (CellF.set_ne (q := ⟨w.heap.size + 1 + 1, 5, none⟩) (x := .slice B4 x.ls.length d4) y3 (by simp))
  have y4 := CellF.up g5 (CellF.set_ne (q := ⟨w.heap.size + 1 + 1, 5, none⟩) (x := .slice B4 x.ls.length d4) y4 (by simp))
  have y5 := CellF.up g5 (CellF.set_ne (q := ⟨w.heap.size + 1 + 1, 5, none⟩) (x := .slice B4 x.ls.length d4) y5 (by simp))
  have y6 := CellF.up g5 (CellF.set_ne (q := ⟨w.heap.size + 1 + 1, 5, none⟩) (x := .slice B4 x.ls.length d4) y6 (by simp))
  have K1 := Lib.hid ((K1.out.keep SG4.out (fun b hb he => by have := (HA4.out.1 b (hb.elim (fun hz => .inl (.inl (.inl (.inl hz)))) fun hb => hb.elim (fun hz => .inr (.inl (.inl (.inl (.inl hz))))) fun hz => .inr (.inr (.inl (.inl (.inl hz)))))).1; have he : b = w.heap.size + 1 + 1 := he; omega)).up g5)
  have K2 := Lib.hid ((K2.out.keep SG4.out (fun b hb he => by have := (HA4.out.1 b (hb.elim (fun hz => .inl (.inl (.inl (.inr hz)))) fun hb => hb.elim (fun hz => .inr (.inl (.inl (.inl (.inr hz))))) fun hz => .inr (.inr (.inl (.inl (.inr hz)))))).1; have he : b = w.heap.size + 1 + 1 := he; omega)).up g5)
  have K3 := Lib.hid ((K3.out.keep SG4.out (fun b hb he => by have := (HA4.out.1 b (hb.elim (fun hz => .inl (.inl (.inr hz))) fun hb => hb.elim (fun hz => .inr (.inl (.inl (.inr hz)))) fun hz => .inr (.inr (.inl (.inr hz))))).1; have he : b = w.heap.size + 1 + 1 := he; omega)).up g5)
  have K4 := Lib.hid ((K4.out.keep SG4.out (fun b hb he => by have := (HA4.out.1 b (hb.elim (fun hz => .inl (.inr hz)) fun hb => hb.elim (fun hz => .inr (.inl (.inr hz))) fun hz => .inr (.inr (.inr hz)))).1; have he : b = w.heap.size + 1 + 1 := he; omega)).up g5)
  have K5 := Lib.hid k5
  clear ap5 k5
  clear g5
  obtain ⟨x0c, x0f⟩ := x0
  obtain ⟨y0c, y0f⟩ := y0
  obtain ⟨x1c, x1f⟩ := x1
  obtain ⟨y1c, y1f⟩ := y1
  obtain ⟨x2c, x2f⟩ := x2
  obtain ⟨y2c, y2f⟩ := y2
  obtain ⟨x3c, x3f⟩ := x3
  obtain ⟨y3c, y3f⟩ := y3
  obtain ⟨x4c, x4f⟩ := x4
  obtain ⟨y4c, y4f⟩ := y4
  obtain ⟨x5c, x5f⟩ := x5
  obtain ⟨y5c, y5f⟩ := y5
  obtain ⟨x6c, x6f⟩ := x6
  obtain ⟨y6c, y6f⟩ := y6
  go_wp2
  have HC := Lib.hid (show Chg (fun b => b = w.heap.size + 1 ∨ b = w.heap.size + 1 + 1) w5 _ from Chg.setCell (Chg.setCell (Chg.setCell (Chg.setCell (Chg.setCell (Chg.setCell (Chg.setCell (Chg.setCell (Chg.refl _ _) (p := ⟨w.heap.size + 1 + 1, 6, none⟩) (.inl (.inr rfl)) (.slice B5 x.dr.length d5)) (p := ⟨w.heap.size + 1, 0, none⟩) (.inl (.inl rfl)) (.int .i64 x.wd)) (p := ⟨w.heap.size + 1, 1, none⟩) (.inl (.inl rfl)) (.int .i64 x.rk)) (p := ⟨w.heap.size + 1, 2, none⟩) (.inl (.inl rfl)) (.slice B1 x.fr.length d1)) (p := ⟨w.heap.size + 1, 3, none⟩) (.inl (.inl rfl)) (.slice B2 x.bk.length d2)) (p := ⟨w.heap.size + 1, 4, none⟩) (.inl (.inl rfl)) (.slice B3 x.cs.length d3)) (p := ⟨w.heap.size + 1, 5, none⟩) (.inl (.inl rfl)) (.slice B4 x.ls.length d4)) (p := ⟨w.heap.size + 1, 6, none⟩) (.inl (.inl rfl)) (.slice B5 x.dr.length d5))
  have HK : Hid (∀ b, b < w.heap.size + 1 + 1 + 1 → ¬ ((Un (Un (Un (Un M1 M2) (M3)) (M4)) (M5)) b ∨ (Un (Un (Un (Un H1' H2') (H3')) (H4')) (H5')) b ∨ (Un (Un (Un (Un L1 L2) (L3)) (L4)) (L5)) b)) := Lib.hid fun b hb h => by have := (HA5.out.1 b h).1; omega
  exact bodyPost_ret (v := .agg #[.int .i64 x.wd, .int .i64 x.rk, .slice B1 x.fr.length d1, .slice B2 x.bk.length d2, .slice B3 x.cs.length d3, .slice B4 x.ls.length d4, .slice B5 x.dr.length d5]) (by simp [results, Try.results9, go_sem, y0c, y1c, y2c, y3c, y4c, y5c, y6c]) rfl ⟨_, _, _, _, rfl, HA5.out.widen (by omega) (by have := HC.out.size; omega), ⟨_, _, _, _, _, _, _, _, _, _, rfl, (K1.out.keep HC.out (fun b hb hd => HK.out b (by omega) (hb.elim (fun hz => .inl (.inl (.inl (.inl (.inl hz))))) fun hb => hb.elim (fun hz => .inr (.inl (.inl (.inl (.inl (.inl hz)))))) fun hz => .inr (.inr (.inl (.inl (.inl (.inl hz)))))))).mono (fun b _ hb => .inl (.inl (.inl (.inl hb)))) (fun b _ hb => .inl (.inl (.inl (.inl hb)))) (fun b _ hb => .inl (.inl (.inl (.inl hb)))), (K2.out.keep HC.out (fun b hb hd => HK.out b (by omega) (hb.elim (fun hz => .inl (.inl (.inl (.inl (.inr hz))))) fun hb => hb.elim (fun hz => .inr (.inl (.inl (.inl (.inl (.inr hz)))))) fun hz => .inr (.inr (.inl (.inl (.inl (.inr hz)))))))).mono (fun b _ hb => .inl (.inl (.inl (.inr hb)))) (fun b _ hb => .inl (.inl (.inl (.inr hb)))) (fun b _ hb => .inl (.inl (.inl (.inr hb)))), (K3.out.keep HC.out (fun b hb hd => HK.out b (by omega) (hb.elim (fun hz => .inl (.inl (.inl (.inr hz)))) fun hb => hb.elim (fun hz => .inr (.inl (.inl (.inl (.inr hz))))) fun hz => .inr (.inr (.inl (.inl (.inr hz))))))).mono (fun b _ hb => .inl (.inl (.inr hb))) (fun b _ hb => .inl (.inl (.inr hb))) (fun b _ hb => .inl (.inl (.inr hb))), (K4.out.keep HC.out (fun b hb hd => HK.out b (by omega) (hb.elim (fun hz => .inl (.inl (.inr hz))) fun hb => hb.elim (fun hz => .inr (.inl (.inl (.inr hz)))) fun hz => .inr (.inr (.inl (.inr hz)))))).mono (fun b _ hb => .inl (.inr hb)) (fun b _ hb => .inl (.inr hb)) (fun b _ hb => .inl (.inr hb)), (K5.out.keep HC.out (fun b hb hd => HK.out b (by omega) (hb.elim (fun hz => .inl (.inr hz)) fun hb => hb.elim (fun hz => .inr (.inl (.inr hz))) fun hz => .inr (.inr (.inr hz))))).mono (fun b _ hb => .inr hb) (fun b _ hb => .inr hb) (fun b _ hb => .inr hb), ⟨hl1, hc1⟩, ⟨hl2, hc2⟩, ⟨hl3, hc3⟩, ⟨hl4, hc4⟩, ⟨hl5, hc5⟩, H10.out, H11.out⟩, Chg.new U5.out HC.out (fun i hi hd => by omega)⟩
theorem eqMac_same (w : World) (M H L M' H' L' : Nat → Prop) (v u : Value) (x : MacM) (hv : MacV w M H L v x) (hu : MacV w M' H' L' u x) :
    Calls Try.prog 12 #[v, u] w fun e w' => e = .returned (.bool true) ∧ Up w w' := by
  obtain ⟨A0, c0, A1, c1, A2, c2, A3, c3, A4, c4, rfl, h0, h1, h2, h3, h4, h5, h6, h7, h8, h9, h10, h11⟩ := hv
  obtain ⟨B0, d0, B1, d1, B2, d2, B3, d3, B4, d4, rfl, g0, g1, g2, g3, g4, g5, g6, g7, g8, g9, g10, g11⟩ := hu
  have U0 := Lib.hid (show Up w ((w.alloc (.cells #[.int .i64 x.wd, .int .i64 x.rk, .slice A0 x.fr.length c0, .slice A1 x.bk.length c1, .slice A2 x.cs.length c2, .slice A3 x.ls.length c3, .slice A4 x.dr.length c4] 35)).alloc (.cells #[.int .i64 x.wd, .int .i64 x.rk, .slice B0 x.fr.length d0, .slice B1 x.bk.length d1, .slice B2 x.cs.length d2, .slice B3 x.ls.length d3, .slice B4 x.dr.length d4] 35)) from (by repeat (first | exact Chg.refl _ _ | apply Chg.drew | apply Chg.drewN | refine Chg.alloc ?_ _)))
  have H0 := Lib.hid (h0.up U0.out)
  have G0 := Lib.hid (g0.up U0.out)
  have H1 := Lib.hid (h1.up U0.out)
  have G1 := Lib.hid (g1.up U0.out)
  have H2 := Lib.hid (h2.up U0.out)
  have G2 := Lib.hid (g2.up U0.out)
  have H3 := Lib.hid (h3.up U0.out)
  have G3 := Lib.hid (g3.up U0.out)
  have H4 := Lib.hid (h4.up U0.out)
  have G4 := Lib.hid (g4.up U0.out)
  clear h0 h1 h2 h3 h4 h5 h6 h7 h8 h9 h10 h11 g0 g1 g2 g3 g4 g5 g6 g7 g8 g9 g10 g11
  have e0 : (x.wd != x.wd) = false := by simp
  have e1 : (x.rk != x.rk) = false := by simp
  have q0 := Chg.cell ((Chg.refl Nowhere (w.alloc (.cells #[.int .i64 x.wd, .int .i64 x.rk, .slice A0 x.fr.length c0, .slice A1 x.bk.length c1, .slice A2 x.cs.length c2, .slice A3 x.ls.length c3, .slice A4 x.dr.length c4] 35))).alloc (.cells #[.int .i64 x.wd, .int .i64 x.rk, .slice B0 x.fr.length d0, .slice B1 x.bk.length d1, .slice B2 x.cs.length d2, .slice B3 x.ls.length d3, .slice B4 x.dr.length d4] 35)) (show (w.alloc (.cells #[.int .i64 x.wd, .int .i64 x.rk, .slice A0 x.fr.length c0, .slice A1 x.bk.length c1, .slice A2 x.cs.length c2, .slice A3 x.ls.length c3, .slice A4 x.dr.length c4] 35)).cell? ⟨w.heap.size, 0, none⟩ = some (.int .i64 x.wd) from cell_new _ _ _ _) id
  have q1 := Chg.cell ((Chg.refl Nowhere (w.alloc (.cells #[.int .i64 x.wd, .int .i64 x.rk, .slice A0 x.fr.length c0, .slice A1 x.bk.length c1, .slice A2 x.cs.length c2, .slice A3 x.ls.length c3, .slice A4 x.dr.length c4] 35))).alloc (.cells #[.int .i64 x.wd, .int .i64 x.rk, .slice B0 x.fr.length d0, .slice B1 x.bk.length d1, .slice B2 x.cs.length d2, .slice B3 x.ls.length d3, .slice B4 x.dr.length d4] 35)) (show (w.alloc (.cells #[.int .i64 x.wd, .int .i64 x.rk, .slice A0 x.fr.length c0, .slice A1 x.bk.length c1, .slice A2 x.cs.length c2, .slice A3 x.ls.length c3, .slice A4 x.dr.length c4] 35)).cell? ⟨w.heap.size, 1, none⟩ = some (.int .i64 x.rk) from cell_new _ _ _ _) id
  have q2 := Chg.cell ((Chg.refl Nowhere (w.alloc (.cells #[.int .i64 x.wd, .int .i64 x.rk, .slice A0 x.fr.length c0, .slice A1 x.bk.length c1, .slice A2 x.cs.length c2, .slice A3 x.ls.length c3, .slice A4 x.dr.length c4] 35))).alloc (.cells #[.int .i64 x.wd, .int .i64 x.rk, .slice B0 x.fr.length d0, .slice B1 x.bk.length d1, .slice B2 x.cs.length d2, .slice B3 x.ls.length d3, .slice B4 x.dr.length d4] 35)) (show (w.alloc (.cells #[.int .i64 x.wd, .int .i64 x.rk, .slice A0 x.fr.length c0, .slice A1 x.bk.length c1, .slice A2 x.cs.length c2, .slice A3 x.ls.length c3, .slice A4 x.dr.length c4] 35)).cell? ⟨w.heap.size, 2, none⟩ = some (.slice A0 x.fr.length c0) from cell_new _ _ _ _) id
  have q3 := Chg.cell ((Chg.refl Nowhere (w.alloc (.cells #[.int .i64 x.wd, .int .i64 x.rk, .slice A0 x.fr.length c0, .slice A1 x.bk.length c1, .slice A2 x.cs.length c2, .slice A3 x.ls.length c3, .slice A4 x.dr.length c4] 35))).alloc (.cells #[.int .i64 x.wd, .int .i64 x.rk, .slice B0 x.fr.length d0, .slice B1 x.bk.length d1, .slice B2 x.cs.length d2, .slice B3 x.ls.length d3, .slice B4 x.dr.length d4] 35)) (show (w.alloc (.cells #[.int .i64 x.wd, .int .i64 x.rk, .slice A0 x.fr.length c0, .slice A1 x.bk.length c1, .slice A2 x.cs.length c2, .slice A3 x.ls.length c3, .slice A4 x.dr.length c4] 35)).cell? ⟨w.heap.size, 3, none⟩ = some (.slice A1 x.bk.length c1) from cell_new _ _ _ _) id
  have q4 := Chg.cell ((Chg.refl Nowhere (w.alloc (.cells #[.int .i64 x.wd, .int .i64 x.rk, .slice A0 x.fr.length c0, .slice A1 x.bk.length c1, .slice A2 x.cs.length c2, .slice A3 x.ls.length c3, .slice A4 x.dr.length c4] 35))).alloc (.cells #[.int .i64 x.wd, .int .i64 x.rk, .slice B0 x.fr.length d0, .slice B1 x.bk.length d1, .slice B2 x.cs.length d2, .slice B3 x.ls.length d3, .slice B4 x.dr.length d4] 35)) (show (w.alloc (.cells #[.int .i64 x.wd, .int .i64 x.rk, .slice A0 x.fr.length c0, .slice A1 x.bk.length c1, .slice A2 x.cs.length c2, .slice A3 x.ls.length c3, .slice A4 x.dr.length c4] 35)).cell? ⟨w.heap.size, 4, none⟩ = some (.slice A2 x.cs.length c2) from cell_new _ _ _ _) id
  have q5 := Chg.cell ((Chg.refl Nowhere (w.alloc (.cells #[.int .i64 x.wd, .int .i64 x.rk, .slice A0 x.fr.length c0, .slice A1 x.bk.length c1, .slice A2 x.cs.length c2, .slice A3 x.ls.length c3, .slice A4 x.dr.length c4] 35))).alloc (.cells #[.int .i64 x.wd, .int .i64 x.rk, .slice B0 x.fr.length d0, .slice B1 x.bk.length d1, .slice B2 x.cs.length d2, .slice B3 x.ls.length d3, .slice B4 x.dr.length d4] 35)) (show (w.alloc (.cells #[.int .i64 x.wd, .int .i64 x.rk, .slice A0 x.fr.length c0, .slice A1 x.bk.length c1, .slice A2 x.cs.length c2, .slice A3 x.ls.length c3, .slice A4 x.dr.length c4] 35)).cell? ⟨w.heap.size, 5, none⟩ = some (.slice A3 x.ls.length c3) from cell_new _ _ _ _) id
  have q6 := Chg.cell ((Chg.refl Nowhere (w.alloc (.cells #[.int .i64 x.wd, .int .i64 x.rk, .slice A0 x.fr.length c0, .slice A1 x.bk.length c1, .slice A2 x.cs.length c2, .slice A3 x.ls.length c3, .slice A4 x.dr.length c4] 35))).alloc (.cells #[.int .i64 x.wd, .int .i64 x.rk, .slice B0 x.fr.length d0, .slice B1 x.bk.length d1, .slice B2 x.cs.length d2, .slice B3 x.ls.length d3, .slice B4 x.dr.length d4] 35)) (show (w.alloc (.cells #[.int .i64 x.wd, .int .i64 x.rk, .slice A0 x.fr.length c0, .slice A1 x.bk.length c1, .slice A2 x.cs.length c2, .slice A3 x.ls.length c3, .slice A4 x.dr.length c4] 35)).cell? ⟨w.heap.size, 6, none⟩ = some (.slice A4 x.dr.length c4) from cell_new _ _ _ _) id
  have p0 := (show ((w.alloc (.cells #[.int .i64 x.wd, .int .i64 x.rk, .slice A0 x.fr.length c0, .slice A1 x.bk.length c1, .slice A2 x.cs.length c2, .slice A3 x.ls.length c3, .slice A4 x.dr.length c4] 35)).alloc (.cells #[.int .i64 x.wd, .int .i64 x.rk, .slice B0 x.fr.length d0, .slice B1 x.bk.length d1, .slice B2 x.cs.length d2, .slice B3 x.ls.length d3, .slice B4 x.dr.length d4] 35)).cell? ⟨w.heap.size + 1, 0, none⟩ = some (.int .i64 x.wd) from (cellF_at (by simp) rfl).1)
  have p1 := (show ((w.alloc (.cells #[.int .i64 x.wd, .int .i64 x.rk, .slice A0 x.fr.length c0, .slice A1 x.bk.length c1, .slice A2 x.cs.length c2, .slice A3 x.ls.length c3, .slice A4 x.dr.length c4] 35)).alloc (.cells #[.int .i64 x.wd, .int .i64 x.rk, .slice B0 x.fr.length d0, .slice B1 x.bk.length d1, .slice B2 x.cs.length d2, .slice B3 x.ls.length d3, .slice B4 x.dr.length d4] 35)).cell? ⟨w.heap.size + 1, 1, none⟩ = some (.int .i64 x.rk) from (cellF_at (by simp) rfl).1)
  have p2 := (show ((w.alloc (.cells #[.int .i64 x.wd, .int .i64 x.rk, .slice A0 x.fr.length c0, .slice A1 x.bk.length c1, .slice A2 x.cs.length c2, .slice A3 x.ls.length c3, .slice A4 x.dr.length c4] 35)).alloc (.cells #[.int .i64 x.wd, .int .i64 x.rk, .slice B0 x.fr.length d0, .slice B1 x.bk.length d1, .slice B2 x.cs.length d2, .slice B3 x.ls.length d3, .slice B4 x.dr.length d4] 35)).cell? ⟨w.heap.size + 1, 2, none⟩ = some (.slice B0 x.fr.length d0) from (cellF_at (by simp) rfl).1)
  have p3 := (show ((w.alloc (.cells #[.int .i64 x.wd, .int .i64 x.rk, .slice A0 x.fr.length c0, .slice A1 x.bk.length c1, .slice A2 x.cs.length c2, .slice A3 x.ls.length c3, .slice A4 x.dr.length c4] 35)).alloc (.cells #[.int .i64 x.wd, .int .i64 x.rk, .slice B0 x.fr.length d0, .slice B1 x.bk.length d1, .slice B2 x.cs.length d2, .slice B3 x.ls.length d3, .slice B4 x.dr.length d4] 35)).cell? ⟨w.heap.size + 1, 3, none⟩ = some (.slice B1 x.bk.length d1) from (cellF_at (by simp) rfl).1)
  have p4 := (show ((w.alloc (.cells #[.int .i64 x.wd, .int .i64 x.rk, .slice A0 x.fr.length c0, .slice A1 x.bk.length c1, .slice A2 x.cs.length c2, .slice A3 x.ls.length c3, .slice A4 x.dr.length c4] 35)).alloc (.cells #[.int .i64 x.wd, .int .i64 x.rk, .slice B0 x.fr.length d0, .slice B1 x.bk.length d1, .slice B2 x.cs.length d2, .slice B3 x.ls.length d3, .slice B4 x.dr.length d4] 35)).cell? ⟨w.heap.size + 1, 4, none⟩ = some (.slice B2 x.cs.length d2) from (cellF_at (by simp) rfl).1)
  have p5 := (show ((w.alloc (.cells #[.int .i64 x.wd, .int .i64 x.rk, .slice A0 x.fr.length c0, .slice A1 x.bk.length c1, .slice A2 x.cs.length c2, .slice A3 x.ls.length c3, .slice A4 x.dr.length c4] 35)).alloc (.cells #[.int .i64 x.wd, .int .i64 x.rk, .slice B0 x.fr.length d0, .slice B1 x.bk.length d1, .slice B2 x.cs.length d2, .slice B3 x.ls.length d3, .slice B4 x.dr.length d4] 35)).cell? ⟨w.heap.size + 1, 5, none⟩ = some (.slice B3 x.ls.length d3) from (cellF_at (by simp) rfl).1)
  have p6 := (show ((w.alloc (.cells #[.int .i64 x.wd, .int .i64 x.rk, .slice A0 x.fr.length c0, .slice A1 x.bk.length c1, .slice A2 x.cs.length c2, .slice A3 x.ls.length c3, .slice A4 x.dr.length c4] 35)).alloc (.cells #[.int .i64 x.wd, .int .i64 x.rk, .slice B0 x.fr.length d0, .slice B1 x.bk.length d1, .slice B2 x.cs.length d2, .slice B3 x.ls.length d3, .slice B4 x.dr.length d4] 35)).cell? ⟨w.heap.size + 1, 6, none⟩ = some (.slice B4 x.dr.length d4) from (cellF_at (by simp) rfl).1)
  go_enter Try.func12, Try.ntmps12
  go_wp2_with fail
  refine (eqIntSSV_same _ M H L M' H' L' _ _ x.fr (H0.out.up (by repeat (first | exact Chg.refl _ _ | apply Chg.drew | apply Chg.drewN | refine Chg.alloc ?_ _))) (G0.out.up (by repeat (first | exact Chg.refl _ _ | apply Chg.drew | apply Chg.drewN | refine Chg.alloc ?_ _)))).mono ?_
  rintro e w1 ⟨rfl, g1⟩
  have GX := Lib.hid (Chg.trans (by repeat (first | exact Chg.refl _ _ | apply Chg.drew | apply Chg.drewN | refine Chg.alloc ?_ _)) g1)
  clear g1
  have U1 := Lib.hid (Chg.trans U0.out GX.out)
  clear U0
  have H1 := Lib.hid (H1.out.up GX.out)
  have G1 := Lib.hid (G1.out.up GX.out)
  have H2 := Lib.hid (H2.out.up GX.out)
  have G2 := Lib.hid (G2.out.up GX.out)
  have H3 := Lib.hid (H3.out.up GX.out)
  have G3 := Lib.hid (G3.out.up GX.out)
  have H4 := Lib.hid (H4.out.up GX.out)
  have G4 := Lib.hid (G4.out.up GX.out)
  have q0 := Chg.cell GX.out q0 id
  have p0 := Chg.cell GX.out p0 id
  have q1 := Chg.cell GX.out q1 id
  have p1 := Chg.cell GX.out p1 id
  have q2 := Chg.cell GX.out q2 id
  have p2 := Chg.cell GX.out p2 id
  have q3 := Chg.cell GX.out q3 id
  have p3 := Chg.cell GX.out p3 id
  have q4 := Chg.cell GX.out q4 id
  have p4 := Chg.cell GX.out p4 id
  have q5 := Chg.cell GX.out q5 id
  have p5 := Chg.cell GX.out p5 id
  have q6 := Chg.cell GX.out q6 id
  have p6 := Chg.cell GX.out p6 id
  clear GX
  go_wp2_with fail
  refine (eqIntSSV_same _ M H L M' H' L' _ _ x.bk (H1.out.up (by repeat (first | exact Chg.refl _ _ | apply Chg.drew | apply Chg.drewN | refine Chg.alloc ?_ _))) (G1.out.up (by repeat (first | exact Chg.refl _ _ | apply Chg.drew | apply Chg.drewN | refine Chg.alloc ?_ _)))).mono ?_
  rintro e w2 ⟨rfl, g1⟩
  have GX := Lib.hid (Chg.trans (by repeat (first | exact Chg.refl _ _ | apply Chg.drew | apply Chg.drewN | refine Chg.alloc ?_ _)) g1)
  clear g1
  have U2 := Lib.hid (Chg.trans U1.out GX.out)
  clear U1
  have H2 := Lib.hid (H2.out.up GX.out)
  have G2 := Lib.hid (G2.out.up GX.out)
  have H3 := Lib.hid (H3.out.up GX.out)
  have G3 := Lib.hid (G3.out.up GX.out)
  have H4 := Lib.hid (H4.out.up GX.out)
  have G4 := Lib.hid (G4.out.up GX.out)
  have q0 := Chg.cell GX.out q0 id
  have p0 := Chg.cell GX.out p0 id
  have q1 := Chg.cell GX.out q1 id
  have p1 := Chg.cell GX.out p1 id
  have q2 := Chg.cell GX.out q2 id
  have p2 := Chg.cell GX.out p2 id
  have q3 := Chg.cell GX.out q3 id
  have p3 := Chg.cell GX.out p3 id
  have q4 := Chg.cell GX.out q4 id
  have p4 := Chg.cell GX.out p4 id
  have q5 := Chg.cell GX.out q5 id
  have p5 := Chg.cell GX.out p5 id
  have q6 := Chg.cell GX.out q6 id
  have p6 := Chg.cell GX.out p6 id
  clear GX
  go_wp2_with fail
  refine (eqCarsL_same _ M H L M' H' L' _ _ x.cs (H2.out.up (by repeat (first | exact Chg.refl _ _ | apply Chg.drew | apply Chg.drewN | refine Chg.alloc ?_ _))) (G2.out.up (by repeat (first | exact Chg.refl _ _ | apply Chg.drew | apply Chg.drewN | refine Chg.alloc ?_ _)))).mono ?_
  rintro e w3 ⟨rfl, g1⟩
  have GX := Lib.hid (Chg.trans (by repeat (first | exact Chg.refl _ _ | apply Chg.drew | apply Chg.drewN | refine Chg.alloc ?_ _)) g1)
  clear g1
  have U3 := Lib.hid (Chg.trans U2.out GX.out)
  clear U2
  have H3 := Lib.hid (H3.out.up GX.out)
  have G3 := Lib.hid (G3.out.up GX.out)
  have H4 := Lib.hid (H4.out.up GX.out)
  have G4 := Lib.hid (G4.out.up GX.out)
  have q0 := Chg.cell GX.out q0 id
  have p0 := Chg.cell GX.out p0 id
  have q1 := Chg.cell GX.out q1 id
  have p1 := Chg.cell GX.out p1 id
  have q2 := Chg.cell GX.out q2 id
  have p2 := Chg.cell GX.out p2 id
  have q3 := Chg.cell GX.out q3 id
  have p3 := Chg.cell GX.out p3 id
  have q4 := Chg.cell GX.out q4 id
  have p4 := Chg.cell GX.out p4 id
  have q5 := Chg.cell GX.out q5 id
  have p5 := Chg.cell GX.out p5 id
  have q6 := Chg.cell GX.out q6 id
  have p6 := Chg.cell GX.out p6 id
  clear GX
  go_wp2_with fail
  refine (eqInfoSV_same _ M H L M' H' L' _ _ x.ls (H3.out.up (by repeat (first | exact Chg.refl _ _ | apply Chg.drew | apply Chg.drewN | refine Chg.alloc ?_ _))) (G3.out.up (by repeat (first | exact Chg.refl _ _ | apply Chg.drew | apply Chg.drewN | refine Chg.alloc ?_ _)))).mono ?_
  rintro e w4 ⟨rfl, g1⟩
  have GX := Lib.hid (Chg.trans (by repeat (first | exact Chg.refl _ _ | apply Chg.drew | apply Chg.drewN | refine Chg.alloc ?_ _)) g1)
  clear g1
  have U4 := Lib.hid (Chg.trans U3.out GX.out)
  clear U3
  have H4 := Lib.hid (H4.out.up GX.out)
  have G4 := Lib.hid (G4.out.up GX.out)
  have q0 := Chg.cell GX.out q0 id
  have p0 := Chg.cell GX.out p0 id
  have q1 := Chg.cell GX.out q1 id
  have p1 := Chg.cell GX.out p1 id
  have q2 := Chg.cell GX.out q2 id
  have p2 := Chg.cell GX.out p2 id
  have q3 := Chg.cell GX.out q3 id
  have p3 := Chg.cell GX.out p3 id
  have q4 := Chg.cell GX.out q4 id
  have p4 := Chg.cell GX.out p4 id
  have q5 := Chg.cell GX.out q5 id
  have p5 := Chg.cell GX.out p5 id
  have q6 := Chg.cell GX.out q6 id
  have p6 := Chg.cell GX.out p6 id
  clear GX
  go_wp2_with fail
  refine (eqIntsL_same _ M H L M' H' L' _ _ x.dr (H4.out.up (by repeat (first | exact Chg.refl _ _ | apply Chg.drew | apply Chg.drewN | refine Chg.alloc ?_ _))) (G4.out.up (by repeat (first | exact Chg.refl _ _ | apply Chg.drew | apply Chg.drewN | refine Chg.alloc ?_ _)))).mono ?_
  rintro e w5 ⟨rfl, g1⟩
  have GX := Lib.hid (Chg.trans (by repeat (first | exact Chg.refl _ _ | apply Chg.drew | apply Chg.drewN | refine Chg.alloc ?_ _)) g1)
  clear g1
  have U5 := Lib.hid (Chg.trans U4.out GX.out)
  clear U4
  have q0 := Chg.cell GX.out q0 id
  have p0 := Chg.cell GX.out p0 id
  have q1 := Chg.cell GX.out q1 id
  have p1 := Chg.cell GX.out p1 id
  have q2 := Chg.cell GX.out q2 id
  have p2 := Chg.cell GX.out p2 id
  have q3 := Chg.cell GX.out q3 id
  have p3 := Chg.cell GX.out p3 id
  have q4 := Chg.cell GX.out q4 id
  have p4 := Chg.cell GX.out p4 id
  have q5 := Chg.cell GX.out q5 id
  have p5 := Chg.cell GX.out p5 id
  have q6 := Chg.cell GX.out q6 id
  have p6 := Chg.cell GX.out p6 id
  clear GX
  go_wp2
  go_ret
  exact ⟨rfl, Chg.trans U5.out (by repeat (first | exact Chg.refl _ _ | apply Chg.drew | apply Chg.drewN | refine Chg.alloc ?_ _))⟩
end Go.Proofs.Ytchfjglofmphfaa
end
namespace Go.Proofs.Ytchfjglofmphfaa
open Go.ChangeShapes Go.WideShapes Go.ChangeAt Go.RowKit
def bedB (b : Int) : Bool := decide (b = 1 ∨ b = 2)
def placeB (a : Int) : Bool := decide (0 ≤ a ∧ a ≤ 23)
def needleB (b a : Int) : Bool := bedB b && placeB a
def dirB (d : Int) : Bool := decide (d = 1 ∨ d = -1)
def carB (c : Int) : Bool := decide (1 ≤ c ∧ c ≤ 4)
def rackB (r : Int) : Bool := decide (-3 ≤ r ∧ r ≤ 3)
theorem isBed_any (n : Int) (w : World) : Calls Try.prog 164 #[.int .i64 n] w fun e w' => e = .returned (.bool (bedB n)) ∧ w = w' := by
  by_cases h1 : n = 1
  · subst h1
    go_enter Try.func164, Try.ntmps164
    go_wp2
    go_ret
    exact ⟨rfl, rfl⟩
  · have e1 : (n == 1) = false := by simpa using h1
    by_cases h2 : n = 2
    · subst h2
      go_enter Try.func164, Try.ntmps164
      go_wp2
      go_ret
      exact ⟨rfl, rfl⟩
    · have e2 : (n == 2) = false := by simpa using h2
      rw [show bedB n = false from decide_eq_false (by omega)]
      clear h1 h2
      go_enter Try.func164, Try.ntmps164
      go_wp2
      go_ret
      exact ⟨rfl, rfl⟩
theorem l01Bed_any (n : Int) (w : World) : Calls Try.prog 158 #[.int .i64 n] w fun e w' => e = .returned (.bool (bedB n)) ∧ w = w' := by
  by_cases h : n = 1 ∨ n = 2
  · rw [show bedB n = true from decide_eq_true h]
    have h' : 1 ≤ n ∧ n ≤ 2 := by omega
    clear h
    go_enter Try.func158, Try.ntmps158
    go_wp2_with (first | (go_at_call 47; refine (l00In_yes _ _ _ _ ?_).mono ?_; (omega); rintro e w' ⟨rfl, rfl⟩))
    go_ret
    exact ⟨rfl, rfl⟩
  · rw [show bedB n = false from decide_eq_false h]
    have h' : n < 1 ∨ 2 < n := by omega
    clear h
    go_enter Try.func158, Try.ntmps158
    go_wp2_with (first | (go_at_call 47; refine (l00In_no _ _ _ _ ?_).mono ?_; (omega); rintro e w' ⟨rfl, rfl⟩))
    go_ret
    exact ⟨rfl, rfl⟩
theorem l01Needle_any (w : World) (b a : Int) : Calls Try.prog 176 #[.agg #[.int .i64 b, .int .i64 a]] w fun e w' => e = .returned (.bool (needleB b a)) ∧ ∃ o, w' = w.alloc o := by
  cases h1 : bedB b
  · skip
    rw [show needleB b a = false by simp [needleB, h1]]
    go_enter Try.func176, Try.ntmps176
    go_wp2_with (first | (go_at_call 158; refine (l01Bed_any _ _).mono ?_; rintro e w' ⟨rfl, rfl⟩; rw [h1]))
    go_ret
    exact ⟨rfl, _, rfl⟩
  · cases h2 : placeB a
    · have h3 : a < 0 ∨ 23 < a := by have := of_decide_eq_false h2; omega
      rw [show needleB b a = false by simp [needleB, h1, h2]]
      go_enter Try.func176, Try.ntmps176
      go_wp2_with (first | (go_at_call 158; refine (l01Bed_any _ _).mono ?_; rintro e w' ⟨rfl, rfl⟩; rw [h1]) | (go_at_call 47; refine (l00In_no _ _ _ _ ?_).mono ?_; (omega); rintro e w' ⟨rfl, rfl⟩))
      go_ret
      exact ⟨rfl, _, rfl⟩
    · have h3 := of_decide_eq_true h2
      rw [show needleB b a = true by simp [needleB, h1, h2]]
      go_enter Try.func176, Try.ntmps176
      go_wp2_with (first | (go_at_call 158; refine (l01Bed_any _ _).mono ?_; rintro e w' ⟨rfl, rfl⟩; rw [h1]) | (go_at_call 47; refine (l00In_yes _ _ _ _ ?_).mono ?_; (omega); rintro e w' ⟨rfl, rfl⟩))
      go_ret
      exact ⟨rfl, _, rfl⟩
theorem isDirection_any (n : Int) (w : World) : Calls Try.prog 165 #[.int .i64 n] w fun e w' => e = .returned (.bool (dirB n)) ∧ w = w' := by
  cases h : dirB n
  · have h1 := of_decide_eq_false h
    exact isDirection_no n w (by omega)
  · have h1 := of_decide_eq_true h
    exact isDirection_yes n w (by omega)
theorem l07Dir_any (n : Int) (w : World) : Calls Try.prog 159 #[.int .i64 n] w fun e w' => e = .returned (.bool (dirB n)) ∧ w = w' := by
  cases h : dirB n
  · have h1 := of_decide_eq_false h
    exact l07Dir_no n w (by omega)
  · have h1 := of_decide_eq_true h
    exact l07Dir_yes n w (by omega)
theorem isCarrier_any (n : Int) (w : World) : Calls Try.prog 80 #[.int .i64 n] w fun e w' => e = .returned (.bool (carB n)) ∧ w = w' := by
  cases h : carB n
  · have h1 := of_decide_eq_false h
    exact isCarrier_no n w (by omega)
  · have h1 := of_decide_eq_true h
    exact isCarrier_yes n w (by omega)
theorem l07Yarn_any (n : Int) (w : World) : Calls Try.prog 119 #[.int .i64 n] w fun e w' => e = .returned (.bool (carB n)) ∧ w = w' := by
  cases h : carB n
  · have h1 := of_decide_eq_false h
    exact l07Yarn_no n w (by omega)
  · have h1 := of_decide_eq_true h
    exact l07Yarn_yes n w (by omega)
theorem isRack_any (n : Int) (w : World) : Calls Try.prog 55 #[.int .i64 n] w fun e w' => e = .returned (.bool (rackB n)) ∧ w = w' := by
  cases h : rackB n
  · have h1 := of_decide_eq_false h
    exact isRack_no n w (by omega)
  · have h1 := of_decide_eq_true h
    exact isRack_yes n w (by omega)
/-- what operations are valid -/
def validB (x : OpM) : Bool :=
  if x.kind = 1 ∨ x.kind = 2 ∨ x.kind = 3 then dirB x.dir && needleB x.fb x.fa && carB x.car && x.tb == 0 && x.ta == 0 && x.rack == 0
  else if x.kind = 4 then needleB x.fb x.fa && needleB x.tb x.ta && x.fb != x.tb && x.dir == 0 && x.car == 0 && x.rack == 0
  else if x.kind = 5 then needleB x.fb x.fa && needleB x.tb x.ta && x.fb != x.tb && dirB x.dir && carB x.car && x.rack == 0
  else if x.kind = 6 then needleB x.fb x.fa && x.dir == 0 && x.tb == 0 && x.ta == 0 && x.car == 0 && x.rack == 0
  else if x.kind = 7 then rackB x.rack && x.dir == 0 && x.fb == 0 && x.fa == 0 && x.tb == 0 && x.ta == 0 && x.car == 0
  else if x.kind = 8 then dirB x.dir && carB x.car && x.fb == 0 && x.fa == 0 && x.tb == 0 && x.ta == 0 && x.rack == 0
  else if x.kind = 9 then carB x.car && x.dir == 0 && x.fb == 0 && x.fa == 0 && x.tb == 0 && x.ta == 0 && x.rack == 0
  else false
end Go.Proofs.Ytchfjglofmphfaa
