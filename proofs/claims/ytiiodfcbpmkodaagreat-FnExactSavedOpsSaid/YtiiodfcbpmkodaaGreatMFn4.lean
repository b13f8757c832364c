/- The program's code of an operation on a machine. No condition. -/
import Derived.Test.YtiiodfcbpmkodaaGreatMFn3
set_option linter.unusedSimpArgs false
set_option linter.unusedVariables false
set_option maxRecDepth 100000
set_option maxHeartbeats 8000000
namespace Go.Proofs.YtiiodfcbpmkodaaGreat
open Go.ChangeShapes Go.WideShapes Go.ChangeAt Go.RowKit
attribute [local go_sem ↓] Go.wp_at_zero Go.wp_at_succ
theorem carrierFits_b (w : World) {S : Nat → Prop} {K p : Nat} {m : MachM} {F B C L D : Value} {fs bs : List Value} (h : MachX w S K p m F B C L D fs bs) (hi : MInv m) (x : OpM) (hx : okOp m.wd x) (f : Bool) (hf : fitsM m x = f) :
    Calls Tryz.prog 88 #[.pointer (some ⟨p, 0, none⟩), x.val] w fun e w' => e = .returned (.bool f) ∧ Up w w' := by
  subst hf; exact carrierFits_any w h hi x hx
theorem makesLoop_b (w : World) (k : Int) (f : Bool) (hf : makesB k = f) : Calls Tryz.prog 84 #[.int .i64 k] w fun e w' => e = .returned (.bool f) ∧ w = w' := by
  subst hf; exact makesLoop_any w k
theorem facing_b (w : World) (p : Nat) (wd r b a b2 a2 : Int) (f : Bool) (h0 : CellU w ⟨p, 0, none⟩ (.int .i64 wd)) (h1 : CellU w ⟨p, 1, none⟩ (.int .i64 r)) (hb : b = 1 ∨ b = 2) (ha : 0 ≤ a ∧ a ≤ 100) (hr : -3 ≤ r ∧ r ≤ 3) (hw : 1 ≤ wd ∧ wd ≤ 24) (e1 : 3 - b = b2) (e2 : faceM b a r = a2) (e3 : inB a2 0 (wd - 1) = f) :
    Calls Tryz.prog 89 #[.pointer (some ⟨p, 0, none⟩), .agg #[.int .i64 b, .int .i64 a]] w fun e w' => e = .returned (.tuple #[.agg #[.int .i64 b2, .int .i64 a2], .bool f]) ∧ Up w w' := by
  subst e1 e2 e3; exact facing_any w p wd r b a h0 h1 hb ha hr hw
theorem opCode_1_fit (w : World) {S : Nat → Prop} {K p : Nat} {m : MachM} {F B C L D : Value} {fs bs : List Value} (h : MachX w S K p m F B C L D fs bs) (hi : MInv m) (d fb fa tb ta car rk : Int) (hx : okOp m.wd ⟨1, d, fb, fa, tb, ta, car, rk⟩)  (hfit : fitsM m ⟨1, d, fb, fa, tb, ta, car, rk⟩ = false) :
    Calls Tryz.prog 79 #[.pointer (some ⟨p, 0, none⟩), .agg #[.int .i64 1, .int .i64 d, .int .i64 fb, .int .i64 fa, .int .i64 tb, .int .i64 ta, .int .i64 car, .int .i64 rk]] w fun e w' => e = .returned (.int .i64 (codeM m ⟨1, d, fb, fa, tb, ta, car, rk⟩)) ∧ Up w w' := by
  have hc := valid_cases hx.1
  have hx1 := hx.2.1
  have hx2 := hx.2.2
  dsimp only at hc hx1 hx2
  have hr := hi.rack
  have hw := hi.wd
  have hn := hi.nl
  have hC : codeM m ⟨1, d, fb, fa, tb, ta, car, rk⟩ = 9 := by simp [codeM, makesB, hfit]
  rw [hC]
  clear hC
  have y1 : decide (m.wd ≤ fa) = false := decide_eq_false (by omega)
  have y2 : decide (m.wd ≤ ta) = false := decide_eq_false (by omega)
  obtain ⟨csL, hL⟩ := h.l
  obtain ⟨A5, c5, rfl, hl5, hc5, -⟩ := ownsRow_shape hL
  clear hL hl5 hc5
  have X := Lib.hid (h)
  have U := Lib.hid ((Chg.refl Nowhere w))
  have cw := h.c0.1
  have cl := h.c5.1
  have Hx := Lib.hid hx
  have Hi := Lib.hid hi
  have Hf := Lib.hid hfit
  clear hc hx hi hr hw hfit h hx1 hx2 hn
  replace X := Lib.hid (X.out.up ((Chg.refl Nowhere w).alloc (.cells #[.int .i64 1, .int .i64 d, .int .i64 fb, .int .i64 fa, .int .i64 tb, .int .i64 ta, .int .i64 car, .int .i64 rk] 44)))
  replace U := Lib.hid (Chg.trans U.out ((Chg.refl Nowhere w).alloc (.cells #[.int .i64 1, .int .i64 d, .int .i64 fb, .int .i64 fa, .int .i64 tb, .int .i64 ta, .int .i64 car, .int .i64 rk] 44)))
  replace cw := Chg.cell ((Chg.refl Nowhere w).alloc (.cells #[.int .i64 1, .int .i64 d, .int .i64 fb, .int .i64 fa, .int .i64 tb, .int .i64 ta, .int .i64 car, .int .i64 rk] 44)) cw id
  replace cl := Chg.cell ((Chg.refl Nowhere w).alloc (.cells #[.int .i64 1, .int .i64 d, .int .i64 fb, .int .i64 fa, .int .i64 tb, .int .i64 ta, .int .i64 car, .int .i64 rk] 44)) cl id
  obtain ⟨b0, b1, b2, b3, b4, b5, b6, b7⟩ := box8 w (.int .i64 1) (.int .i64 d) (.int .i64 fb) (.int .i64 fa) (.int .i64 tb) (.int .i64 ta) (.int .i64 car) (.int .i64 rk) 44
  have hbx17 : w.heap.size < (w.alloc (.cells #[.int .i64 1, .int .i64 d, .int .i64 fb, .int .i64 fa, .int .i64 tb, .int .i64 ta, .int .i64 car, .int .i64 rk] 44)).heap.size := by simp
  go_enter Tryz.func79, Tryz.ntmps79
  go_wp2
  have qcw_7 := up_cell cw
  have qb3_12 := up_cell b3
  have qb5_14 := up_cell b5
  refine wp_region_up (by kernel_rfl) (by kernel_rfl) ?_
  repeat (go_big_quiet_step (fail))
  refine wpQuiet_nil ?_
  rintro u ⟨u0, hu⟩
  have gu := hu ▸ u0.up
  clear hu u0
  have hzu18 := gu.size
  clear qcw_7
  clear qb3_12
  clear qb5_14
  replace X := Lib.hid (X.out.up (tt gu))
  replace U := Lib.hid (Chg.trans U.out (tt gu))
  have hh := cc8 (tt gu) cw cl b0 b1 b2 b3 b4 b5
  clear cw cl b0 b1 b2 b3 b4 b5
  obtain ⟨cw, cl, b0, b1, b2, b3, b4, b5⟩ := hh
  replace b6 := Chg.cell (tt gu) b6 id
  replace b7 := Chg.cell (tt gu) b7 id
  clear gu
  go_wp2_with fail
  refine (carrierFits_b _ X.out Hi.out ⟨1, d, fb, fa, tb, ta, car, rk⟩ Hx.out false Hf.out).mono ?_
  rintro e w31 ⟨rfl, g1⟩
  have G1 := Lib.hid g1
  have hz31 := G1.out.size
  clear g1
  replace X := Lib.hid (X.out.up (tt G1.out))
  replace U := Lib.hid (Chg.trans U.out (tt G1.out))
  have hh := cc8 (tt G1.out) cw cl b0 b1 b2 b3 b4 b5
  clear cw cl b0 b1 b2 b3 b4 b5
  obtain ⟨cw, cl, b0, b1, b2, b3, b4, b5⟩ := hh
  replace b6 := Chg.cell (tt G1.out) b6 id
  replace b7 := Chg.cell (tt G1.out) b7 id
  clear G1
  clear Hf
  all_goals go_wp2
  all_goals go_ret
  all_goals exact ⟨rfl, (Chg.trans U.out (by repeat (first | exact Chg.refl _ _ | apply Chg.drew | apply Chg.drewN | refine Chg.alloc ?_ _)))⟩
theorem opCode_1_full (w : World) {S : Nat → Prop} {K p : Nat} {m : MachM} {F B C L D : Value} {fs bs : List Value} (h : MachX w S K p m F B C L D fs bs) (hi : MInv m) (d fb fa tb ta car rk : Int) (hx : okOp m.wd ⟨1, d, fb, fa, tb, ta, car, rk⟩) (hfit : fitsM m ⟨1, d, fb, fa, tb, ta, car, rk⟩ = true) (hfull : m.nl = 300) :
    Calls Tryz.prog 79 #[.pointer (some ⟨p, 0, none⟩), .agg #[.int .i64 1, .int .i64 d, .int .i64 fb, .int .i64 fa, .int .i64 tb, .int .i64 ta, .int .i64 car, .int .i64 rk]] w fun e w' => e = .returned (.int .i64 (codeM m ⟨1, d, fb, fa, tb, ta, car, rk⟩)) ∧ Up w w' := by
  have hc := valid_cases hx.1
  have hx1 := hx.2.1
  have hx2 := hx.2.2
  dsimp only at hc hx1 hx2
  have hr := hi.rack
  have hw := hi.wd
  have hn := hi.nl
  have hC : codeM m ⟨1, d, fb, fa, tb, ta, car, rk⟩ = 5 := by simp [codeM, makesB, hfit, hfull]
  rw [hC]
  clear hC
  have y1 : decide (m.wd ≤ fa) = false := decide_eq_false (by omega)
  have y2 : decide (m.wd ≤ ta) = false := decide_eq_false (by omega)
  obtain ⟨csL, hL⟩ := h.l
  obtain ⟨A5, c5, rfl, hl5, hc5, -⟩ := ownsRow_shape hL
  clear hL hl5 hc5
  have X := Lib.hid (h)
  have U := Lib.hid ((Chg.refl Nowhere w))
  have cw := h.c0.1
  have cl := h.c5.1
  have y3 : ((m.nl : Int) == 300) = true := by simpa using (show (m.nl : Int) = 300 by omega)
  have Hx := Lib.hid hx
  have Hi := Lib.hid hi
  have Hf := Lib.hid hfit
  clear hc hx hi hr hw hfit h hx1 hx2 hn
  clear hfull
  replace X := Lib.hid (X.out.up ((Chg.refl Nowhere w).alloc (.cells #[.int .i64 1, .int .i64 d, .int .i64 fb, .int .i64 fa, .int .i64 tb, .int .i64 ta, .int .i64 car, .int .i64 rk] 44)))
  replace U := Lib.hid (Chg.trans U.out ((Chg.refl Nowhere w).alloc (.cells #[.int .i64 1, .int .i64 d, .int .i64 fb, .int .i64 fa, .int .i64 tb, .int .i64 ta, .int .i64 car, .int .i64 rk] 44)))
  replace cw := Chg.cell ((Chg.refl Nowhere w).alloc (.cells #[.int .i64 1, .int .i64 d, .int .i64 fb, .int .i64 fa, .int .i64 tb, .int .i64 ta, .int .i64 car, .int .i64 rk] 44)) cw id
  replace cl := Chg.cell ((Chg.refl Nowhere w).alloc (.cells #[.int .i64 1, .int .i64 d, .int .i64 fb, .int .i64 fa, .int .i64 tb, .int .i64 ta, .int .i64 car, .int .i64 rk] 44)) cl id
  obtain ⟨b0, b1, b2, b3, b4, b5, b6, b7⟩ := box8 w (.int .i64 1) (.int .i64 d) (.int .i64 fb) (.int .i64 fa) (.int .i64 tb) (.int .i64 ta) (.int .i64 car) (.int .i64 rk) 44
  have hbx17 : w.heap.size < (w.alloc (.cells #[.int .i64 1, .int .i64 d, .int .i64 fb, .int .i64 fa, .int .i64 tb, .int .i64 ta, .int .i64 car, .int .i64 rk] 44)).heap.size := by simp
  go_enter Tryz.func79, Tryz.ntmps79
  go_wp2
  have qcw_7 := up_cell cw
  have qb3_12 := up_cell b3
  have qb5_14 := up_cell b5
  refine wp_region_up (by kernel_rfl) (by kernel_rfl) ?_
  repeat (go_big_quiet_step (fail))
  refine wpQuiet_nil ?_
  rintro u ⟨u0, hu⟩
  have gu := hu ▸ u0.up
  clear hu u0
  have hzu18 := gu.size
  clear qcw_7
  clear qb3_12
  clear qb5_14
  replace X := Lib.hid (X.out.up (tt gu))
  replace U := Lib.hid (Chg.trans U.out (tt gu))
  have hh := cc8 (tt gu) cw cl b0 b1 b2 b3 b4 b5
  clear cw cl b0 b1 b2 b3 b4 b5
  obtain ⟨cw, cl, b0, b1, b2, b3, b4, b5⟩ := hh
  replace b6 := Chg.cell (tt gu) b6 id
  replace b7 := Chg.cell (tt gu) b7 id
  clear gu
  go_wp2_with fail
  refine (carrierFits_b _ X.out Hi.out ⟨1, d, fb, fa, tb, ta, car, rk⟩ Hx.out true Hf.out).mono ?_
  rintro e w31 ⟨rfl, g1⟩
  have G1 := Lib.hid g1
  have hz31 := G1.out.size
  clear g1
  replace X := Lib.hid (X.out.up (tt G1.out))
  replace U := Lib.hid (Chg.trans U.out (tt G1.out))
  have hh := cc8 (tt G1.out) cw cl b0 b1 b2 b3 b4 b5
  clear cw cl b0 b1 b2 b3 b4 b5
  obtain ⟨cw, cl, b0, b1, b2, b3, b4, b5⟩ := hh
  replace b6 := Chg.cell (tt G1.out) b6 id
  replace b7 := Chg.cell (tt G1.out) b7 id
  clear G1
  clear Hf
  go_wp2_with fail
  refine (makesLoop_b _ 1 true (by unfold makesB; simp)).mono ?_
  rintro e w' ⟨rfl, rfl⟩
  all_goals go_wp2
  all_goals go_ret
  all_goals exact ⟨rfl, (Chg.trans U.out (by repeat (first | exact Chg.refl _ _ | apply Chg.drew | apply Chg.drewN | refine Chg.alloc ?_ _)))⟩
theorem opCode_1_ok (w : World) {S : Nat → Prop} {K p : Nat} {m : MachM} {F B C L D : Value} {fs bs : List Value} (h : MachX w S K p m F B C L D fs bs) (hi : MInv m) (d fb fa tb ta car rk : Int) (hx : okOp m.wd ⟨1, d, fb, fa, tb, ta, car, rk⟩) (hfit : fitsM m ⟨1, d, fb, fa, tb, ta, car, rk⟩ = true) (hfull : m.nl ≠ 300) :
    Calls Tryz.prog 79 #[.pointer (some ⟨p, 0, none⟩), .agg #[.int .i64 1, .int .i64 d, .int .i64 fb, .int .i64 fa, .int .i64 tb, .int .i64 ta, .int .i64 car, .int .i64 rk]] w fun e w' => e = .returned (.int .i64 (codeM m ⟨1, d, fb, fa, tb, ta, car, rk⟩)) ∧ Up w w' := by
  have hc := valid_cases hx.1
  have hx1 := hx.2.1
  have hx2 := hx.2.2
  dsimp only at hc hx1 hx2
  have hr := hi.rack
  have hw := hi.wd
  have hn := hi.nl
  have hC : codeM m ⟨1, d, fb, fa, tb, ta, car, rk⟩ = 0 := by simp [codeM, makesB, hfit, hfull]
  rw [hC]
  clear hC
  have y1 : decide (m.wd ≤ fa) = false := decide_eq_false (by omega)
  have y2 : decide (m.wd ≤ ta) = false := decide_eq_false (by omega)
  obtain ⟨csL, hL⟩ := h.l
  obtain ⟨A5, c5, rfl, hl5, hc5, -⟩ := ownsRow_shape hL
  clear hL hl5 hc5
  have X := Lib.hid (h)
  have U := Lib.hid ((Chg.refl Nowhere w))
  have cw := h.c0.1
  have cl := h.c5.1
  have y3 : ((m.nl : Int) == 300) = false := by simpa using (show ¬ (m.nl : Int) = 300 by omega)
  have Hx := Lib.hid hx
  have Hi := Lib.hid hi
  have Hf := Lib.hid hfit
  clear hc hx hi hr hw hfit h hx1 hx2 hn
  clear hfull
  replace X := Lib.hid (X.out.up ((Chg.refl Nowhere w).alloc (.cells #[.int .i64 1, .int .i64 d, .int .i64 fb, .int .i64 fa, .int .i64 tb, .int .i64 ta, .int .i64 car, .int .i64 rk] 44)))
  replace U := Lib.hid (Chg.trans U.out ((Chg.refl Nowhere w).alloc (.cells #[.int .i64 1, .int .i64 d, .int .i64 fb, .int .i64 fa, .int .i64 tb, .int .i64 ta, .int .i64 car, .int .i64 rk] 44)))
  replace cw := Chg.cell ((Chg.refl Nowhere w).alloc (.cells #[.int .i64 1, .int .i64 d, .int .i64 fb, .int .i64 fa, .int .i64 tb, .int .i64 ta, .int .i64 car, .int .i64 rk] 44)) cw id
  replace cl := Chg.cell ((Chg.refl Nowhere w).alloc (.cells #[.int .i64 1, .int .i64 d, .int .i64 fb, .int .i64 fa, .int .i64 tb, .int .i64 ta, .int .i64 car, .int .i64 rk] 44)) cl id
  obtain ⟨b0, b1, b2, b3, b4, b5, b6, b7⟩ := box8 w (.int .i64 1) (.int .i64 d) (.int .i64 fb) (.int .i64 fa) (.int .i64 tb) (.int .i64 ta) (.int .i64 car) (.int .i64 rk) 44
  have hbx17 : w.heap.size < (w.alloc (.cells #[.int .i64 1, .int .i64 d, .int .i64 fb, .int .i64 fa, .int .i64 tb, .int .i64 ta, .int .i64 car, .int .i64 rk] 44)).heap.size := by simp
  go_enter Tryz.func79, Tryz.ntmps79
  go_wp2
  have qcw_7 := up_cell cw
  have qb3_12 := up_cell b3
  have qb5_14 := up_cell b5
  refine wp_region_up (by kernel_rfl) (by kernel_rfl) ?_
  repeat (go_big_quiet_step (fail))
  refine wpQuiet_nil ?_
  rintro u ⟨u0, hu⟩
  have gu := hu ▸ u0.up
  clear hu u0
  have hzu18 := gu.size
  clear qcw_7
  clear qb3_12
  clear qb5_14
  replace X := Lib.hid (X.out.up (tt gu))
  replace U := Lib.hid (Chg.trans U.out (tt gu))
  have hh := cc8 (tt gu) cw cl b0 b1 b2 b3 b4 b5
  clear cw cl b0 b1 b2 b3 b4 b5
  obtain ⟨cw, cl, b0, b1, b2, b3, b4, b5⟩ := hh
  replace b6 := Chg.cell (tt gu) b6 id
  replace b7 := Chg.cell (tt gu) b7 id
  clear gu
  go_wp2_with fail
  refine (carrierFits_b _ X.out Hi.out ⟨1, d, fb, fa, tb, ta, car, rk⟩ Hx.out true Hf.out).mono ?_
  rintro e w31 ⟨rfl, g1⟩
  have G1 := Lib.hid g1
  have hz31 := G1.out.size
  clear g1
  replace X := Lib.hid (X.out.up (tt G1.out))
  replace U := Lib.hid (Chg.trans U.out (tt G1.out))
  have hh := cc8 (tt G1.out) cw cl b0 b1 b2 b3 b4 b5
  clear cw cl b0 b1 b2 b3 b4 b5
  obtain ⟨cw, cl, b0, b1, b2, b3, b4, b5⟩ := hh
  replace b6 := Chg.cell (tt G1.out) b6 id
  replace b7 := Chg.cell (tt G1.out) b7 id
  clear G1
  clear Hf
  go_wp2_with fail
  refine (makesLoop_b _ 1 true (by unfold makesB; simp)).mono ?_
  rintro e w' ⟨rfl, rfl⟩
  all_goals go_wp2
  all_goals go_ret
  all_goals exact ⟨rfl, (Chg.trans U.out (by repeat (first | exact Chg.refl _ _ | apply Chg.drew | apply Chg.drewN | refine Chg.alloc ?_ _)))⟩
theorem opCode_2_fit (w : World) {S : Nat → Prop} {K p : Nat} {m : MachM} {F B C L D : Value} {fs bs : List Value} (h : MachX w S K p m F B C L D fs bs) (hi : MInv m) (d fb fa tb ta car rk : Int) (hx : okOp m.wd ⟨2, d, fb, fa, tb, ta, car, rk⟩)  (hfit : fitsM m ⟨2, d, fb, fa, tb, ta, car, rk⟩ = false) :
    Calls Tryz.prog 79 #[.pointer (some ⟨p, 0, none⟩), .agg #[.int .i64 2, .int .i64 d, .int .i64 fb, .int .i64 fa, .int .i64 tb, .int .i64 ta, .int .i64 car, .int .i64 rk]] w fun e w' => e = .returned (.int .i64 (codeM m ⟨2, d, fb, fa, tb, ta, car, rk⟩)) ∧ Up w w' := by
  have hc := valid_cases hx.1
  have hx1 := hx.2.1
  have hx2 := hx.2.2
  dsimp only at hc hx1 hx2
  have hr := hi.rack
  have hw := hi.wd
  have hn := hi.nl
  have hC : codeM m ⟨2, d, fb, fa, tb, ta, car, rk⟩ = 9 := by simp [codeM, makesB, hfit]
  rw [hC]
  clear hC
  have y1 : decide (m.wd ≤ fa) = false := decide_eq_false (by omega)
  have y2 : decide (m.wd ≤ ta) = false := decide_eq_false (by omega)
  obtain ⟨csL, hL⟩ := h.l
  obtain ⟨A5, c5, rfl, hl5, hc5, -⟩ := ownsRow_shape hL
  clear hL hl5 hc5
  have X := Lib.hid (h)
  have U := Lib.hid ((Chg.refl Nowhere w))
  have cw := h.c0.1
  have cl := h.c5.1
  have Hx := Lib.hid hx
  have Hi := Lib.hid hi
  have Hf := Lib.hid hfit
  clear hc hx hi hr hw hfit h hx1 hx2 hn
  replace X := Lib.hid (X.out.up ((Chg.refl Nowhere w).alloc (.cells #[.int .i64 2, .int .i64 d, .int .i64 fb, .int .i64 fa, .int .i64 tb, .int .i64 ta, .int .i64 car, .int .i64 rk] 44)))
  replace U := Lib.hid (Chg.trans U.out ((Chg.refl Nowhere w).alloc (.cells #[.int .i64 2, .int .i64 d, .int .i64 fb, .int .i64 fa, .int .i64 tb, .int .i64 ta, .int .i64 car, .int .i64 rk] 44)))
  replace cw := Chg.cell ((Chg.refl Nowhere w).alloc (.cells #[.int .i64 2, .int .i64 d, .int .i64 fb, .int .i64 fa, .int .i64 tb, .int .i64 ta, .int .i64 car, .int .i64 rk] 44)) cw id
  replace cl := Chg.cell ((Chg.refl Nowhere w).alloc (.cells #[.int .i64 2, .int .i64 d, .int .i64 fb, .int .i64 fa, .int .i64 tb, .int .i64 ta, .int .i64 car, .int .i64 rk] 44)) cl id
  obtain ⟨b0, b1, b2, b3, b4, b5, b6, b7⟩ := box8 w (.int .i64 2) (.int .i64 d) (.int .i64 fb) (.int .i64 fa) (.int .i64 tb) (.int .i64 ta) (.int .i64 car) (.int .i64 rk) 44
  have hbx17 : w.heap.size < (w.alloc (.cells #[.int .i64 2, .int .i64 d, .int .i64 fb, .int .i64 fa, .int .i64 tb, .int .i64 ta, .int .i64 car, .int .i64 rk] 44)).heap.size := by simp
  go_enter Tryz.func79, Tryz.ntmps79
  go_wp2
  have qcw_7 := up_cell cw
  have qb3_12 := up_cell b3
  have qb5_14 := up_cell b5
  refine wp_region_up (by kernel_rfl) (by kernel_rfl) ?_
  repeat (go_big_quiet_step (fail))
  refine wpQuiet_nil ?_
  rintro u ⟨u0, hu⟩
  have gu := hu ▸ u0.up
  clear hu u0
  have hzu18 := gu.size
  clear qcw_7
  clear qb3_12
  clear qb5_14
  replace X := Lib.hid (X.out.up (tt gu))
  replace U := Lib.hid (Chg.trans U.out (tt gu))
  have hh := cc8 (tt gu) cw cl b0 b1 b2 b3 b4 b5
  clear cw cl b0 b1 b2 b3 b4 b5
  obtain ⟨cw, cl, b0, b1, b2, b3, b4, b5⟩ := hh
  replace b6 := Chg.cell (tt gu) b6 id
  replace b7 := Chg.cell (tt gu) b7 id
  clear gu
  go_wp2_with fail
  refine (carrierFits_b _ X.out Hi.out ⟨2, d, fb, fa, tb, ta, car, rk⟩ Hx.out false Hf.out).mono ?_
  rintro e w31 ⟨rfl, g1⟩
  have G1 := Lib.hid g1
  have hz31 := G1.out.size
  clear g1
  replace X := Lib.hid (X.out.up (tt G1.out))
  replace U := Lib.hid (Chg.trans U.out (tt G1.out))
  have hh := cc8 (tt G1.out) cw cl b0 b1 b2 b3 b4 b5
  clear cw cl b0 b1 b2 b3 b4 b5
  obtain ⟨cw, cl, b0, b1, b2, b3, b4, b5⟩ := hh
  replace b6 := Chg.cell (tt G1.out) b6 id
  replace b7 := Chg.cell (tt G1.out) b7 id
  clear G1
  clear Hf
  all_goals go_wp2
  all_goals go_ret
  all_goals exact ⟨rfl, (Chg.trans U.out (by repeat (first | exact Chg.refl _ _ | apply Chg.drew | apply Chg.drewN | refine Chg.alloc ?_ _)))⟩
theorem opCode_2_full (w : World) {S : Nat → Prop} {K p : Nat} {m : MachM} {F B C L D : Value} {fs bs : List Value} (h : MachX w S K p m F B C L D fs bs) (hi : MInv m) (d fb fa tb ta car rk : Int) (hx : okOp m.wd ⟨2, d, fb, fa, tb, ta, car, rk⟩) (hfit : fitsM m ⟨2, d, fb, fa, tb, ta, car, rk⟩ = true) (hfull : m.nl = 300) :
    Calls Tryz.prog 79 #[.pointer (some ⟨p, 0, none⟩), .agg #[.int .i64 2, .int .i64 d, .int .i64 fb, .int .i64 fa, .int .i64 tb, .int .i64 ta, .int .i64 car, .int .i64 rk]] w fun e w' => e = .returned (.int .i64 (codeM m ⟨2, d, fb, fa, tb, ta, car, rk⟩)) ∧ Up w w' := by
  have hc := valid_cases hx.1
  have hx1 := hx.2.1
  have hx2 := hx.2.2
  dsimp only at hc hx1 hx2
  have hr := hi.rack
  have hw := hi.wd
  have hn := hi.nl
  have hC : codeM m ⟨2, d, fb, fa, tb, ta, car, rk⟩ = 5 := by simp [codeM, makesB, hfit, hfull]
  rw [hC]
  clear hC
  have y1 : decide (m.wd ≤ fa) = false := decide_eq_false (by omega)
  have y2 : decide (m.wd ≤ ta) = false := decide_eq_false (by omega)
  obtain ⟨csL, hL⟩ := h.l
  obtain ⟨A5, c5, rfl, hl5, hc5, -⟩ := ownsRow_shape hL
  clear hL hl5 hc5
  have X := Lib.hid (h)
  have U := Lib.hid ((Chg.refl Nowhere w))
  have cw := h.c0.1
  have cl := h.c5.1
  have y3 : ((m.nl : Int) == 300) = true := by simpa using (show (m.nl : Int) = 300 by omega)
  have Hx := Lib.hid hx
  have Hi := Lib.hid hi
  have Hf := Lib.hid hfit
  clear hc hx hi hr hw hfit h hx1 hx2 hn
  clear hfull
  replace X := Lib.hid (X.out.up ((Chg.refl Nowhere w).alloc (.cells #[.int .i64 2, .int .i64 d, .int .i64 fb, .int .i64 fa, .int .i64 tb, .int .i64 ta, .int .i64 car, .int .i64 rk] 44)))
  replace U := Lib.hid (Chg.trans U.out ((Chg.refl Nowhere w).alloc (.cells #[.int .i64 2, .int .i64 d, .int .i64 fb, .int .i64 fa, .int .i64 tb, .int .i64 ta, .int .i64 car, .int .i64 rk] 44)))
  replace cw := Chg.cell ((Chg.refl Nowhere w).alloc (.cells #[.int .i64 2, .int .i64 d, .int .i64 fb, .int .i64 fa, .int .i64 tb, .int .i64 ta, .int .i64 car, .int .i64 rk] 44)) cw id
  replace cl := Chg.cell ((Chg.refl Nowhere w).alloc (.cells #[.int .i64 2, .int .i64 d, .int .i64 fb, .int .i64 fa, .int .i64 tb, .int .i64 ta, .int .i64 car, .int .i64 rk] 44)) cl id
  obtain ⟨b0, b1, b2, b3, b4, b5, b6, b7⟩ := box8 w (.int .i64 2) (.int .i64 d) (.int .i64 fb) (.int .i64 fa) (.int .i64 tb) (.int .i64 ta) (.int .i64 car) (.int .i64 rk) 44
  have hbx17 : w.heap.size < (w.alloc (.cells #[.int .i64 2, .int .i64 d, .int .i64 fb, .int .i64 fa, .int .i64 tb, .int .i64 ta, .int .i64 car, .int .i64 rk] 44)).heap.size := by simp
  go_enter Tryz.func79, Tryz.ntmps79
  go_wp2
  have qcw_7 := up_cell cw
  have qb3_12 := up_cell b3
  have qb5_14 := up_cell b5
  refine wp_region_up (by kernel_rfl) (by kernel_rfl) ?_
  repeat (go_big_quiet_step (fail))
  refine wpQuiet_nil ?_
  rintro u ⟨u0, hu⟩
  have gu := hu ▸ u0.up
  clear hu u0
  have hzu18 := gu.size
  clear qcw_7
  clear qb3_12
  clear qb5_14
  replace X := Lib.hid (X.out.up (tt gu))
  replace U := Lib.hid (Chg.trans U.out (tt gu))
  have hh := cc8 (tt gu) cw cl b0 b1 b2 b3 b4 b5
  clear cw cl b0 b1 b2 b3 b4 b5
  obtain ⟨cw, cl, b0, b1, b2, b3, b4, b5⟩ := hh
  replace b6 := Chg.cell (tt gu) b6 id
  replace b7 := Chg.cell (tt gu) b7 id
  clear gu
  go_wp2_with fail
  refine (carrierFits_b _ X.out Hi.out ⟨2, d, fb, fa, tb, ta, car, rk⟩ Hx.out true Hf.out).mono ?_
  rintro e w31 ⟨rfl, g1⟩
  have G1 := Lib.hid g1
  have hz31 := G1.out.size
  clear g1
  replace X := Lib.hid (X.out.up (tt G1.out))
  replace U := Lib.hid (Chg.trans U.out (tt G1.out))
  have hh := cc8 (tt G1.out) cw cl b0 b1 b2 b3 b4 b5
  clear cw cl b0 b1 b2 b3 b4 b5
  obtain ⟨cw, cl, b0, b1, b2, b3, b4, b5⟩ := hh
  replace b6 := Chg.cell (tt G1.out) b6 id
  replace b7 := Chg.cell (tt G1.out) b7 id
  clear G1
  clear Hf
  go_wp2_with fail
  refine (makesLoop_b _ 2 true (by unfold makesB; simp)).mono ?_
  rintro e w' ⟨rfl, rfl⟩
  all_goals go_wp2
  all_goals go_ret
  all_goals exact ⟨rfl, (Chg.trans U.out (by repeat (first | exact Chg.refl _ _ | apply Chg.drew | apply Chg.drewN | refine Chg.alloc ?_ _)))⟩
theorem opCode_2_four (w : World) {S : Nat → Prop} {K p : Nat} {m : MachM} {F B C L D : Value} {fs bs : List Value} (h : MachX w S K p m F B C L D fs bs) (hi : MInv m) (d fb fa tb ta car rk : Int) (hx : okOp m.wd ⟨2, d, fb, fa, tb, ta, car, rk⟩) (hfit : fitsM m ⟨2, d, fb, fa, tb, ta, car, rk⟩ = true) (hfull : m.nl ≠ 300) (hfour : (onM m fb fa).length = 4) :
    Calls Tryz.prog 79 #[.pointer (some ⟨p, 0, none⟩), .agg #[.int .i64 2, .int .i64 d, .int .i64 fb, .int .i64 fa, .int .i64 tb, .int .i64 ta, .int .i64 car, .int .i64 rk]] w fun e w' => e = .returned (.int .i64 (codeM m ⟨2, d, fb, fa, tb, ta, car, rk⟩)) ∧ Up w w' := by
  have hc := valid_cases hx.1
  have hx1 := hx.2.1
  have hx2 := hx.2.2
  dsimp only at hc hx1 hx2
  have hr := hi.rack
  have hw := hi.wd
  have hn := hi.nl
  have hC : codeM m ⟨2, d, fb, fa, tb, ta, car, rk⟩ = 5 := by simp [codeM, makesB, hfit, hfull, hfour]
  rw [hC]
  clear hC
  have y1 : decide (m.wd ≤ fa) = false := decide_eq_false (by omega)
  have y2 : decide (m.wd ≤ ta) = false := decide_eq_false (by omega)
  obtain ⟨csL, hL⟩ := h.l
  obtain ⟨A5, c5, rfl, hl5, hc5, -⟩ := ownsRow_shape hL
  clear hL hl5 hc5
  have X := Lib.hid (h)
  have U := Lib.hid ((Chg.refl Nowhere w))
  have cw := h.c0.1
  have cl := h.c5.1
  obtain ⟨g, v, hH, -⟩ := h.hold hi (b := fb) (a := fa) ⟨by omega, by omega, by omega⟩
  obtain ⟨Af, cf, rfl, hlf, hcf, -⟩ := hH.own.ints.shape
  have H := Lib.hid (hH)
  have ch := hH.cell.1
  have y3 : ((m.nl : Int) == 300) = false := by simpa using (show ¬ (m.nl : Int) = 300 by omega)
  have y4 : (((onM m fb fa).length : Int) == 4) = true := by simpa using (show ((onM m fb fa).length : Int) = 4 by omega)
  have Hx := Lib.hid hx
  have Hi := Lib.hid hi
  have Hf := Lib.hid hfit
  clear hc hx hi hr hw hfit h hx1 hx2 hn hH
  clear hfull
  clear hfour
  replace X := Lib.hid (X.out.up ((Chg.refl Nowhere w).alloc (.cells #[.int .i64 2, .int .i64 d, .int .i64 fb, .int .i64 fa, .int .i64 tb, .int .i64 ta, .int .i64 car, .int .i64 rk] 44)))
  replace U := Lib.hid (Chg.trans U.out ((Chg.refl Nowhere w).alloc (.cells #[.int .i64 2, .int .i64 d, .int .i64 fb, .int .i64 fa, .int .i64 tb, .int .i64 ta, .int .i64 car, .int .i64 rk] 44)))
  replace cw := Chg.cell ((Chg.refl Nowhere w).alloc (.cells #[.int .i64 2, .int .i64 d, .int .i64 fb, .int .i64 fa, .int .i64 tb, .int .i64 ta, .int .i64 car, .int .i64 rk] 44)) cw id
  replace cl := Chg.cell ((Chg.refl Nowhere w).alloc (.cells #[.int .i64 2, .int .i64 d, .int .i64 fb, .int .i64 fa, .int .i64 tb, .int .i64 ta, .int .i64 car, .int .i64 rk] 44)) cl id
  replace H := Lib.hid (H.out.up ((Chg.refl Nowhere w).alloc (.cells #[.int .i64 2, .int .i64 d, .int .i64 fb, .int .i64 fa, .int .i64 tb, .int .i64 ta, .int .i64 car, .int .i64 rk] 44)))
  replace ch := Chg.cell ((Chg.refl Nowhere w).alloc (.cells #[.int .i64 2, .int .i64 d, .int .i64 fb, .int .i64 fa, .int .i64 tb, .int .i64 ta, .int .i64 car, .int .i64 rk] 44)) ch id
  obtain ⟨b0, b1, b2, b3, b4, b5, b6, b7⟩ := box8 w (.int .i64 2) (.int .i64 d) (.int .i64 fb) (.int .i64 fa) (.int .i64 tb) (.int .i64 ta) (.int .i64 car) (.int .i64 rk) 44
  have hbx21 : w.heap.size < (w.alloc (.cells #[.int .i64 2, .int .i64 d, .int .i64 fb, .int .i64 fa, .int .i64 tb, .int .i64 ta, .int .i64 car, .int .i64 rk] 44)).heap.size := by simp
  go_enter Tryz.func79, Tryz.ntmps79
  go_wp2
  have qcw_9 := up_cell cw
  have qb3_16 := up_cell b3
  have qb5_18 := up_cell b5
  refine wp_region_up (by kernel_rfl) (by kernel_rfl) ?_
  repeat (go_big_quiet_step (fail))
  refine wpQuiet_nil ?_
  rintro u ⟨u0, hu⟩
  have gu := hu ▸ u0.up
  clear hu u0
  have hzu22 := gu.size
  clear qcw_9
  clear qb3_16
  clear qb5_18
  replace X := Lib.hid (X.out.up (tt gu))
  replace U := Lib.hid (Chg.trans U.out (tt gu))
  replace cw := Chg.cell (tt gu) cw id
  replace cl := Chg.cell (tt gu) cl id
  replace H := Lib.hid (H.out.up (tt gu))
  have hh := cc8 (tt gu) ch b0 b1 b2 b3 b4 b5 b6
  clear ch b0 b1 b2 b3 b4 b5 b6
  obtain ⟨ch, b0, b1, b2, b3, b4, b5, b6⟩ := hh
  replace b7 := Chg.cell (tt gu) b7 id
  clear gu
  go_wp2_with fail
  refine (carrierFits_b _ X.out Hi.out ⟨2, d, fb, fa, tb, ta, car, rk⟩ Hx.out true Hf.out).mono ?_
  rintro e w37 ⟨rfl, g1⟩
  have G1 := Lib.hid g1
  have hz37 := G1.out.size
  clear g1
  replace X := Lib.hid (X.out.up (tt G1.out))
  replace U := Lib.hid (Chg.trans U.out (tt G1.out))
  replace cw := Chg.cell (tt G1.out) cw id
  replace cl := Chg.cell (tt G1.out) cl id
  replace H := Lib.hid (H.out.up (tt G1.out))
  have hh := cc8 (tt G1.out) ch b0 b1 b2 b3 b4 b5 b6
  clear ch b0 b1 b2 b3 b4 b5 b6
  obtain ⟨ch, b0, b1, b2, b3, b4, b5, b6⟩ := hh
  replace b7 := Chg.cell (tt G1.out) b7 id
  clear G1
  clear Hf
  go_wp2_with fail
  refine (makesLoop_b _ 2 true (by unfold makesB; simp)).mono ?_
  rintro e w' ⟨rfl, rfl⟩
  go_wp2_with fail
  refine (on_any _ p fb fa g _ _ H.out).mono ?_
  rintro e w53 ⟨rfl, g1⟩
  have G1 := Lib.hid g1
  have hz53 := G1.out.size
  clear g1
  replace X := Lib.hid (X.out.up (tt G1.out))
  replace U := Lib.hid (Chg.trans U.out (tt G1.out))
  replace cw := Chg.cell (tt G1.out) cw id
  replace cl := Chg.cell (tt G1.out) cl id
  replace H := Lib.hid (H.out.up (tt G1.out))
  have hh := cc8 (tt G1.out) ch b0 b1 b2 b3 b4 b5 b6
  clear ch b0 b1 b2 b3 b4 b5 b6
  obtain ⟨ch, b0, b1, b2, b3, b4, b5, b6⟩ := hh
  replace b7 := Chg.cell (tt G1.out) b7 id
  clear G1
  all_goals go_wp2
  all_goals go_ret
  all_goals exact ⟨rfl, (Chg.trans U.out (by repeat (first | exact Chg.refl _ _ | apply Chg.drew | apply Chg.drewN | refine Chg.alloc ?_ _)))⟩
theorem opCode_2_ok (w : World) {S : Nat → Prop} {K p : Nat} {m : MachM} {F B C L D : Value} {fs bs : List Value} (h : MachX w S K p m F B C L D fs bs) (hi : MInv m) (d fb fa tb ta car rk : Int) (hx : okOp m.wd ⟨2, d, fb, fa, tb, ta, car, rk⟩) (hfit : fitsM m ⟨2, d, fb, fa, tb, ta, car, rk⟩ = true) (hfull : m.nl ≠ 300) (hfour : (onM m fb fa).length ≠ 4) :
    Calls Tryz.prog 79 #[.pointer (some ⟨p, 0, none⟩), .agg #[.int .i64 2, .int .i64 d, .int .i64 fb, .int .i64 fa, .int .i64 tb, .int .i64 ta, .int .i64 car, .int .i64 rk]] w fun e w' => e = .returned (.int .i64 (codeM m ⟨2, d, fb, fa, tb, ta, car, rk⟩)) ∧ Up w w' := by
  have hc := valid_cases hx.1
  have hx1 := hx.2.1
  have hx2 := hx.2.2
  dsimp only at hc hx1 hx2
  have hr := hi.rack
  have hw := hi.wd
  have hn := hi.nl
  have hC : codeM m ⟨2, d, fb, fa, tb, ta, car, rk⟩ = 0 := by simp [codeM, makesB, hfit, hfull, hfour]
  rw [hC]
  clear hC
  have y1 : decide (m.wd ≤ fa) = false := decide_eq_false (by omega)
  have y2 : decide (m.wd ≤ ta) = false := decide_eq_false (by omega)
  obtain ⟨csL, hL⟩ := h.l
  obtain ⟨A5, c5, rfl, hl5, hc5, -⟩ := ownsRow_shape hL
  clear hL hl5 hc5
  have X := Lib.hid (h)
  have U := Lib.hid ((Chg.refl Nowhere w))
  have cw := h.c0.1
  have cl := h.c5.1
  obtain ⟨g, v, hH, -⟩ := h.hold hi (b := fb) (a := fa) ⟨by omega, by omega, by omega⟩
  obtain ⟨Af, cf, rfl, hlf, hcf, -⟩ := hH.own.ints.shape
  have H := Lib.hid (hH)
  have ch := hH.cell.1
  have y3 : ((m.nl : Int) == 300) = false := by simpa using (show ¬ (m.nl : Int) = 300 by omega)
  have y4 : (((onM m fb fa).length : Int) == 4) = false := by simpa using (show ¬ ((onM m fb fa).length : Int) = 4 by omega)
  have Hx := Lib.hid hx
  have Hi := Lib.hid hi
  have Hf := Lib.hid hfit
  clear hc hx hi hr hw hfit h hx1 hx2 hn hH
  clear hfull
  clear hfour
  replace X := Lib.hid (X.out.up ((Chg.refl Nowhere w).alloc (.cells #[.int .i64 2, .int .i64 d, .int .i64 fb, .int .i64 fa, .int .i64 tb, .int .i64 ta, .int .i64 car, .int .i64 rk] 44)))
  replace U := Lib.hid (Chg.trans U.out ((Chg.refl Nowhere w).alloc (.cells #[.int .i64 2, .int .i64 d, .int .i64 fb, .int .i64 fa, .int .i64 tb, .int .i64 ta, .int .i64 car, .int .i64 rk] 44)))
  replace cw := Chg.cell ((Chg.refl Nowhere w).alloc (.cells #[.int .i64 2, .int .i64 d, .int .i64 fb, .int .i64 fa, .int .i64 tb, .int .i64 ta, .int .i64 car, .int .i64 rk] 44)) cw id
  replace cl := Chg.cell ((Chg.refl Nowhere w).alloc (.cells #[.int .i64 2, .int .i64 d, .int .i64 fb, .int .i64 fa, .int .i64 tb, .int .i64 ta, .int .i64 car, .int .i64 rk] 44)) cl id
  replace H := Lib.hid (H.out.up ((Chg.refl Nowhere w).alloc (.cells #[.int .i64 2, .int .i64 d, .int .i64 fb, .int .i64 fa, .int .i64 tb, .int .i64 ta, .int .i64 car, .int .i64 rk] 44)))
  replace ch := Chg.cell ((Chg.refl Nowhere w).alloc (.cells #[.int .i64 2, .int .i64 d, .int .i64 fb, .int .i64 fa, .int .i64 tb, .int .i64 ta, .int .i64 car, .int .i64 rk] 44)) ch id
  obtain ⟨b0, b1, b2, b3, b4, b5, b6, b7⟩ := box8 w (.int .i64 2) (.int .i64 d) (.int .i64 fb) (.int .i64 fa) (.int .i64 tb) (.int .i64 ta) (.int .i64 car) (.int .i64 rk) 44
  have hbx21 : w.heap.size < (w.alloc (.cells #[.int .i64 2, .int .i64 d, .int .i64 fb, .int .i64 fa, .int .i64 tb, .int .i64 ta, .int .i64 car, .int .i64 rk] 44)).heap.size := by simp
  go_enter Tryz.func79, Tryz.ntmps79
  go_wp2
  have qcw_9 := up_cell cw
  have qb3_16 := up_cell b3
  have qb5_18 := up_cell b5
  refine wp_region_up (by kernel_rfl) (by kernel_rfl) ?_
  repeat (go_big_quiet_step (fail))
  refine wpQuiet_nil ?_
  rintro u ⟨u0, hu⟩
  have gu := hu ▸ u0.up
  clear hu u0
  have hzu22 := gu.size
  clear qcw_9
  clear qb3_16
  clear qb5_18
  replace X := Lib.hid (X.out.up (tt gu))
  replace U := Lib.hid (Chg.trans U.out (tt gu))
  replace cw := Chg.cell (tt gu) cw id
  replace cl := Chg.cell (tt gu) cl id
  replace H := Lib.hid (H.out.up (tt gu))
  have hh := cc8 (tt gu) ch b0 b1 b2 b3 b4 b5 b6
  clear ch b0 b1 b2 b3 b4 b5 b6
  obtain ⟨ch, b0, b1, b2, b3, b4, b5, b6⟩ := hh
  replace b7 := Chg.cell (tt gu) b7 id
  clear gu
  go_wp2_with fail
  refine (carrierFits_b _ X.out Hi.out ⟨2, d, fb, fa, tb, ta, car, rk⟩ Hx.out true Hf.out).mono ?_
  rintro e w37 ⟨rfl, g1⟩
  have G1 := Lib.hid g1
  have hz37 := G1.out.size
  clear g1
  replace X := Lib.hid (X.out.up (tt G1.out))
  replace U := Lib.hid (Chg.trans U.out (tt G1.out))
  replace cw := Chg.cell (tt G1.out) cw id
  replace cl := Chg.cell (tt G1.out) cl id
  replace H := Lib.hid (H.out.up (tt G1.out))
  have hh := cc8 (tt G1.out) ch b0 b1 b2 b3 b4 b5 b6
  clear ch b0 b1 b2 b3 b4 b5 b6
  obtain ⟨ch, b0, b1, b2, b3, b4, b5, b6⟩ := hh
  replace b7 := Chg.cell (tt G1.out) b7 id
  clear G1
  clear Hf
  go_wp2_with fail
  refine (makesLoop_b _ 2 true (by unfold makesB; simp)).mono ?_
  rintro e w' ⟨rfl, rfl⟩
  go_wp2_with fail
  refine (on_any _ p fb fa g _ _ H.out).mono ?_
  rintro e w53 ⟨rfl, g1⟩
  have G1 := Lib.hid g1
  have hz53 := G1.out.size
  clear g1
  replace X := Lib.hid (X.out.up (tt G1.out))
  replace U := Lib.hid (Chg.trans U.out (tt G1.out))
  replace cw := Chg.cell (tt G1.out) cw id
  replace cl := Chg.cell (tt G1.out) cl id
  replace H := Lib.hid (H.out.up (tt G1.out))
  have hh := cc8 (tt G1.out) ch b0 b1 b2 b3 b4 b5 b6
  clear ch b0 b1 b2 b3 b4 b5 b6
  obtain ⟨ch, b0, b1, b2, b3, b4, b5, b6⟩ := hh
  replace b7 := Chg.cell (tt G1.out) b7 id
  clear G1
  all_goals go_wp2
  all_goals go_ret
  all_goals exact ⟨rfl, (Chg.trans U.out (by repeat (first | exact Chg.refl _ _ | apply Chg.drew | apply Chg.drewN | refine Chg.alloc ?_ _)))⟩
theorem opCode_3_fit (w : World) {S : Nat → Prop} {K p : Nat} {m : MachM} {F B C L D : Value} {fs bs : List Value} (h : MachX w S K p m F B C L D fs bs) (hi : MInv m) (d fb fa tb ta car rk : Int) (hx : okOp m.wd ⟨3, d, fb, fa, tb, ta, car, rk⟩)  (hfit : fitsM m ⟨3, d, fb, fa, tb, ta, car, rk⟩ = false) :
    Calls Tryz.prog 79 #[.pointer (some ⟨p, 0, none⟩), .agg #[.int .i64 3, .int .i64 d, .int .i64 fb, .int .i64 fa, .int .i64 tb, .int .i64 ta, .int .i64 car, .int .i64 rk]] w fun e w' => e = .returned (.int .i64 (codeM m ⟨3, d, fb, fa, tb, ta, car, rk⟩)) ∧ Up w w' := by
  have hc := valid_cases hx.1
  have hx1 := hx.2.1
  have hx2 := hx.2.2
  dsimp only at hc hx1 hx2
  have hr := hi.rack
  have hw := hi.wd
  have hn := hi.nl
  have hC : codeM m ⟨3, d, fb, fa, tb, ta, car, rk⟩ = 9 := by simp [codeM, makesB, hfit]
  rw [hC]
  clear hC
  have y1 : decide (m.wd ≤ fa) = false := decide_eq_false (by omega)
  have y2 : decide (m.wd ≤ ta) = false := decide_eq_false (by omega)
  have X := Lib.hid (h)
  have U := Lib.hid ((Chg.refl Nowhere w))
  have cw := h.c0.1
  have Hx := Lib.hid hx
  have Hi := Lib.hid hi
  have Hf := Lib.hid hfit
  clear hc hx hi hr hw hfit h hx1 hx2 hn
  replace X := Lib.hid (X.out.up ((Chg.refl Nowhere w).alloc (.cells #[.int .i64 3, .int .i64 d, .int .i64 fb, .int .i64 fa, .int .i64 tb, .int .i64 ta, .int .i64 car, .int .i64 rk] 44)))
  replace U := Lib.hid (Chg.trans U.out ((Chg.refl Nowhere w).alloc (.cells #[.int .i64 3, .int .i64 d, .int .i64 fb, .int .i64 fa, .int .i64 tb, .int .i64 ta, .int .i64 car, .int .i64 rk] 44)))
  replace cw := Chg.cell ((Chg.refl Nowhere w).alloc (.cells #[.int .i64 3, .int .i64 d, .int .i64 fb, .int .i64 fa, .int .i64 tb, .int .i64 ta, .int .i64 car, .int .i64 rk] 44)) cw id
  obtain ⟨b0, b1, b2, b3, b4, b5, b6, b7⟩ := box8 w (.int .i64 3) (.int .i64 d) (.int .i64 fb) (.int .i64 fa) (.int .i64 tb) (.int .i64 ta) (.int .i64 car) (.int .i64 rk) 44
  have hbx15 : w.heap.size < (w.alloc (.cells #[.int .i64 3, .int .i64 d, .int .i64 fb, .int .i64 fa, .int .i64 tb, .int .i64 ta, .int .i64 car, .int .i64 rk] 44)).heap.size := by simp
  go_enter Tryz.func79, Tryz.ntmps79
  go_wp2
  have qcw_6 := up_cell cw
  have qb3_10 := up_cell b3
  have qb5_12 := up_cell b5
  refine wp_region_up (by kernel_rfl) (by kernel_rfl) ?_
  repeat (go_big_quiet_step (fail))
  refine wpQuiet_nil ?_
  rintro u ⟨u0, hu⟩
  have gu := hu ▸ u0.up
  clear hu u0
  have hzu16 := gu.size
  clear qcw_6
  clear qb3_10
  clear qb5_12
  replace X := Lib.hid (X.out.up (tt gu))
  replace U := Lib.hid (Chg.trans U.out (tt gu))
  have hh := cc8 (tt gu) cw b0 b1 b2 b3 b4 b5 b6
  clear cw b0 b1 b2 b3 b4 b5 b6
  obtain ⟨cw, b0, b1, b2, b3, b4, b5, b6⟩ := hh
  replace b7 := Chg.cell (tt gu) b7 id
  clear gu
  go_wp2_with fail
  refine (carrierFits_b _ X.out Hi.out ⟨3, d, fb, fa, tb, ta, car, rk⟩ Hx.out false Hf.out).mono ?_
  rintro e w28 ⟨rfl, g1⟩
  have G1 := Lib.hid g1
  have hz28 := G1.out.size
  clear g1
  replace X := Lib.hid (X.out.up (tt G1.out))
  replace U := Lib.hid (Chg.trans U.out (tt G1.out))
  have hh := cc8 (tt G1.out) cw b0 b1 b2 b3 b4 b5 b6
  clear cw b0 b1 b2 b3 b4 b5 b6
  obtain ⟨cw, b0, b1, b2, b3, b4, b5, b6⟩ := hh
  replace b7 := Chg.cell (tt G1.out) b7 id
  clear G1
  clear Hf
  all_goals go_wp2
  all_goals go_ret
  all_goals exact ⟨rfl, (Chg.trans U.out (by repeat (first | exact Chg.refl _ _ | apply Chg.drew | apply Chg.drewN | refine Chg.alloc ?_ _)))⟩
theorem opCode_3_ok (w : World) {S : Nat → Prop} {K p : Nat} {m : MachM} {F B C L D : Value} {fs bs : List Value} (h : MachX w S K p m F B C L D fs bs) (hi : MInv m) (d fb fa tb ta car rk : Int) (hx : okOp m.wd ⟨3, d, fb, fa, tb, ta, car, rk⟩) (hfit : fitsM m ⟨3, d, fb, fa, tb, ta, car, rk⟩ = true) :
    Calls Tryz.prog 79 #[.pointer (some ⟨p, 0, none⟩), .agg #[.int .i64 3, .int .i64 d, .int .i64 fb, .int .i64 fa, .int .i64 tb, .int .i64 ta, .int .i64 car, .int .i64 rk]] w fun e w' => e = .returned (.int .i64 (codeM m ⟨3, d, fb, fa, tb, ta, car, rk⟩)) ∧ Up w w' := by
  have hc := valid_cases hx.1
  have hx1 := hx.2.1
  have hx2 := hx.2.2
  dsimp only at hc hx1 hx2
  have hr := hi.rack
  have hw := hi.wd
  have hn := hi.nl
  have hC : codeM m ⟨3, d, fb, fa, tb, ta, car, rk⟩ = 0 := by simp [codeM, makesB, hfit]
  rw [hC]
  clear hC
  have y1 : decide (m.wd ≤ fa) = false := decide_eq_false (by omega)
  have y2 : decide (m.wd ≤ ta) = false := decide_eq_false (by omega)
  have X := Lib.hid (h)
  have U := Lib.hid ((Chg.refl Nowhere w))
  have cw := h.c0.1
  have Hx := Lib.hid hx
  have Hi := Lib.hid hi
  have Hf := Lib.hid hfit
  clear hc hx hi hr hw hfit h hx1 hx2 hn
  replace X := Lib.hid (X.out.up ((Chg.refl Nowhere w).alloc (.cells #[.int .i64 3, .int .i64 d, .int .i64 fb, .int .i64 fa, .int .i64 tb, .int .i64 ta, .int .i64 car, .int .i64 rk] 44)))
  replace U := Lib.hid (Chg.trans U.out ((Chg.refl Nowhere w).alloc (.cells #[.int .i64 3, .int .i64 d, .int .i64 fb, .int .i64 fa, .int .i64 tb, .int .i64 ta, .int .i64 car, .int .i64 rk] 44)))
  replace cw := Chg.cell ((Chg.refl Nowhere w).alloc (.cells #[.int .i64 3, .int .i64 d, .int .i64 fb, .int .i64 fa, .int .i64 tb, .int .i64 ta, .int .i64 car, .int .i64 rk] 44)) cw id
  obtain ⟨b0, b1, b2, b3, b4, b5, b6, b7⟩ := box8 w (.int .i64 3) (.int .i64 d) (.int .i64 fb) (.int .i64 fa) (.int .i64 tb) (.int .i64 ta) (.int .i64 car) (.int .i64 rk) 44
  have hbx15 : w.heap.size < (w.alloc (.cells #[.int .i64 3, .int .i64 d, .int .i64 fb, .int .i64 fa, .int .i64 tb, .int .i64 ta, .int .i64 car, .int .i64 rk] 44)).heap.size := by simp
  go_enter Tryz.func79, Tryz.ntmps79
  go_wp2
  have qcw_6 := up_cell cw
  have qb3_10 := up_cell b3
  have qb5_12 := up_cell b5
  refine wp_region_up (by kernel_rfl) (by kernel_rfl) ?_
  repeat (go_big_quiet_step (fail))
  refine wpQuiet_nil ?_
  rintro u ⟨u0, hu⟩
  have gu := hu ▸ u0.up
  clear hu u0
  have hzu16 := gu.size
  clear qcw_6
  clear qb3_10
  clear qb5_12
  replace X := Lib.hid (X.out.up (tt gu))
  replace U := Lib.hid (Chg.trans U.out (tt gu))
  have hh := cc8 (tt gu) cw b0 b1 b2 b3 b4 b5 b6
  clear cw b0 b1 b2 b3 b4 b5 b6
  obtain ⟨cw, b0, b1, b2, b3, b4, b5, b6⟩ := hh
  replace b7 := Chg.cell (tt gu) b7 id
  clear gu
  go_wp2_with fail
  refine (carrierFits_b _ X.out Hi.out ⟨3, d, fb, fa, tb, ta, car, rk⟩ Hx.out true Hf.out).mono ?_
  rintro e w28 ⟨rfl, g1⟩
  have G1 := Lib.hid g1
  have hz28 := G1.out.size
  clear g1
  replace X := Lib.hid (X.out.up (tt G1.out))
  replace U := Lib.hid (Chg.trans U.out (tt G1.out))
  have hh := cc8 (tt G1.out) cw b0 b1 b2 b3 b4 b5 b6
  clear cw b0 b1 b2 b3 b4 b5 b6
  obtain ⟨cw, b0, b1, b2, b3, b4, b5, b6⟩ := hh
  replace b7 := Chg.cell (tt G1.out) b7 id
  clear G1
  clear Hf
  go_wp2_with fail
  refine (makesLoop_b _ 3 false (by unfold makesB; simp)).mono ?_
  rintro e w' ⟨rfl, rfl⟩
  all_goals go_wp2
  all_goals go_ret
  all_goals exact ⟨rfl, (Chg.trans U.out (by repeat (first | exact Chg.refl _ _ | apply Chg.drew | apply Chg.drewN | refine Chg.alloc ?_ _)))⟩
theorem opCode_6_none (w : World) {S : Nat → Prop} {K p : Nat} {m : MachM} {F B C L D : Value} {fs bs : List Value} (h : MachX w S K p m F B C L D fs bs) (hi : MInv m) (d fb fa tb ta car rk : Int) (hx : okOp m.wd ⟨6, d, fb, fa, tb, ta, car, rk⟩)  (hnone : (onM m fb fa).length = 0) :
    Calls Tryz.prog 79 #[.pointer (some ⟨p, 0, none⟩), .agg #[.int .i64 6, .int .i64 d, .int .i64 fb, .int .i64 fa, .int .i64 tb, .int .i64 ta, .int .i64 car, .int .i64 rk]] w fun e w' => e = .returned (.int .i64 (codeM m ⟨6, d, fb, fa, tb, ta, car, rk⟩)) ∧ Up w w' := by
  have hc := valid_cases hx.1
  have hx1 := hx.2.1
  have hx2 := hx.2.2
  dsimp only at hc hx1 hx2
  have hr := hi.rack
  have hw := hi.wd
  have hn := hi.nl
  have hfit : fitsM m ⟨6, d, fb, fa, tb, ta, car, rk⟩ = true := by simp [fitsM]
  have hC : codeM m ⟨6, d, fb, fa, tb, ta, car, rk⟩ = 7 := by simp [codeM, makesB, hnone, hfit]
  rw [hC]
  clear hC
  have y1 : decide (m.wd ≤ fa) = false := decide_eq_false (by omega)
  have y2 : decide (m.wd ≤ ta) = false := decide_eq_false (by omega)
  have X := Lib.hid (h)
  have U := Lib.hid ((Chg.refl Nowhere w))
  have cw := h.c0.1
  obtain ⟨g, v, hH, -⟩ := h.hold hi (b := fb) (a := fa) ⟨by omega, by omega, by omega⟩
  obtain ⟨Af, cf, rfl, hlf, hcf, -⟩ := hH.own.ints.shape
  have H := Lib.hid (hH)
  have ch := hH.cell.1
  have y5 : (((onM m fb fa).length : Int) == 0) = true := by simpa using (show ((onM m fb fa).length : Int) = 0 by omega)
  have Hx := Lib.hid hx
  have Hi := Lib.hid hi
  have Hf := Lib.hid hfit
  clear hc hx hi hr hw hfit h hx1 hx2 hn hH
  clear hnone
  replace X := Lib.hid (X.out.up ((Chg.refl Nowhere w).alloc (.cells #[.int .i64 6, .int .i64 d, .int .i64 fb, .int .i64 fa, .int .i64 tb, .int .i64 ta, .int .i64 car, .int .i64 rk] 44)))
  replace U := Lib.hid (Chg.trans U.out ((Chg.refl Nowhere w).alloc (.cells #[.int .i64 6, .int .i64 d, .int .i64 fb, .int .i64 fa, .int .i64 tb, .int .i64 ta, .int .i64 car, .int .i64 rk] 44)))
  replace cw := Chg.cell ((Chg.refl Nowhere w).alloc (.cells #[.int .i64 6, .int .i64 d, .int .i64 fb, .int .i64 fa, .int .i64 tb, .int .i64 ta, .int .i64 car, .int .i64 rk] 44)) cw id
  replace H := Lib.hid (H.out.up ((Chg.refl Nowhere w).alloc (.cells #[.int .i64 6, .int .i64 d, .int .i64 fb, .int .i64 fa, .int .i64 tb, .int .i64 ta, .int .i64 car, .int .i64 rk] 44)))
  replace ch := Chg.cell ((Chg.refl Nowhere w).alloc (.cells #[.int .i64 6, .int .i64 d, .int .i64 fb, .int .i64 fa, .int .i64 tb, .int .i64 ta, .int .i64 car, .int .i64 rk] 44)) ch id
  obtain ⟨b0, b1, b2, b3, b4, b5, b6, b7⟩ := box8 w (.int .i64 6) (.int .i64 d) (.int .i64 fb) (.int .i64 fa) (.int .i64 tb) (.int .i64 ta) (.int .i64 car) (.int .i64 rk) 44
  have hbx19 : w.heap.size < (w.alloc (.cells #[.int .i64 6, .int .i64 d, .int .i64 fb, .int .i64 fa, .int .i64 tb, .int .i64 ta, .int .i64 car, .int .i64 rk] 44)).heap.size := by simp
  go_enter Tryz.func79, Tryz.ntmps79
  go_wp2
  have qcw_8 := up_cell cw
  have qb3_14 := up_cell b3
  have qb5_16 := up_cell b5
  refine wp_region_up (by kernel_rfl) (by kernel_rfl) ?_
  repeat (go_big_quiet_step (fail))
  refine wpQuiet_nil ?_
  rintro u ⟨u0, hu⟩
  have gu := hu ▸ u0.up
  clear hu u0
  have hzu20 := gu.size
  clear qcw_8
  clear qb3_14
  clear qb5_16
  replace X := Lib.hid (X.out.up (tt gu))
  replace U := Lib.hid (Chg.trans U.out (tt gu))
  replace cw := Chg.cell (tt gu) cw id
  replace H := Lib.hid (H.out.up (tt gu))
  have hh := cc8 (tt gu) ch b0 b1 b2 b3 b4 b5 b6
  clear ch b0 b1 b2 b3 b4 b5 b6
  obtain ⟨ch, b0, b1, b2, b3, b4, b5, b6⟩ := hh
  replace b7 := Chg.cell (tt gu) b7 id
  clear gu
  go_wp2_with fail
  refine (carrierFits_b _ X.out Hi.out ⟨6, d, fb, fa, tb, ta, car, rk⟩ Hx.out true Hf.out).mono ?_
  rintro e w34 ⟨rfl, g1⟩
  have G1 := Lib.hid g1
  have hz34 := G1.out.size
  clear g1
  replace X := Lib.hid (X.out.up (tt G1.out))
  replace U := Lib.hid (Chg.trans U.out (tt G1.out))
  replace cw := Chg.cell (tt G1.out) cw id
  replace H := Lib.hid (H.out.up (tt G1.out))
  have hh := cc8 (tt G1.out) ch b0 b1 b2 b3 b4 b5 b6
  clear ch b0 b1 b2 b3 b4 b5 b6
  obtain ⟨ch, b0, b1, b2, b3, b4, b5, b6⟩ := hh
  replace b7 := Chg.cell (tt G1.out) b7 id
  clear G1
  clear Hf
  go_wp2_with fail
  refine (makesLoop_b _ 6 false (by unfold makesB; simp)).mono ?_
  rintro e w' ⟨rfl, rfl⟩
  go_wp2_with fail
  refine (on_any _ p fb fa g _ _ H.out).mono ?_
  rintro e w49 ⟨rfl, g1⟩
  have G1 := Lib.hid g1
  have hz49 := G1.out.size
  clear g1
  replace X := Lib.hid (X.out.up (tt G1.out))
  replace U := Lib.hid (Chg.trans U.out (tt G1.out))
  replace cw := Chg.cell (tt G1.out) cw id
  replace H := Lib.hid (H.out.up (tt G1.out))
  have hh := cc8 (tt G1.out) ch b0 b1 b2 b3 b4 b5 b6
  clear ch b0 b1 b2 b3 b4 b5 b6
  obtain ⟨ch, b0, b1, b2, b3, b4, b5, b6⟩ := hh
  replace b7 := Chg.cell (tt G1.out) b7 id
  clear G1
  all_goals go_wp2
  all_goals go_ret
  all_goals exact ⟨rfl, (Chg.trans U.out (by repeat (first | exact Chg.refl _ _ | apply Chg.drew | apply Chg.drewN | refine Chg.alloc ?_ _)))⟩
theorem opCode_6_ok (w : World) {S : Nat → Prop} {K p : Nat} {m : MachM} {F B C L D : Value} {fs bs : List Value} (h : MachX w S K p m F B C L D fs bs) (hi : MInv m) (d fb fa tb ta car rk : Int) (hx : okOp m.wd ⟨6, d, fb, fa, tb, ta, car, rk⟩) (hnone : (onM m fb fa).length ≠ 0) :
    Calls Tryz.prog 79 #[.pointer (some ⟨p, 0, none⟩), .agg #[.int .i64 6, .int .i64 d, .int .i64 fb, .int .i64 fa, .int .i64 tb, .int .i64 ta, .int .i64 car, .int .i64 rk]] w fun e w' => e = .returned (.int .i64 (codeM m ⟨6, d, fb, fa, tb, ta, car, rk⟩)) ∧ Up w w' := by
  have hc := valid_cases hx.1
  have hx1 := hx.2.1
  have hx2 := hx.2.2
  dsimp only at hc hx1 hx2
  have hr := hi.rack
  have hw := hi.wd
  have hn := hi.nl
  have hfit : fitsM m ⟨6, d, fb, fa, tb, ta, car, rk⟩ = true := by simp [fitsM]
  have hC : codeM m ⟨6, d, fb, fa, tb, ta, car, rk⟩ = 0 := by simp [codeM, makesB, hnone, hfit]
  rw [hC]
  clear hC
  have y1 : decide (m.wd ≤ fa) = false := decide_eq_false (by omega)
  have y2 : decide (m.wd ≤ ta) = false := decide_eq_false (by omega)
  have X := Lib.hid (h)
  have U := Lib.hid ((Chg.refl Nowhere w))
  have cw := h.c0.1
  obtain ⟨g, v, hH, -⟩ := h.hold hi (b := fb) (a := fa) ⟨by omega, by omega, by omega⟩
  obtain ⟨Af, cf, rfl, hlf, hcf, -⟩ := hH.own.ints.shape
  have H := Lib.hid (hH)
  have ch := hH.cell.1
  have y5 : (((onM m fb fa).length : Int) == 0) = false := by simpa using (show ¬ ((onM m fb fa).length : Int) = 0 by omega)
  have Hx := Lib.hid hx
  have Hi := Lib.hid hi
  have Hf := Lib.hid hfit
  clear hc hx hi hr hw hfit h hx1 hx2 hn hH
  clear hnone
  replace X := Lib.hid (X.out.up ((Chg.refl Nowhere w).alloc (.cells #[.int .i64 6, .int .i64 d, .int .i64 fb, .int .i64 fa, .int .i64 tb, .int .i64 ta, .int .i64 car, .int .i64 rk] 44)))
  replace U := Lib.hid (Chg.trans U.out ((Chg.refl Nowhere w).alloc (.cells #[.int .i64 6, .int .i64 d, .int .i64 fb, .int .i64 fa, .int .i64 tb, .int .i64 ta, .int .i64 car, .int .i64 rk] 44)))
  replace cw := Chg.cell ((Chg.refl Nowhere w).alloc (.cells #[.int .i64 6, .int .i64 d, .int .i64 fb, .int .i64 fa, .int .i64 tb, .int .i64 ta, .int .i64 car, .int .i64 rk] 44)) cw id
  replace H := Lib.hid (H.out.up ((Chg.refl Nowhere w).alloc (.cells #[.int .i64 6, .int .i64 d, .int .i64 fb, .int .i64 fa, .int .i64 tb, .int .i64 ta, .int .i64 car, .int .i64 rk] 44)))
  replace ch := Chg.cell ((Chg.refl Nowhere w).alloc (.cells #[.int .i64 6, .int .i64 d, .int .i64 fb, .int .i64 fa, .int .i64 tb, .int .i64 ta, .int .i64 car, .int .i64 rk] 44)) ch id
  obtain ⟨b0, b1, b2, b3, b4, b5, b6, b7⟩ := box8 w (.int .i64 6) (.int .i64 d) (.int .i64 fb) (.int .i64 fa) (.int .i64 tb) (.int .i64 ta) (.int .i64 car) (.int .i64 rk) 44
  have hbx19 : w.heap.size < (w.alloc (.cells #[.int .i64 6, .int .i64 d, .int .i64 fb, .int .i64 fa, .int .i64 tb, .int .i64 ta, .int .i64 car, .int .i64 rk] 44)).heap.size := by simp
  go_enter Tryz.func79, Tryz.ntmps79
  go_wp2
  have qcw_8 := up_cell cw
  have qb3_14 := up_cell b3
  have qb5_16 := up_cell b5
  refine wp_region_up (by kernel_rfl) (by kernel_rfl) ?_
  repeat (go_big_quiet_step (fail))
  refine wpQuiet_nil ?_
  rintro u ⟨u0, hu⟩
  have gu := hu ▸ u0.up
  clear hu u0
  have hzu20 := gu.size
  clear qcw_8
  clear qb3_14
  clear qb5_16
  replace X := Lib.hid (X.out.up (tt gu))
  replace U := Lib.hid (Chg.trans U.out (tt gu))
  replace cw := Chg.cell (tt gu) cw id
  replace H := Lib.hid (H.out.up (tt gu))
  have hh := cc8 (tt gu) ch b0 b1 b2 b3 b4 b5 b6
  clear ch b0 b1 b2 b3 b4 b5 b6
  obtain ⟨ch, b0, b1, b2, b3, b4, b5, b6⟩ := hh
  replace b7 := Chg.cell (tt gu) b7 id
  clear gu
  go_wp2_with fail
  refine (carrierFits_b _ X.out Hi.out ⟨6, d, fb, fa, tb, ta, car, rk⟩ Hx.out true Hf.out).mono ?_
  rintro e w34 ⟨rfl, g1⟩
  have G1 := Lib.hid g1
  have hz34 := G1.out.size
  clear g1
  replace X := Lib.hid (X.out.up (tt G1.out))
  replace U := Lib.hid (Chg.trans U.out (tt G1.out))
  replace cw := Chg.cell (tt G1.out) cw id
  replace H := Lib.hid (H.out.up (tt G1.out))
  have hh := cc8 (tt G1.out) ch b0 b1 b2 b3 b4 b5 b6
  clear ch b0 b1 b2 b3 b4 b5 b6
  obtain ⟨ch, b0, b1, b2, b3, b4, b5, b6⟩ := hh
  replace b7 := Chg.cell (tt G1.out) b7 id
  clear G1
  clear Hf
  go_wp2_with fail
  refine (makesLoop_b _ 6 false (by unfold makesB; simp)).mono ?_
  rintro e w' ⟨rfl, rfl⟩
  go_wp2_with fail
  refine (on_any _ p fb fa g _ _ H.out).mono ?_
  rintro e w49 ⟨rfl, g1⟩
  have G1 := Lib.hid g1
  have hz49 := G1.out.size
  clear g1
  replace X := Lib.hid (X.out.up (tt G1.out))
  replace U := Lib.hid (Chg.trans U.out (tt G1.out))
  replace cw := Chg.cell (tt G1.out) cw id
  replace H := Lib.hid (H.out.up (tt G1.out))
  have hh := cc8 (tt G1.out) ch b0 b1 b2 b3 b4 b5 b6
  clear ch b0 b1 b2 b3 b4 b5 b6
  obtain ⟨ch, b0, b1, b2, b3, b4, b5, b6⟩ := hh
  replace b7 := Chg.cell (tt G1.out) b7 id
  clear G1
  all_goals go_wp2
  all_goals go_ret
  all_goals exact ⟨rfl, (Chg.trans U.out (by repeat (first | exact Chg.refl _ _ | apply Chg.drew | apply Chg.drewN | refine Chg.alloc ?_ _)))⟩
theorem opCode_7_ok (w : World) {S : Nat → Prop} {K p : Nat} {m : MachM} {F B C L D : Value} {fs bs : List Value} (h : MachX w S K p m F B C L D fs bs) (hi : MInv m) (d fb fa tb ta car rk : Int) (hx : okOp m.wd ⟨7, d, fb, fa, tb, ta, car, rk⟩)  :
    Calls Tryz.prog 79 #[.pointer (some ⟨p, 0, none⟩), .agg #[.int .i64 7, .int .i64 d, .int .i64 fb, .int .i64 fa, .int .i64 tb, .int .i64 ta, .int .i64 car, .int .i64 rk]] w fun e w' => e = .returned (.int .i64 (codeM m ⟨7, d, fb, fa, tb, ta, car, rk⟩)) ∧ Up w w' := by
  have hc := valid_cases hx.1
  have hx1 := hx.2.1
  have hx2 := hx.2.2
  dsimp only at hc hx1 hx2
  have hr := hi.rack
  have hw := hi.wd
  have hn := hi.nl
  have hfit : fitsM m ⟨7, d, fb, fa, tb, ta, car, rk⟩ = true := by simp [fitsM]
  have hC : codeM m ⟨7, d, fb, fa, tb, ta, car, rk⟩ = 0 := by simp [codeM, makesB, hfit]
  rw [hC]
  clear hC
  have y1 : decide (m.wd ≤ fa) = false := decide_eq_false (by omega)
  have y2 : decide (m.wd ≤ ta) = false := decide_eq_false (by omega)
  have X := Lib.hid (h)
  have U := Lib.hid ((Chg.refl Nowhere w))
  have cw := h.c0.1
  have Hx := Lib.hid hx
  have Hi := Lib.hid hi
  have Hf := Lib.hid hfit
  clear hc hx hi hr hw hfit h hx1 hx2 hn
  replace X := Lib.hid (X.out.up ((Chg.refl Nowhere w).alloc (.cells #[.int .i64 7, .int .i64 d, .int .i64 fb, .int .i64 fa, .int .i64 tb, .int .i64 ta, .int .i64 car, .int .i64 rk] 44)))
  replace U := Lib.hid (Chg.trans U.out ((Chg.refl Nowhere w).alloc (.cells #[.int .i64 7, .int .i64 d, .int .i64 fb, .int .i64 fa, .int .i64 tb, .int .i64 ta, .int .i64 car, .int .i64 rk] 44)))
  replace cw := Chg.cell ((Chg.refl Nowhere w).alloc (.cells #[.int .i64 7, .int .i64 d, .int .i64 fb, .int .i64 fa, .int .i64 tb, .int .i64 ta, .int .i64 car, .int .i64 rk] 44)) cw id
  obtain ⟨b0, b1, b2, b3, b4, b5, b6, b7⟩ := box8 w (.int .i64 7) (.int .i64 d) (.int .i64 fb) (.int .i64 fa) (.int .i64 tb) (.int .i64 ta) (.int .i64 car) (.int .i64 rk) 44
  have hbx15 : w.heap.size < (w.alloc (.cells #[.int .i64 7, .int .i64 d, .int .i64 fb, .int .i64 fa, .int .i64 tb, .int .i64 ta, .int .i64 car, .int .i64 rk] 44)).heap.size := by simp
  go_enter Tryz.func79, Tryz.ntmps79
  go_wp2
  have qcw_6 := up_cell cw
  have qb3_10 := up_cell b3
  have qb5_12 := up_cell b5
  refine wp_region_up (by kernel_rfl) (by kernel_rfl) ?_
  repeat (go_big_quiet_step (fail))
  refine wpQuiet_nil ?_
  rintro u ⟨u0, hu⟩
  have gu := hu ▸ u0.up
  clear hu u0
  have hzu16 := gu.size
  clear qcw_6
  clear qb3_10
  clear qb5_12
  replace X := Lib.hid (X.out.up (tt gu))
  replace U := Lib.hid (Chg.trans U.out (tt gu))
  have hh := cc8 (tt gu) cw b0 b1 b2 b3 b4 b5 b6
  clear cw b0 b1 b2 b3 b4 b5 b6
  obtain ⟨cw, b0, b1, b2, b3, b4, b5, b6⟩ := hh
  replace b7 := Chg.cell (tt gu) b7 id
  clear gu
  go_wp2_with fail
  refine (carrierFits_b _ X.out Hi.out ⟨7, d, fb, fa, tb, ta, car, rk⟩ Hx.out true Hf.out).mono ?_
  rintro e w28 ⟨rfl, g1⟩
  have G1 := Lib.hid g1
  have hz28 := G1.out.size
  clear g1
  replace X := Lib.hid (X.out.up (tt G1.out))
  replace U := Lib.hid (Chg.trans U.out (tt G1.out))
  have hh := cc8 (tt G1.out) cw b0 b1 b2 b3 b4 b5 b6
  clear cw b0 b1 b2 b3 b4 b5 b6
  obtain ⟨cw, b0, b1, b2, b3, b4, b5, b6⟩ := hh
  replace b7 := Chg.cell (tt G1.out) b7 id
  clear G1
  clear Hf
  go_wp2_with fail
  refine (makesLoop_b _ 7 false (by unfold makesB; simp)).mono ?_
  rintro e w' ⟨rfl, rfl⟩
  all_goals go_wp2
  all_goals go_ret
  all_goals exact ⟨rfl, (Chg.trans U.out (by repeat (first | exact Chg.refl _ _ | apply Chg.drew | apply Chg.drewN | refine Chg.alloc ?_ _)))⟩
theorem opCode_8_fit (w : World) {S : Nat → Prop} {K p : Nat} {m : MachM} {F B C L D : Value} {fs bs : List Value} (h : MachX w S K p m F B C L D fs bs) (hi : MInv m) (d fb fa tb ta car rk : Int) (hx : okOp m.wd ⟨8, d, fb, fa, tb, ta, car, rk⟩)  (hfit : fitsM m ⟨8, d, fb, fa, tb, ta, car, rk⟩ = false) :
    Calls Tryz.prog 79 #[.pointer (some ⟨p, 0, none⟩), .agg #[.int .i64 8, .int .i64 d, .int .i64 fb, .int .i64 fa, .int .i64 tb, .int .i64 ta, .int .i64 car, .int .i64 rk]] w fun e w' => e = .returned (.int .i64 (codeM m ⟨8, d, fb, fa, tb, ta, car, rk⟩)) ∧ Up w w' := by
  have hc := valid_cases hx.1
  have hx1 := hx.2.1
  have hx2 := hx.2.2
  dsimp only at hc hx1 hx2
  have hr := hi.rack
  have hw := hi.wd
  have hn := hi.nl
  have hC : codeM m ⟨8, d, fb, fa, tb, ta, car, rk⟩ = 9 := by simp [codeM, makesB, hfit]
  rw [hC]
  clear hC
  have y1 : decide (m.wd ≤ fa) = false := decide_eq_false (by omega)
  have y2 : decide (m.wd ≤ ta) = false := decide_eq_false (by omega)
  have X := Lib.hid (h)
  have U := Lib.hid ((Chg.refl Nowhere w))
  have cw := h.c0.1
  have Hx := Lib.hid hx
  have Hi := Lib.hid hi
  have Hf := Lib.hid hfit
  clear hc hx hi hr hw hfit h hx1 hx2 hn
  replace X := Lib.hid (X.out.up ((Chg.refl Nowhere w).alloc (.cells #[.int .i64 8, .int .i64 d, .int .i64 fb, .int .i64 fa, .int .i64 tb, .int .i64 ta, .int .i64 car, .int .i64 rk] 44)))
  replace U := Lib.hid (Chg.trans U.out ((Chg.refl Nowhere w).alloc (.cells #[.int .i64 8, .int .i64 d, .int .i64 fb, .int .i64 fa, .int .i64 tb, .int .i64 ta, .int .i64 car, .int .i64 rk] 44)))
  replace cw := Chg.cell ((Chg.refl Nowhere w).alloc (.cells #[.int .i64 8, .int .i64 d, .int .i64 fb, .int .i64 fa, .int .i64 tb, .int .i64 ta, .int .i64 car, .int .i64 rk] 44)) cw id
  obtain ⟨b0, b1, b2, b3, b4, b5, b6, b7⟩ := box8 w (.int .i64 8) (.int .i64 d) (.int .i64 fb) (.int .i64 fa) (.int .i64 tb) (.int .i64 ta) (.int .i64 car) (.int .i64 rk) 44
  have hbx15 : w.heap.size < (w.alloc (.cells #[.int .i64 8, .int .i64 d, .int .i64 fb, .int .i64 fa, .int .i64 tb, .int .i64 ta, .int .i64 car, .int .i64 rk] 44)).heap.size := by simp
  go_enter Tryz.func79, Tryz.ntmps79
  go_wp2
  have qcw_6 := up_cell cw
  have qb3_10 := up_cell b3
  have qb5_12 := up_cell b5
  refine wp_region_up (by kernel_rfl) (by kernel_rfl) ?_
  repeat (go_big_quiet_step (fail))
  refine wpQuiet_nil ?_
  rintro u ⟨u0, hu⟩
  have gu := hu ▸ u0.up
  clear hu u0
  have hzu16 := gu.size
  clear qcw_6
  clear qb3_10
  clear qb5_12
  replace X := Lib.hid (X.out.up (tt gu))
  replace U := Lib.hid (Chg.trans U.out (tt gu))
  have hh := cc8 (tt gu) cw b0 b1 b2 b3 b4 b5 b6
  clear cw b0 b1 b2 b3 b4 b5 b6
  obtain ⟨cw, b0, b1, b2, b3, b4, b5, b6⟩ := hh
  replace b7 := Chg.cell (tt gu) b7 id
  clear gu
  go_wp2_with fail
  refine (carrierFits_b _ X.out Hi.out ⟨8, d, fb, fa, tb, ta, car, rk⟩ Hx.out false Hf.out).mono ?_
  rintro e w28 ⟨rfl, g1⟩
  have G1 := Lib.hid g1
  have hz28 := G1.out.size
  clear g1
  replace X := Lib.hid (X.out.up (tt G1.out))
  replace U := Lib.hid (Chg.trans U.out (tt G1.out))
  have hh := cc8 (tt G1.out) cw b0 b1 b2 b3 b4 b5 b6
  clear cw b0 b1 b2 b3 b4 b5 b6
  obtain ⟨cw, b0, b1, b2, b3, b4, b5, b6⟩ := hh
  replace b7 := Chg.cell (tt G1.out) b7 id
  clear G1
  clear Hf
  all_goals go_wp2
  all_goals go_ret
  all_goals exact ⟨rfl, (Chg.trans U.out (by repeat (first | exact Chg.refl _ _ | apply Chg.drew | apply Chg.drewN | refine Chg.alloc ?_ _)))⟩
theorem opCode_8_ok (w : World) {S : Nat → Prop} {K p : Nat} {m : MachM} {F B C L D : Value} {fs bs : List Value} (h : MachX w S K p m F B C L D fs bs) (hi : MInv m) (d fb fa tb ta car rk : Int) (hx : okOp m.wd ⟨8, d, fb, fa, tb, ta, car, rk⟩) (hfit : fitsM m ⟨8, d, fb, fa, tb, ta, car, rk⟩ = true) :
    Calls Tryz.prog 79 #[.pointer (some ⟨p, 0, none⟩), .agg #[.int .i64 8, .int .i64 d, .int .i64 fb, .int .i64 fa, .int .i64 tb, .int .i64 ta, .int .i64 car, .int .i64 rk]] w fun e w' => e = .returned (.int .i64 (codeM m ⟨8, d, fb, fa, tb, ta, car, rk⟩)) ∧ Up w w' := by
  have hc := valid_cases hx.1
  have hx1 := hx.2.1
  have hx2 := hx.2.2
  dsimp only at hc hx1 hx2
  have hr := hi.rack
  have hw := hi.wd
  have hn := hi.nl
  have hC : codeM m ⟨8, d, fb, fa, tb, ta, car, rk⟩ = 0 := by simp [codeM, makesB, hfit]
  rw [hC]
  clear hC
  have y1 : decide (m.wd ≤ fa) = false := decide_eq_false (by omega)
  have y2 : decide (m.wd ≤ ta) = false := decide_eq_false (by omega)
  have X := Lib.hid (h)
  have U := Lib.hid ((Chg.refl Nowhere w))
  have cw := h.c0.1
  have Hx := Lib.hid hx
  have Hi := Lib.hid hi
  have Hf := Lib.hid hfit
  clear hc hx hi hr hw hfit h hx1 hx2 hn
  replace X := Lib.hid (X.out.up ((Chg.refl Nowhere w).alloc (.cells #[.int .i64 8, .int .i64 d, .int .i64 fb, .int .i64 fa, .int .i64 tb, .int .i64 ta, .int .i64 car, .int .i64 rk] 44)))
  replace U := Lib.hid (Chg.trans U.out ((Chg.refl Nowhere w).alloc (.cells #[.int .i64 8, .int .i64 d, .int .i64 fb, .int .i64 fa, .int .i64 tb, .int .i64 ta, .int .i64 car, .int .i64 rk] 44)))
  replace cw := Chg.cell ((Chg.refl Nowhere w).alloc (.cells #[.int .i64 8, .int .i64 d, .int .i64 fb, .int .i64 fa, .int .i64 tb, .int .i64 ta, .int .i64 car, .int .i64 rk] 44)) cw id
  obtain ⟨b0, b1, b2, b3, b4, b5, b6, b7⟩ := box8 w (.int .i64 8) (.int .i64 d) (.int .i64 fb) (.int .i64 fa) (.int .i64 tb) (.int .i64 ta) (.int .i64 car) (.int .i64 rk) 44
  have hbx15 : w.heap.size < (w.alloc (.cells #[.int .i64 8, .int .i64 d, .int .i64 fb, .int .i64 fa, .int .i64 tb, .int .i64 ta, .int .i64 car, .int .i64 rk] 44)).heap.size := by simp
  go_enter Tryz.func79, Tryz.ntmps79
  go_wp2
  have qcw_6 := up_cell cw
  have qb3_10 := up_cell b3
  have qb5_12 := up_cell b5
  refine wp_region_up (by kernel_rfl) (by kernel_rfl) ?_
  repeat (go_big_quiet_step (fail))
  refine wpQuiet_nil ?_
  rintro u ⟨u0, hu⟩
  have gu := hu ▸ u0.up
  clear hu u0
  have hzu16 := gu.size
  clear qcw_6
  clear qb3_10
  clear qb5_12
  replace X := Lib.hid (X.out.up (tt gu))
  replace U := Lib.hid (Chg.trans U.out (tt gu))
  have hh := cc8 (tt gu) cw b0 b1 b2 b3 b4 b5 b6
  clear cw b0 b1 b2 b3 b4 b5 b6
  obtain ⟨cw, b0, b1, b2, b3, b4, b5, b6⟩ := hh
  replace b7 := Chg.cell (tt gu) b7 id
  clear gu
  go_wp2_with fail
  refine (carrierFits_b _ X.out Hi.out ⟨8, d, fb, fa, tb, ta, car, rk⟩ Hx.out true Hf.out).mono ?_
  rintro e w28 ⟨rfl, g1⟩
  have G1 := Lib.hid g1
  have hz28 := G1.out.size
  clear g1
  replace X := Lib.hid (X.out.up (tt G1.out))
  replace U := Lib.hid (Chg.trans U.out (tt G1.out))
  have hh := cc8 (tt G1.out) cw b0 b1 b2 b3 b4 b5 b6
  clear cw b0 b1 b2 b3 b4 b5 b6
  obtain ⟨cw, b0, b1, b2, b3, b4, b5, b6⟩ := hh
  replace b7 := Chg.cell (tt G1.out) b7 id
  clear G1
  clear Hf
  go_wp2_with fail
  refine (makesLoop_b _ 8 false (by unfold makesB; simp)).mono ?_
  rintro e w' ⟨rfl, rfl⟩
  all_goals go_wp2
  all_goals go_ret
  all_goals exact ⟨rfl, (Chg.trans U.out (by repeat (first | exact Chg.refl _ _ | apply Chg.drew | apply Chg.drewN | refine Chg.alloc ?_ _)))⟩
theorem opCode_9_fit (w : World) {S : Nat → Prop} {K p : Nat} {m : MachM} {F B C L D : Value} {fs bs : List Value} (h : MachX w S K p m F B C L D fs bs) (hi : MInv m) (d fb fa tb ta car rk : Int) (hx : okOp m.wd ⟨9, d, fb, fa, tb, ta, car, rk⟩)  (hfit : fitsM m ⟨9, d, fb, fa, tb, ta, car, rk⟩ = false) :
    Calls Tryz.prog 79 #[.pointer (some ⟨p, 0, none⟩), .agg #[.int .i64 9, .int .i64 d, .int .i64 fb, .int .i64 fa, .int .i64 tb, .int .i64 ta, .int .i64 car, .int .i64 rk]] w fun e w' => e = .returned (.int .i64 (codeM m ⟨9, d, fb, fa, tb, ta, car, rk⟩)) ∧ Up w w' := by
  have hc := valid_cases hx.1
  have hx1 := hx.2.1
  have hx2 := hx.2.2
  dsimp only at hc hx1 hx2
  have hr := hi.rack
  have hw := hi.wd
  have hn := hi.nl
  have hC : codeM m ⟨9, d, fb, fa, tb, ta, car, rk⟩ = 9 := by simp [codeM, makesB, hfit]
  rw [hC]
  clear hC
  have y1 : decide (m.wd ≤ fa) = false := decide_eq_false (by omega)
  have y2 : decide (m.wd ≤ ta) = false := decide_eq_false (by omega)
  have X := Lib.hid (h)
  have U := Lib.hid ((Chg.refl Nowhere w))
  have cw := h.c0.1
  have Hx := Lib.hid hx
  have Hi := Lib.hid hi
  have Hf := Lib.hid hfit
  clear hc hx hi hr hw hfit h hx1 hx2 hn
  replace X := Lib.hid (X.out.up ((Chg.refl Nowhere w).alloc (.cells #[.int .i64 9, .int .i64 d, .int .i64 fb, .int .i64 fa, .int .i64 tb, .int .i64 ta, .int .i64 car, .int .i64 rk] 44)))
  replace U := Lib.hid (Chg.trans U.out ((Chg.refl Nowhere w).alloc (.cells #[.int .i64 9, .int .i64 d, .int .i64 fb, .int .i64 fa, .int .i64 tb, .int .i64 ta, .int .i64 car, .int .i64 rk] 44)))
  replace cw := Chg.cell ((Chg.refl Nowhere w).alloc (.cells #[.int .i64 9, .int .i64 d, .int .i64 fb, .int .i64 fa, .int .i64 tb, .int .i64 ta, .int .i64 car, .int .i64 rk] 44)) cw id
  obtain ⟨b0, b1, b2, b3, b4, b5, b6, b7⟩ := box8 w (.int .i64 9) (.int .i64 d) (.int .i64 fb) (.int .i64 fa) (.int .i64 tb) (.int .i64 ta) (.int .i64 car) (.int .i64 rk) 44
  have hbx15 : w.heap.size < (w.alloc (.cells #[.int .i64 9, .int .i64 d, .int .i64 fb, .int .i64 fa, .int .i64 tb, .int .i64 ta, .int .i64 car, .int .i64 rk] 44)).heap.size := by simp
  go_enter Tryz.func79, Tryz.ntmps79
  go_wp2
  have qcw_6 := up_cell cw
  have qb3_10 := up_cell b3
  have qb5_12 := up_cell b5
  refine wp_region_up (by kernel_rfl) (by kernel_rfl) ?_
  repeat (go_big_quiet_step (fail))
  refine wpQuiet_nil ?_
  rintro u ⟨u0, hu⟩
  have gu := hu ▸ u0.up
  clear hu u0
  have hzu16 := gu.size
  clear qcw_6
  clear qb3_10
  clear qb5_12
  replace X := Lib.hid (X.out.up (tt gu))
  replace U := Lib.hid (Chg.trans U.out (tt gu))
  have hh := cc8 (tt gu) cw b0 b1 b2 b3 b4 b5 b6
  clear cw b0 b1 b2 b3 b4 b5 b6
  obtain ⟨cw, b0, b1, b2, b3, b4, b5, b6⟩ := hh
  replace b7 := Chg.cell (tt gu) b7 id
  clear gu
  go_wp2_with fail
  refine (carrierFits_b _ X.out Hi.out ⟨9, d, fb, fa, tb, ta, car, rk⟩ Hx.out false Hf.out).mono ?_
  rintro e w28 ⟨rfl, g1⟩
  have G1 := Lib.hid g1
  have hz28 := G1.out.size
  clear g1
  replace X := Lib.hid (X.out.up (tt G1.out))
  replace U := Lib.hid (Chg.trans U.out (tt G1.out))
  have hh := cc8 (tt G1.out) cw b0 b1 b2 b3 b4 b5 b6
  clear cw b0 b1 b2 b3 b4 b5 b6
  obtain ⟨cw, b0, b1, b2, b3, b4, b5, b6⟩ := hh
  replace b7 := Chg.cell (tt G1.out) b7 id
  clear G1
  clear Hf
  all_goals go_wp2
  all_goals go_ret
  all_goals exact ⟨rfl, (Chg.trans U.out (by repeat (first | exact Chg.refl _ _ | apply Chg.drew | apply Chg.drewN | refine Chg.alloc ?_ _)))⟩
theorem opCode_9_ok (w : World) {S : Nat → Prop} {K p : Nat} {m : MachM} {F B C L D : Value} {fs bs : List Value} (h : MachX w S K p m F B C L D fs bs) (hi : MInv m) (d fb fa tb ta car rk : Int) (hx : okOp m.wd ⟨9, d, fb, fa, tb, ta, car, rk⟩) (hfit : fitsM m ⟨9, d, fb, fa, tb, ta, car, rk⟩ = true) :
    Calls Tryz.prog 79 #[.pointer (some ⟨p, 0, none⟩), .agg #[.int .i64 9, .int .i64 d, .int .i64 fb, .int .i64 fa, .int .i64 tb, .int .i64 ta, .int .i64 car, .int .i64 rk]] w fun e w' => e = .returned (.int .i64 (codeM m ⟨9, d, fb, fa, tb, ta, car, rk⟩)) ∧ Up w w' := by
  have hc := valid_cases hx.1
  have hx1 := hx.2.1
  have hx2 := hx.2.2
  dsimp only at hc hx1 hx2
  have hr := hi.rack
  have hw := hi.wd
  have hn := hi.nl
  have hC : codeM m ⟨9, d, fb, fa, tb, ta, car, rk⟩ = 0 := by simp [codeM, makesB, hfit]
  rw [hC]
  clear hC
  have y1 : decide (m.wd ≤ fa) = false := decide_eq_false (by omega)
  have y2 : decide (m.wd ≤ ta) = false := decide_eq_false (by omega)
  have X := Lib.hid (h)
  have U := Lib.hid ((Chg.refl Nowhere w))
  have cw := h.c0.1
  have Hx := Lib.hid hx
  have Hi := Lib.hid hi
  have Hf := Lib.hid hfit
  clear hc hx hi hr hw hfit h hx1 hx2 hn
  replace X := Lib.hid (X.out.up ((Chg.refl Nowhere w).alloc (.cells #[.int .i64 9, .int .i64 d, .int .i64 fb, .int .i64 fa, .int .i64 tb, .int .i64 ta, .int .i64 car, .int .i64 rk] 44)))
  replace U := Lib.hid (Chg.trans U.out ((Chg.refl Nowhere w).alloc (.cells #[.int .i64 9, .int .i64 d, .int .i64 fb, .int .i64 fa, .int .i64 tb, .int .i64 ta, .int .i64 car, .int .i64 rk] 44)))
  replace cw := Chg.cell ((Chg.refl Nowhere w).alloc (.cells #[.int .i64 9, .int .i64 d, .int .i64 fb, .int .i64 fa, .int .i64 tb, .int .i64 ta, .int .i64 car, .int .i64 rk] 44)) cw id
  obtain ⟨b0, b1, b2, b3, b4, b5, b6, b7⟩ := box8 w (.int .i64 9) (.int .i64 d) (.int .i64 fb) (.int .i64 fa) (.int .i64 tb) (.int .i64 ta) (.int .i64 car) (.int .i64 rk) 44
  have hbx15 : w.heap.size < (w.alloc (.cells #[.int .i64 9, .int .i64 d, .int .i64 fb, .int .i64 fa, .int .i64 tb, .int .i64 ta, .int .i64 car, .int .i64 rk] 44)).heap.size := by simp
  go_enter Tryz.func79, Tryz.ntmps79
  go_wp2
  have qcw_6 := up_cell cw
  have qb3_10 := up_cell b3
  have qb5_12 := up_cell b5
  refine wp_region_up (by kernel_rfl) (by kernel_rfl) ?_
  repeat (go_big_quiet_step (fail))
  refine wpQuiet_nil ?_
  rintro u ⟨u0, hu⟩
  have gu := hu ▸ u0.up
  clear hu u0
  have hzu16 := gu.size
  clear qcw_6
  clear qb3_10
  clear qb5_12
  replace X := Lib.hid (X.out.up (tt gu))
  replace U := Lib.hid (Chg.trans U.out (tt gu))
  have hh := cc8 (tt gu) cw b0 b1 b2 b3 b4 b5 b6
  clear cw b0 b1 b2 b3 b4 b5 b6
  obtain ⟨cw, b0, b1, b2, b3, b4, b5, b6⟩ := hh
  replace b7 := Chg.cell (tt gu) b7 id
  clear gu
  go_wp2_with fail
  refine (carrierFits_b _ X.out Hi.out ⟨9, d, fb, fa, tb, ta, car, rk⟩ Hx.out true Hf.out).mono ?_
  rintro e w28 ⟨rfl, g1⟩
  have G1 := Lib.hid g1
  have hz28 := G1.out.size
  clear g1
  replace X := Lib.hid (X.out.up (tt G1.out))
  replace U := Lib.hid (Chg.trans U.out (tt G1.out))
  have hh := cc8 (tt G1.out) cw b0 b1 b2 b3 b4 b5 b6
  clear cw b0 b1 b2 b3 b4 b5 b6
  obtain ⟨cw, b0, b1, b2, b3, b4, b5, b6⟩ := hh
  replace b7 := Chg.cell (tt G1.out) b7 id
  clear G1
  clear Hf
  go_wp2_with fail
  refine (makesLoop_b _ 9 false (by unfold makesB; simp)).mono ?_
  rintro e w' ⟨rfl, rfl⟩
  all_goals go_wp2
  all_goals go_ret
  all_goals exact ⟨rfl, (Chg.trans U.out (by repeat (first | exact Chg.refl _ _ | apply Chg.drew | apply Chg.drewN | refine Chg.alloc ?_ _)))⟩
theorem opCode_4_place (w : World) {S : Nat → Prop} {K p : Nat} {m : MachM} {F B C L D : Value} {fs bs : List Value} (h : MachX w S K p m F B C L D fs bs) (hi : MInv m) (d fb fa tb ta car rk : Int) (hx : okOp m.wd ⟨4, d, fb, fa, tb, ta, car, rk⟩)  (hplace : placeM fb fa m.rack ≠ placeM tb ta m.rack) :
    Calls Tryz.prog 79 #[.pointer (some ⟨p, 0, none⟩), .agg #[.int .i64 4, .int .i64 d, .int .i64 fb, .int .i64 fa, .int .i64 tb, .int .i64 ta, .int .i64 car, .int .i64 rk]] w fun e w' => e = .returned (.int .i64 (codeM m ⟨4, d, fb, fa, tb, ta, car, rk⟩)) ∧ Up w w' := by
  have hc := valid_cases hx.1
  have hx1 := hx.2.1
  have hx2 := hx.2.2
  dsimp only at hc hx1 hx2
  have hr := hi.rack
  have hw := hi.wd
  have hn := hi.nl
  have hfit : fitsM m ⟨4, d, fb, fa, tb, ta, car, rk⟩ = true := by simp [fitsM]
  have hC : codeM m ⟨4, d, fb, fa, tb, ta, car, rk⟩ = 8 := by simp [codeM, makesB, hplace, hfit]
  rw [hC]
  clear hC
  have y1 : decide (m.wd ≤ fa) = false := decide_eq_false (by omega)
  have y2 : decide (m.wd ≤ ta) = false := decide_eq_false (by omega)
  have X := Lib.hid (h)
  have U := Lib.hid ((Chg.refl Nowhere w))
  have cw := h.c0.1
  obtain ⟨g, v, hH, -⟩ := h.hold hi (b := fb) (a := fa) ⟨by omega, by omega, by omega⟩
  obtain ⟨Af, cf, rfl, hlf, hcf, -⟩ := hH.own.ints.shape
  have H := Lib.hid (hH)
  have ch := hH.cell.1
  obtain ⟨gt, vt, hT, -⟩ := h.hold hi (b := tb) (a := ta) ⟨by omega, by omega, by omega⟩
  obtain ⟨At, ct, rfl, hlt, hct, -⟩ := hT.own.ints.shape
  have T := Lib.hid (hT)
  have ct' := hT.cell.1
  have Hx := Lib.hid hx
  have Hi := Lib.hid hi
  have Hf := Lib.hid hfit
  have hq : 3 - fb = tb ∧ (fb = 1 ∨ fb = 2) ∧ (0 ≤ fa ∧ fa ≤ 100) := by omega
  have Hq := Lib.hid hq
  have Hr := Lib.hid hr
  have Hw := Lib.hid hw
  have e2 : (faceM fb fa m.rack == ta) = false := by simpa using (show ¬ faceM fb fa m.rack = ta by unfold faceM; unfold placeM at hplace; split <;> simp_all <;> omega)
  obtain ⟨ff, hff⟩ : ∃ ff, inB (faceM fb fa m.rack) 0 (m.wd - 1) = ff := ⟨_, rfl⟩
  obtain ⟨fv, hfv⟩ : ∃ fv, faceM fb fa m.rack = fv := ⟨_, rfl⟩
  rw [hfv] at hff e2
  have Hff := Lib.hid hff
  have Hfv := Lib.hid hfv
  clear hc hx hi hr hw hfit h hx1 hx2 hn hH hT hq hff hfv
  clear hplace
  replace X := Lib.hid (X.out.up ((Chg.refl Nowhere w).alloc (.cells #[.int .i64 4, .int .i64 d, .int .i64 fb, .int .i64 fa, .int .i64 tb, .int .i64 ta, .int .i64 car, .int .i64 rk] 44)))
  replace U := Lib.hid (Chg.trans U.out ((Chg.refl Nowhere w).alloc (.cells #[.int .i64 4, .int .i64 d, .int .i64 fb, .int .i64 fa, .int .i64 tb, .int .i64 ta, .int .i64 car, .int .i64 rk] 44)))
  replace cw := Chg.cell ((Chg.refl Nowhere w).alloc (.cells #[.int .i64 4, .int .i64 d, .int .i64 fb, .int .i64 fa, .int .i64 tb, .int .i64 ta, .int .i64 car, .int .i64 rk] 44)) cw id
  replace H := Lib.hid (H.out.up ((Chg.refl Nowhere w).alloc (.cells #[.int .i64 4, .int .i64 d, .int .i64 fb, .int .i64 fa, .int .i64 tb, .int .i64 ta, .int .i64 car, .int .i64 rk] 44)))
  replace ch := Chg.cell ((Chg.refl Nowhere w).alloc (.cells #[.int .i64 4, .int .i64 d, .int .i64 fb, .int .i64 fa, .int .i64 tb, .int .i64 ta, .int .i64 car, .int .i64 rk] 44)) ch id
  replace T := Lib.hid (T.out.up ((Chg.refl Nowhere w).alloc (.cells #[.int .i64 4, .int .i64 d, .int .i64 fb, .int .i64 fa, .int .i64 tb, .int .i64 ta, .int .i64 car, .int .i64 rk] 44)))
  replace ct' := Chg.cell ((Chg.refl Nowhere w).alloc (.cells #[.int .i64 4, .int .i64 d, .int .i64 fb, .int .i64 fa, .int .i64 tb, .int .i64 ta, .int .i64 car, .int .i64 rk] 44)) ct' id
  obtain ⟨b0, b1, b2, b3, b4, b5, b6, b7⟩ := box8 w (.int .i64 4) (.int .i64 d) (.int .i64 fb) (.int .i64 fa) (.int .i64 tb) (.int .i64 ta) (.int .i64 car) (.int .i64 rk) 44
  have hbx23 : w.heap.size < (w.alloc (.cells #[.int .i64 4, .int .i64 d, .int .i64 fb, .int .i64 fa, .int .i64 tb, .int .i64 ta, .int .i64 car, .int .i64 rk] 44)).heap.size := by simp
  go_enter Tryz.func79, Tryz.ntmps79
  go_wp2
  have qcw_10 := up_cell cw
  have qb3_18 := up_cell b3
  have qb5_20 := up_cell b5
  refine wp_region_up (by kernel_rfl) (by kernel_rfl) ?_
  repeat (go_big_quiet_step (fail))
  refine wpQuiet_nil ?_
  rintro u ⟨u0, hu⟩
  have gu := hu ▸ u0.up
  clear hu u0
  have hzu24 := gu.size
  clear qcw_10
  clear qb3_18
  clear qb5_20
  replace X := Lib.hid (X.out.up (tt gu))
  replace U := Lib.hid (Chg.trans U.out (tt gu))
  replace cw := Chg.cell (tt gu) cw id
  replace H := Lib.hid (H.out.up (tt gu))
  replace ch := Chg.cell (tt gu) ch id
  replace T := Lib.hid (T.out.up (tt gu))
  replace ct' := Chg.cell (tt gu) ct' id
  have hh := cc8 (tt gu) b0 b1 b2 b3 b4 b5 b6 b7
  clear b0 b1 b2 b3 b4 b5 b6 b7
  obtain ⟨b0, b1, b2, b3, b4, b5, b6, b7⟩ := hh
  clear gu
  go_wp2_with fail
  refine (carrierFits_b _ X.out Hi.out ⟨4, d, fb, fa, tb, ta, car, rk⟩ Hx.out true Hf.out).mono ?_
  rintro e w40 ⟨rfl, g1⟩
  have G1 := Lib.hid g1
  have hz40 := G1.out.size
  clear g1
  replace X := Lib.hid (X.out.up (tt G1.out))
  replace U := Lib.hid (Chg.trans U.out (tt G1.out))
  replace cw := Chg.cell (tt G1.out) cw id
  replace H := Lib.hid (H.out.up (tt G1.out))
  replace ch := Chg.cell (tt G1.out) ch id
  replace T := Lib.hid (T.out.up (tt G1.out))
  replace ct' := Chg.cell (tt G1.out) ct' id
  have hh := cc8 (tt G1.out) b0 b1 b2 b3 b4 b5 b6 b7
  clear b0 b1 b2 b3 b4 b5 b6 b7
  obtain ⟨b0, b1, b2, b3, b4, b5, b6, b7⟩ := hh
  clear G1
  clear Hf
  go_wp2_with fail
  refine (makesLoop_b _ 4 false (by unfold makesB; simp)).mono ?_
  rintro e w' ⟨rfl, rfl⟩
  go_wp2_with fail
  refine (facing_b _ p m.wd m.rack fb fa tb fv ff X.out.c0 X.out.c1 Hq.out.2.1 Hq.out.2.2 Hr.out Hw.out Hq.out.1 Hfv.out Hff.out).mono ?_
  rintro e w57 ⟨rfl, g1⟩
  have G1 := Lib.hid g1
  have hz57 := G1.out.size
  clear g1
  replace X := Lib.hid (X.out.up (tt G1.out))
  replace U := Lib.hid (Chg.trans U.out (tt G1.out))
  replace cw := Chg.cell (tt G1.out) cw id
  replace H := Lib.hid (H.out.up (tt G1.out))
  replace ch := Chg.cell (tt G1.out) ch id
  replace T := Lib.hid (T.out.up (tt G1.out))
  replace ct' := Chg.cell (tt G1.out) ct' id
  have hh := cc8 (tt G1.out) b0 b1 b2 b3 b4 b5 b6 b7
  clear b0 b1 b2 b3 b4 b5 b6 b7
  obtain ⟨b0, b1, b2, b3, b4, b5, b6, b7⟩ := hh
  clear G1
  replace X := Lib.hid (X.out.up ((Chg.refl Nowhere w57).alloc (.cells #[.int .i64 tb, .int .i64 fv] 42)))
  replace U := Lib.hid (Chg.trans U.out ((Chg.refl Nowhere w57).alloc (.cells #[.int .i64 tb, .int .i64 fv] 42)))
  replace cw := Chg.cell ((Chg.refl Nowhere w57).alloc (.cells #[.int .i64 tb, .int .i64 fv] 42)) cw id
  replace H := Lib.hid (H.out.up ((Chg.refl Nowhere w57).alloc (.cells #[.int .i64 tb, .int .i64 fv] 42)))
  replace ch := Chg.cell ((Chg.refl Nowhere w57).alloc (.cells #[.int .i64 tb, .int .i64 fv] 42)) ch id
  replace T := Lib.hid (T.out.up ((Chg.refl Nowhere w57).alloc (.cells #[.int .i64 tb, .int .i64 fv] 42)))
  replace ct' := Chg.cell ((Chg.refl Nowhere w57).alloc (.cells #[.int .i64 tb, .int .i64 fv] 42)) ct' id
  replace b0 := Chg.cell ((Chg.refl Nowhere w57).alloc (.cells #[.int .i64 tb, .int .i64 fv] 42)) b0 id
  replace b1 := Chg.cell ((Chg.refl Nowhere w57).alloc (.cells #[.int .i64 tb, .int .i64 fv] 42)) b1 id
  replace b2 := Chg.cell ((Chg.refl Nowhere w57).alloc (.cells #[.int .i64 tb, .int .i64 fv] 42)) b2 id
  replace b3 := Chg.cell ((Chg.refl Nowhere w57).alloc (.cells #[.int .i64 tb, .int .i64 fv] 42)) b3 id
  replace b4 := Chg.cell ((Chg.refl Nowhere w57).alloc (.cells #[.int .i64 tb, .int .i64 fv] 42)) b4 id
  replace b5 := Chg.cell ((Chg.refl Nowhere w57).alloc (.cells #[.int .i64 tb, .int .i64 fv] 42)) b5 id
  replace b6 := Chg.cell ((Chg.refl Nowhere w57).alloc (.cells #[.int .i64 tb, .int .i64 fv] 42)) b6 id
  replace b7 := Chg.cell ((Chg.refl Nowhere w57).alloc (.cells #[.int .i64 tb, .int .i64 fv] 42)) b7 id
  cases ff
  all_goals go_wp2
  all_goals go_wp2
  all_goals go_ret
  all_goals exact ⟨rfl, (Chg.trans U.out (by repeat (first | exact Chg.refl _ _ | apply Chg.drew | apply Chg.drewN | refine Chg.alloc ?_ _)))⟩
theorem opCode_4_none (w : World) {S : Nat → Prop} {K p : Nat} {m : MachM} {F B C L D : Value} {fs bs : List Value} (h : MachX w S K p m F B C L D fs bs) (hi : MInv m) (d fb fa tb ta car rk : Int) (hx : okOp m.wd ⟨4, d, fb, fa, tb, ta, car, rk⟩) (hplace : placeM fb fa m.rack = placeM tb ta m.rack) (hnone : (onM m fb fa).length = 0) :
    Calls Tryz.prog 79 #[.pointer (some ⟨p, 0, none⟩), .agg #[.int .i64 4, .int .i64 d, .int .i64 fb, .int .i64 fa, .int .i64 tb, .int .i64 ta, .int .i64 car, .int .i64 rk]] w fun e w' => e = .returned (.int .i64 (codeM m ⟨4, d, fb, fa, tb, ta, car, rk⟩)) ∧ Up w w' := by
  have hc := valid_cases hx.1
  have hx1 := hx.2.1
  have hx2 := hx.2.2
  dsimp only at hc hx1 hx2
  have hr := hi.rack
  have hw := hi.wd
  have hn := hi.nl
  have hfit : fitsM m ⟨4, d, fb, fa, tb, ta, car, rk⟩ = true := by simp [fitsM]
  have hC : codeM m ⟨4, d, fb, fa, tb, ta, car, rk⟩ = 7 := by simp [codeM, makesB, hplace, hnone, hfit]
  rw [hC]
  clear hC
  have y1 : decide (m.wd ≤ fa) = false := decide_eq_false (by omega)
  have y2 : decide (m.wd ≤ ta) = false := decide_eq_false (by omega)
  have X := Lib.hid (h)
  have U := Lib.hid ((Chg.refl Nowhere w))
  have cw := h.c0.1
  obtain ⟨g, v, hH, -⟩ := h.hold hi (b := fb) (a := fa) ⟨by omega, by omega, by omega⟩
  obtain ⟨Af, cf, rfl, hlf, hcf, -⟩ := hH.own.ints.shape
  have H := Lib.hid (hH)
  have ch := hH.cell.1
  obtain ⟨gt, vt, hT, -⟩ := h.hold hi (b := tb) (a := ta) ⟨by omega, by omega, by omega⟩
  obtain ⟨At, ct, rfl, hlt, hct, -⟩ := hT.own.ints.shape
  have T := Lib.hid (hT)
  have ct' := hT.cell.1
  have y5 : (((onM m fb fa).length : Int) == 0) = true := by simpa using (show ((onM m fb fa).length : Int) = 0 by omega)
  have Hx := Lib.hid hx
  have Hi := Lib.hid hi
  have Hf := Lib.hid hfit
  have hq : 3 - fb = tb ∧ (fb = 1 ∨ fb = 2) ∧ (0 ≤ fa ∧ fa ≤ 100) := by omega
  have Hq := Lib.hid hq
  have Hr := Lib.hid hr
  have Hw := Lib.hid hw
  have hfv : faceM fb fa m.rack = ta := by unfold faceM; unfold placeM at hplace; split <;> simp_all <;> omega
  have hff : inB ta 0 (m.wd - 1) = true := by unfold inB; exact decide_eq_true (by omega)
  have Hff := Lib.hid hff
  have Hfv := Lib.hid hfv
  clear hc hx hi hr hw hfit h hx1 hx2 hn hH hT hq hff hfv
  clear hplace
  clear hnone
  replace X := Lib.hid (X.out.up ((Chg.refl Nowhere w).alloc (.cells #[.int .i64 4, .int .i64 d, .int .i64 fb, .int .i64 fa, .int .i64 tb, .int .i64 ta, .int .i64 car, .int .i64 rk] 44)))
  replace U := Lib.hid (Chg.trans U.out ((Chg.refl Nowhere w).alloc (.cells #[.int .i64 4, .int .i64 d, .int .i64 fb, .int .i64 fa, .int .i64 tb, .int .i64 ta, .int .i64 car, .int .i64 rk] 44)))
  replace cw := Chg.cell ((Chg.refl Nowhere w).alloc (.cells #[.int .i64 4, .int .i64 d, .int .i64 fb, .int .i64 fa, .int .i64 tb, .int .i64 ta, .int .i64 car, .int .i64 rk] 44)) cw id
  replace H := Lib.hid (H.out.up ((Chg.refl Nowhere w).alloc (.cells #[.int .i64 4, .int .i64 d, .int .i64 fb, .int .i64 fa, .int .i64 tb, .int .i64 ta, .int .i64 car, .int .i64 rk] 44)))
  replace ch := Chg.cell ((Chg.refl Nowhere w).alloc (.cells #[.int .i64 4, .int .i64 d, .int .i64 fb, .int .i64 fa, .int .i64 tb, .int .i64 ta, .int .i64 car, .int .i64 rk] 44)) ch id
  replace T := Lib.hid (T.out.up ((Chg.refl Nowhere w).alloc (.cells #[.int .i64 4, .int .i64 d, .int .i64 fb, .int .i64 fa, .int .i64 tb, .int .i64 ta, .int .i64 car, .int .i64 rk] 44)))
  replace ct' := Chg.cell ((Chg.refl Nowhere w).alloc (.cells #[.int .i64 4, .int .i64 d, .int .i64 fb, .int .i64 fa, .int .i64 tb, .int .i64 ta, .int .i64 car, .int .i64 rk] 44)) ct' id
  obtain ⟨b0, b1, b2, b3, b4, b5, b6, b7⟩ := box8 w (.int .i64 4) (.int .i64 d) (.int .i64 fb) (.int .i64 fa) (.int .i64 tb) (.int .i64 ta) (.int .i64 car) (.int .i64 rk) 44
  have hbx23 : w.heap.size < (w.alloc (.cells #[.int .i64 4, .int .i64 d, .int .i64 fb, .int .i64 fa, .int .i64 tb, .int .i64 ta, .int .i64 car, .int .i64 rk] 44)).heap.size := by simp
  go_enter Tryz.func79, Tryz.ntmps79
  go_wp2
  have qcw_10 := up_cell cw
  have qb3_18 := up_cell b3
  have qb5_20 := up_cell b5
  refine wp_region_up (by kernel_rfl) (by kernel_rfl) ?_
  repeat (go_big_quiet_step (fail))
  refine wpQuiet_nil ?_
  rintro u ⟨u0, hu⟩
  have gu := hu ▸ u0.up
  clear hu u0
  have hzu24 := gu.size
  clear qcw_10
  clear qb3_18
  clear qb5_20
  replace X := Lib.hid (X.out.up (tt gu))
  replace U := Lib.hid (Chg.trans U.out (tt gu))
  replace cw := Chg.cell (tt gu) cw id
  replace H := Lib.hid (H.out.up (tt gu))
  replace ch := Chg.cell (tt gu) ch id
  replace T := Lib.hid (T.out.up (tt gu))
  replace ct' := Chg.cell (tt gu) ct' id
  have hh := cc8 (tt gu) b0 b1 b2 b3 b4 b5 b6 b7
  clear b0 b1 b2 b3 b4 b5 b6 b7
  obtain ⟨b0, b1, b2, b3, b4, b5, b6, b7⟩ := hh
  clear gu
  go_wp2_with fail
  refine (carrierFits_b _ X.out Hi.out ⟨4, d, fb, fa, tb, ta, car, rk⟩ Hx.out true Hf.out).mono ?_
  rintro e w40 ⟨rfl, g1⟩
  have G1 := Lib.hid g1
  have hz40 := G1.out.size
  clear g1
  replace X := Lib.hid (X.out.up (tt G1.out))
  replace U := Lib.hid (Chg.trans U.out (tt G1.out))
  replace cw := Chg.cell (tt G1.out) cw id
  replace H := Lib.hid (H.out.up (tt G1.out))
  replace ch := Chg.cell (tt G1.out) ch id
  replace T := Lib.hid (T.out.up (tt G1.out))
  replace ct' := Chg.cell (tt G1.out) ct' id
  have hh := cc8 (tt G1.out) b0 b1 b2 b3 b4 b5 b6 b7
  clear b0 b1 b2 b3 b4 b5 b6 b7
  obtain ⟨b0, b1, b2, b3, b4, b5, b6, b7⟩ := hh
  clear G1
  clear Hf
  go_wp2_with fail
  refine (makesLoop_b _ 4 false (by unfold makesB; simp)).mono ?_
  rintro e w' ⟨rfl, rfl⟩
  go_wp2_with fail
  refine (facing_b _ p m.wd m.rack fb fa tb ta true X.out.c0 X.out.c1 Hq.out.2.1 Hq.out.2.2 Hr.out Hw.out Hq.out.1 Hfv.out Hff.out).mono ?_
  rintro e w57 ⟨rfl, g1⟩
  have G1 := Lib.hid g1
  have hz57 := G1.out.size
  clear g1
  replace X := Lib.hid (X.out.up (tt G1.out))
  replace U := Lib.hid (Chg.trans U.out (tt G1.out))
  replace cw := Chg.cell (tt G1.out) cw id
  replace H := Lib.hid (H.out.up (tt G1.out))
  replace ch := Chg.cell (tt G1.out) ch id
  replace T := Lib.hid (T.out.up (tt G1.out))
  replace ct' := Chg.cell (tt G1.out) ct' id
  have hh := cc8 (tt G1.out) b0 b1 b2 b3 b4 b5 b6 b7
  clear b0 b1 b2 b3 b4 b5 b6 b7
  obtain ⟨b0, b1, b2, b3, b4, b5, b6, b7⟩ := hh
  clear G1
  replace X := Lib.hid (X.out.up ((Chg.refl Nowhere w57).alloc (.cells #[.int .i64 tb, .int .i64 ta] 42)))
  replace U := Lib.hid (Chg.trans U.out ((Chg.refl Nowhere w57).alloc (.cells #[.int .i64 tb, .int .i64 ta] 42)))
  replace cw := Chg.cell ((Chg.refl Nowhere w57).alloc (.cells #[.int .i64 tb, .int .i64 ta] 42)) cw id
  replace H := Lib.hid (H.out.up ((Chg.refl Nowhere w57).alloc (.cells #[.int .i64 tb, .int .i64 ta] 42)))
  replace ch := Chg.cell ((Chg.refl Nowhere w57).alloc (.cells #[.int .i64 tb, .int .i64 ta] 42)) ch id
  replace T := Lib.hid (T.out.up ((Chg.refl Nowhere w57).alloc (.cells #[.int .i64 tb, .int .i64 ta] 42)))
  replace ct' := Chg.cell ((Chg.refl Nowhere w57).alloc (.cells #[.int .i64 tb, .int .i64 ta] 42)) ct' id
  replace b0 := Chg.cell ((Chg.refl Nowhere w57).alloc (.cells #[.int .i64 tb, .int .i64 ta] 42)) b0 id
  replace b1 := Chg.cell ((Chg.refl Nowhere w57).alloc (.cells #[.int .i64 tb, .int .i64 ta] 42)) b1 id
  replace b2 := Chg.cell ((Chg.refl Nowhere w57).alloc (.cells #[.int .i64 tb, .int .i64 ta] 42)) b2 id
  replace b3 := Chg.cell ((Chg.refl Nowhere w57).alloc (.cells #[.int .i64 tb, .int .i64 ta] 42)) b3 id
  replace b4 := Chg.cell ((Chg.refl Nowhere w57).alloc (.cells #[.int .i64 tb, .int .i64 ta] 42)) b4 id
  replace b5 := Chg.cell ((Chg.refl Nowhere w57).alloc (.cells #[.int .i64 tb, .int .i64 ta] 42)) b5 id
  replace b6 := Chg.cell ((Chg.refl Nowhere w57).alloc (.cells #[.int .i64 tb, .int .i64 ta] 42)) b6 id
  replace b7 := Chg.cell ((Chg.refl Nowhere w57).alloc (.cells #[.int .i64 tb, .int .i64 ta] 42)) b7 id
  go_wp2_with fail
  refine (on_any _ p fb fa g _ _ H.out).mono ?_
  rintro e w88 ⟨rfl, g1⟩
  have G1 := Lib.hid g1
  have hz88 := G1.out.size
  clear g1
  replace X := Lib.hid (X.out.up (tt G1.out))
  replace U := Lib.hid (Chg.trans U.out (tt G1.out))
  replace cw := Chg.cell (tt G1.out) cw id
  replace H := Lib.hid (H.out.up (tt G1.out))
  replace ch := Chg.cell (tt G1.out) ch id
  replace T := Lib.hid (T.out.up (tt G1.out))
  replace ct' := Chg.cell (tt G1.out) ct' id
  have hh := cc8 (tt G1.out) b0 b1 b2 b3 b4 b5 b6 b7
  clear b0 b1 b2 b3 b4 b5 b6 b7
  obtain ⟨b0, b1, b2, b3, b4, b5, b6, b7⟩ := hh
  clear G1
  all_goals go_wp2
  all_goals go_ret
  all_goals exact ⟨rfl, (Chg.trans U.out (by repeat (first | exact Chg.refl _ _ | apply Chg.drew | apply Chg.drewN | refine Chg.alloc ?_ _)))⟩
theorem opCode_4_many (w : World) {S : Nat → Prop} {K p : Nat} {m : MachM} {F B C L D : Value} {fs bs : List Value} (h : MachX w S K p m F B C L D fs bs) (hi : MInv m) (d fb fa tb ta car rk : Int) (hx : okOp m.wd ⟨4, d, fb, fa, tb, ta, car, rk⟩) (hplace : placeM fb fa m.rack = placeM tb ta m.rack) (hnone : (onM m fb fa).length ≠ 0) (hmany : 4 < (onM m fb fa).length + (onM m tb ta).length) :
    Calls Tryz.prog 79 #[.pointer (some ⟨p, 0, none⟩), .agg #[.int .i64 4, .int .i64 d, .int .i64 fb, .int .i64 fa, .int .i64 tb, .int .i64 ta, .int .i64 car, .int .i64 rk]] w fun e w' => e = .returned (.int .i64 (codeM m ⟨4, d, fb, fa, tb, ta, car, rk⟩)) ∧ Up w w' := by
  have hc := valid_cases hx.1
  have hx1 := hx.2.1
  have hx2 := hx.2.2
  dsimp only at hc hx1 hx2
  have hr := hi.rack
  have hw := hi.wd
  have hn := hi.nl
  have hfit : fitsM m ⟨4, d, fb, fa, tb, ta, car, rk⟩ = true := by simp [fitsM]
  have hC : codeM m ⟨4, d, fb, fa, tb, ta, car, rk⟩ = 5 := by simp [codeM, makesB, hplace, hnone, hmany, hfit]
  rw [hC]
  clear hC
  have y1 : decide (m.wd ≤ fa) = false := decide_eq_false (by omega)
  have y2 : decide (m.wd ≤ ta) = false := decide_eq_false (by omega)
  have X := Lib.hid (h)
  have U := Lib.hid ((Chg.refl Nowhere w))
  have cw := h.c0.1
  obtain ⟨g, v, hH, -⟩ := h.hold hi (b := fb) (a := fa) ⟨by omega, by omega, by omega⟩
  obtain ⟨Af, cf, rfl, hlf, hcf, -⟩ := hH.own.ints.shape
  have H := Lib.hid (hH)
  have ch := hH.cell.1
  obtain ⟨gt, vt, hT, -⟩ := h.hold hi (b := tb) (a := ta) ⟨by omega, by omega, by omega⟩
  obtain ⟨At, ct, rfl, hlt, hct, -⟩ := hT.own.ints.shape
  have T := Lib.hid (hT)
  have ct' := hT.cell.1
  have y5 : (((onM m fb fa).length : Int) == 0) = false := by simpa using (show ¬ ((onM m fb fa).length : Int) = 0 by omega)
  have Hx := Lib.hid hx
  have Hi := Lib.hid hi
  have Hf := Lib.hid hfit
  have hq : 3 - fb = tb ∧ (fb = 1 ∨ fb = 2) ∧ (0 ≤ fa ∧ fa ≤ 100) := by omega
  have Hq := Lib.hid hq
  have Hr := Lib.hid hr
  have Hw := Lib.hid hw
  have hfv : faceM fb fa m.rack = ta := by unfold faceM; unfold placeM at hplace; split <;> simp_all <;> omega
  have hff : inB ta 0 (m.wd - 1) = true := by unfold inB; exact decide_eq_true (by omega)
  have Hff := Lib.hid hff
  have Hfv := Lib.hid hfv
  have y6 : decide (4 < ((onM m fb fa).length : Int) + ((onM m tb ta).length : Int)) = true := decide_eq_true (by omega)
  have hz1 : (onM m fb fa).length ≤ 4 ∧ (onM m tb ta).length ≤ 4 := ⟨(hi.on_ fb fa).1, (hi.on_ tb ta).1⟩
  have y7 : IntKind.i64.wrap (((onM m fb fa).length : Int) + ((onM m tb ta).length : Int)) = ((onM m fb fa).length : Int) + ((onM m tb ta).length : Int) := IntWalk.i64_in _ (by omega)
  clear hz1
  clear hc hx hi hr hw hfit h hx1 hx2 hn hH hT hq hff hfv
  clear hplace
  clear hnone
  clear hmany
  replace X := Lib.hid (X.out.up ((Chg.refl Nowhere w).alloc (.cells #[.int .i64 4, .int .i64 d, .int .i64 fb, .int .i64 fa, .int .i64 tb, .int .i64 ta, .int .i64 car, .int .i64 rk] 44)))
  replace U := Lib.hid (Chg.trans U.out ((Chg.refl Nowhere w).alloc (.cells #[.int .i64 4, .int .i64 d, .int .i64 fb, .int .i64 fa, .int .i64 tb, .int .i64 ta, .int .i64 car, .int .i64 rk] 44)))
  replace cw := Chg.cell ((Chg.refl Nowhere w).alloc (.cells #[.int .i64 4, .int .i64 d, .int .i64 fb, .int .i64 fa, .int .i64 tb, .int .i64 ta, .int .i64 car, .int .i64 rk] 44)) cw id
  replace H := Lib.hid (H.out.up ((Chg.refl Nowhere w).alloc (.cells #[.int .i64 4, .int .i64 d, .int .i64 fb, .int .i64 fa, .int .i64 tb, .int .i64 ta, .int .i64 car, .int .i64 rk] 44)))
  replace ch := Chg.cell ((Chg.refl Nowhere w).alloc (.cells #[.int .i64 4, .int .i64 d, .int .i64 fb, .int .i64 fa, .int .i64 tb, .int .i64 ta, .int .i64 car, .int .i64 rk] 44)) ch id
  replace T := Lib.hid (T.out.up ((Chg.refl Nowhere w).alloc (.cells #[.int .i64 4, .int .i64 d, .int .i64 fb, .int .i64 fa, .int .i64 tb, .int .i64 ta, .int .i64 car, .int .i64 rk] 44)))
  replace ct' := Chg.cell ((Chg.refl Nowhere w).alloc (.cells #[.int .i64 4, .int .i64 d, .int .i64 fb, .int .i64 fa, .int .i64 tb, .int .i64 ta, .int .i64 car, .int .i64 rk] 44)) ct' id
  obtain ⟨b0, b1, b2, b3, b4, b5, b6, b7⟩ := box8 w (.int .i64 4) (.int .i64 d) (.int .i64 fb) (.int .i64 fa) (.int .i64 tb) (.int .i64 ta) (.int .i64 car) (.int .i64 rk) 44
  have hbx23 : w.heap.size < (w.alloc (.cells #[.int .i64 4, .int .i64 d, .int .i64 fb, .int .i64 fa, .int .i64 tb, .int .i64 ta, .int .i64 car, .int .i64 rk] 44)).heap.size := by simp
  go_enter Tryz.func79, Tryz.ntmps79
  go_wp2
  have qcw_10 := up_cell cw
  have qb3_18 := up_cell b3
  have qb5_20 := up_cell b5
  refine wp_region_up (by kernel_rfl) (by kernel_rfl) ?_
  repeat (go_big_quiet_step (fail))
  refine wpQuiet_nil ?_
  rintro u ⟨u0, hu⟩
  have gu := hu ▸ u0.up
  clear hu u0
  have hzu24 := gu.size
  clear qcw_10
  clear qb3_18
  clear qb5_20
  replace X := Lib.hid (X.out.up (tt gu))
  replace U := Lib.hid (Chg.trans U.out (tt gu))
  replace cw := Chg.cell (tt gu) cw id
  replace H := Lib.hid (H.out.up (tt gu))
  replace ch := Chg.cell (tt gu) ch id
  replace T := Lib.hid (T.out.up (tt gu))
  replace ct' := Chg.cell (tt gu) ct' id
  have hh := cc8 (tt gu) b0 b1 b2 b3 b4 b5 b6 b7
  clear b0 b1 b2 b3 b4 b5 b6 b7
  obtain ⟨b0, b1, b2, b3, b4, b5, b6, b7⟩ := hh
  clear gu
  go_wp2_with fail
  refine (carrierFits_b _ X.out Hi.out ⟨4, d, fb, fa, tb, ta, car, rk⟩ Hx.out true Hf.out).mono ?_
  rintro e w40 ⟨rfl, g1⟩
  have G1 := Lib.hid g1
  have hz40 := G1.out.size
  clear g1
  replace X := Lib.hid (X.out.up (tt G1.out))
  replace U := Lib.hid (Chg.trans U.out (tt G1.out))
  replace cw := Chg.cell (tt G1.out) cw id
  replace H := Lib.hid (H.out.up (tt G1.out))
  replace ch := Chg.cell (tt G1.out) ch id
  replace T := Lib.hid (T.out.up (tt G1.out))
  replace ct' := Chg.cell (tt G1.out) ct' id
  have hh := cc8 (tt G1.out) b0 b1 b2 b3 b4 b5 b6 b7
  clear b0 b1 b2 b3 b4 b5 b6 b7
  obtain ⟨b0, b1, b2, b3, b4, b5, b6, b7⟩ := hh
  clear G1
  clear Hf
  go_wp2_with fail
  refine (makesLoop_b _ 4 false (by unfold makesB; simp)).mono ?_
  rintro e w' ⟨rfl, rfl⟩
  go_wp2_with fail
  refine (facing_b _ p m.wd m.rack fb fa tb ta true X.out.c0 X.out.c1 Hq.out.2.1 Hq.out.2.2 Hr.out Hw.out Hq.out.1 Hfv.out Hff.out).mono ?_
  rintro e w57 ⟨rfl, g1⟩
  have G1 := Lib.hid g1
  have hz57 := G1.out.size
  clear g1
  replace X := Lib.hid (X.out.up (tt G1.out))
  replace U := Lib.hid (Chg.trans U.out (tt G1.out))
  replace cw := Chg.cell (tt G1.out) cw id
  replace H := Lib.hid (H.out.up (tt G1.out))
  replace ch := Chg.cell (tt G1.out) ch id
  replace T := Lib.hid (T.out.up (tt G1.out))
  replace ct' := Chg.cell (tt G1.out) ct' id
  have hh := cc8 (tt G1.out) b0 b1 b2 b3 b4 b5 b6 b7
  clear b0 b1 b2 b3 b4 b5 b6 b7
  obtain ⟨b0, b1, b2, b3, b4, b5, b6, b7⟩ := hh
  clear G1
  replace X := Lib.hid (X.out.up ((Chg.refl Nowhere w57).alloc (.cells #[.int .i64 tb, .int .i64 ta] 42)))
  replace U := Lib.hid (Chg.trans U.out ((Chg.refl Nowhere w57).alloc (.cells #[.int .i64 tb, .int .i64 ta] 42)))
  replace cw := Chg.cell ((Chg.refl Nowhere w57).alloc (.cells #[.int .i64 tb, .int .i64 ta] 42)) cw id
  replace H := Lib.hid (H.out.up ((Chg.refl Nowhere w57).alloc (.cells #[.int .i64 tb, .int .i64 ta] 42)))
  replace ch := Chg.cell ((Chg.refl Nowhere w57).alloc (.cells #[.int .i64 tb, .int .i64 ta] 42)) ch id
  replace T := Lib.hid (T.out.up ((Chg.refl Nowhere w57).alloc (.cells #[.int .i64 tb, .int .i64 ta] 42)))
  replace ct' := Chg.cell ((Chg.refl Nowhere w57).alloc (.cells #[.int .i64 tb, .int .i64 ta] 42)) ct' id
  replace b0 := Chg.cell ((Chg.refl Nowhere w57).alloc (.cells #[.int .i64 tb, .int .i64 ta] 42)) b0 id
  replace b1 := Chg.cell ((Chg.refl Nowhere w57).alloc (.cells #[.int .i64 tb, .int .i64 ta] 42)) b1 id
  replace b2 := Chg.cell ((Chg.refl Nowhere w57).alloc (.cells #[.int .i64 tb, .int .i64 ta] 42)) b2 id
  replace b3 := Chg.cell ((Chg.refl Nowhere w57).alloc (.cells #[.int .i64 tb, .int .i64 ta] 42)) b3 id
  replace b4 := Chg.cell ((Chg.refl Nowhere w57).alloc (.cells #[.int .i64 tb, .int .i64 ta] 42)) b4 id
  replace b5 := Chg.cell ((Chg.refl Nowhere w57).alloc (.cells #[.int .i64 tb, .int .i64 ta] 42)) b5 id
  replace b6 := Chg.cell ((Chg.refl Nowhere w57).alloc (.cells #[.int .i64 tb, .int .i64 ta] 42)) b6 id
  replace b7 := Chg.cell ((Chg.refl Nowhere w57).alloc (.cells #[.int .i64 tb, .int .i64 ta] 42)) b7 id
  go_wp2_with fail
  refine (on_any _ p fb fa g _ _ H.out).mono ?_
  rintro e w88 ⟨rfl, g1⟩
  have G1 := Lib.hid g1
  have hz88 := G1.out.size
  clear g1
  replace X := Lib.hid (X.out.up (tt G1.out))
  replace U := Lib.hid (Chg.trans U.out (tt G1.out))
  replace cw := Chg.cell (tt G1.out) cw id
  replace H := Lib.hid (H.out.up (tt G1.out))
  replace ch := Chg.cell (tt G1.out) ch id
  replace T := Lib.hid (T.out.up (tt G1.out))
  replace ct' := Chg.cell (tt G1.out) ct' id
  have hh := cc8 (tt G1.out) b0 b1 b2 b3 b4 b5 b6 b7
  clear b0 b1 b2 b3 b4 b5 b6 b7
  obtain ⟨b0, b1, b2, b3, b4, b5, b6, b7⟩ := hh
  clear G1
  go_wp2
  have qcw_91 := up_cell cw
  have qch_93 := up_cell ch
  have qct_95 := up_cell ct'
  have qb0_96 := up_cell b0
  have qb1_97 := up_cell b1
  have qb2_98 := up_cell b2
  have qb3_99 := up_cell b3
  have qb4_100 := up_cell b4
  have qb5_101 := up_cell b5
  have qb6_102 := up_cell b6
  have qb7_103 := up_cell b7
  have EH := Lib.hid (fun u' : UpOf _ => H.out.up u'.up)
  have ET := Lib.hid (fun u' : UpOf _ => T.out.up u'.up)
  refine wp_region_up (by kernel_rfl) (by kernel_rfl) ?_
  repeat (go_big_quiet_step (first | (go_at_call 80; with_reducible exact calls_up (on_any _ p fb fa g _ _ (EH.out _))) | (go_at_call 80; with_reducible exact calls_up (on_any _ p tb ta gt _ _ (ET.out _)))))
  refine wpQuiet_nil ?_
  rintro u2 ⟨u0, hu⟩
  have gu := hu ▸ u0.up
  clear hu u0
  have hzu104 := gu.size
  replace X := Lib.hid (X.out.up (tt gu))
  replace U := Lib.hid (Chg.trans U.out (tt gu))
  replace cw := Chg.cell (tt gu) cw id
  replace H := Lib.hid (H.out.up (tt gu))
  replace ch := Chg.cell (tt gu) ch id
  replace T := Lib.hid (T.out.up (tt gu))
  replace ct' := Chg.cell (tt gu) ct' id
  have hh := cc8 (tt gu) b0 b1 b2 b3 b4 b5 b6 b7
  clear b0 b1 b2 b3 b4 b5 b6 b7
  obtain ⟨b0, b1, b2, b3, b4, b5, b6, b7⟩ := hh
  all_goals go_wp2
  all_goals go_ret
  all_goals exact ⟨rfl, (Chg.trans U.out (by repeat (first | exact Chg.refl _ _ | apply Chg.drew | apply Chg.drewN | refine Chg.alloc ?_ _)))⟩
theorem opCode_4_ok (w : World) {S : Nat → Prop} {K p : Nat} {m : MachM} {F B C L D : Value} {fs bs : List Value} (h : MachX w S K p m F B C L D fs bs) (hi : MInv m) (d fb fa tb ta car rk : Int) (hx : okOp m.wd ⟨4, d, fb, fa, tb, ta, car, rk⟩) (hplace : placeM fb fa m.rack = placeM tb ta m.rack) (hnone : (onM m fb fa).length ≠ 0) (hmany : ¬ 4 < (onM m fb fa).length + (onM m tb ta).length) :
    Calls Tryz.prog 79 #[.pointer (some ⟨p, 0, none⟩), .agg #[.int .i64 4, .int .i64 d, .int .i64 fb, .int .i64 fa, .int .i64 tb, .int .i64 ta, .int .i64 car, .int .i64 rk]] w fun e w' => e = .returned (.int .i64 (codeM m ⟨4, d, fb, fa, tb, ta, car, rk⟩)) ∧ Up w w' := by
  have hc := valid_cases hx.1
  have hx1 := hx.2.1
  have hx2 := hx.2.2
  dsimp only at hc hx1 hx2
  have hr := hi.rack
  have hw := hi.wd
  have hn := hi.nl
  have hfit : fitsM m ⟨4, d, fb, fa, tb, ta, car, rk⟩ = true := by simp [fitsM]
  have hC : codeM m ⟨4, d, fb, fa, tb, ta, car, rk⟩ = 0 := by simp [codeM, makesB, hplace, hnone, hmany, hfit]
  rw [hC]
  clear hC
  have y1 : decide (m.wd ≤ fa) = false := decide_eq_false (by omega)
  have y2 : decide (m.wd ≤ ta) = false := decide_eq_false (by omega)
  have X := Lib.hid (h)
  have U := Lib.hid ((Chg.refl Nowhere w))
  have cw := h.c0.1
  obtain ⟨g, v, hH, -⟩ := h.hold hi (b := fb) (a := fa) ⟨by omega, by omega, by omega⟩
  obtain ⟨Af, cf, rfl, hlf, hcf, -⟩ := hH.own.ints.shape
  have H := Lib.hid (hH)
  have ch := hH.cell.1
  obtain ⟨gt, vt, hT, -⟩ := h.hold hi (b := tb) (a := ta) ⟨by omega, by omega, by omega⟩
  obtain ⟨At, ct, rfl, hlt, hct, -⟩ := hT.own.ints.shape
  have T := Lib.hid (hT)
  have ct' := hT.cell.1
  have y5 : (((onM m fb fa).length : Int) == 0) = false := by simpa using (show ¬ ((onM m fb fa).length : Int) = 0 by omega)
  have Hx := Lib.hid hx
  have Hi := Lib.hid hi
  have Hf := Lib.hid hfit
  have hq : 3 - fb = tb ∧ (fb = 1 ∨ fb = 2) ∧ (0 ≤ fa ∧ fa ≤ 100) := by omega
  have Hq := Lib.hid hq
  have Hr := Lib.hid hr
  have Hw := Lib.hid hw
  have hfv : faceM fb fa m.rack = ta := by unfold faceM; unfold placeM at hplace; split <;> simp_all <;> omega
  have hff : inB ta 0 (m.wd - 1) = true := by unfold inB; exact decide_eq_true (by omega)
  have Hff := Lib.hid hff
  have Hfv := Lib.hid hfv
  have y6 : decide (4 < ((onM m fb fa).length : Int) + ((onM m tb ta).length : Int)) = false := decide_eq_false (by omega)
  have hz1 : (onM m fb fa).length ≤ 4 ∧ (onM m tb ta).length ≤ 4 := ⟨(hi.on_ fb fa).1, (hi.on_ tb ta).1⟩
  have y7 : IntKind.i64.wrap (((onM m fb fa).length : Int) + ((onM m tb ta).length : Int)) = ((onM m fb fa).length : Int) + ((onM m tb ta).length : Int) := IntWalk.i64_in _ (by omega)
  clear hz1
  clear hc hx hi hr hw hfit h hx1 hx2 hn hH hT hq hff hfv
  clear hplace
  clear hnone
  clear hmany
  replace X := Lib.hid (X.out.up ((Chg.refl Nowhere w).alloc (.cells #[.int .i64 4, .int .i64 d, .int .i64 fb, .int .i64 fa, .int .i64 tb, .int .i64 ta, .int .i64 car, .int .i64 rk] 44)))
  replace U := Lib.hid (Chg.trans U.out ((Chg.refl Nowhere w).alloc (.cells #[.int .i64 4, .int .i64 d, .int .i64 fb, .int .i64 fa, .int .i64 tb, .int .i64 ta, .int .i64 car, .int .i64 rk] 44)))
  replace cw := Chg.cell ((Chg.refl Nowhere w).alloc (.cells #[.int .i64 4, .int .i64 d, .int .i64 fb, .int .i64 fa, .int .i64 tb, .int .i64 ta, .int .i64 car, .int .i64 rk] 44)) cw id
  replace H := Lib.hid (H.out.up ((Chg.refl Nowhere w).alloc (.cells #[.int .i64 4, .int .i64 d, .int .i64 fb, .int .i64 fa, .int .i64 tb, .int .i64 ta, .int .i64 car, .int .i64 rk] 44)))
  replace ch := Chg.cell ((Chg.refl Nowhere w).alloc (.cells #[.int .i64 4, .int .i64 d, .int .i64 fb, .int .i64 fa, .int .i64 tb, .int .i64 ta, .int .i64 car, .int .i64 rk] 44)) ch id
  replace T := Lib.hid (T.out.up ((Chg.refl Nowhere w).alloc (.cells #[.int .i64 4, .int .i64 d, .int .i64 fb, .int .i64 fa, .int .i64 tb, .int .i64 ta, .int .i64 car, .int .i64 rk] 44)))
  replace ct' := Chg.cell ((Chg.refl Nowhere w).alloc (.cells #[.int .i64 4, .int .i64 d, .int .i64 fb, .int .i64 fa, .int .i64 tb, .int .i64 ta, .int .i64 car, .int .i64 rk] 44)) ct' id
  obtain ⟨b0, b1, b2, b3, b4, b5, b6, b7⟩ := box8 w (.int .i64 4) (.int .i64 d) (.int .i64 fb) (.int .i64 fa) (.int .i64 tb) (.int .i64 ta) (.int .i64 car) (.int .i64 rk) 44
  have hbx23 : w.heap.size < (w.alloc (.cells #[.int .i64 4, .int .i64 d, .int .i64 fb, .int .i64 fa, .int .i64 tb, .int .i64 ta, .int .i64 car, .int .i64 rk] 44)).heap.size := by simp
  go_enter Tryz.func79, Tryz.ntmps79
  go_wp2
  have qcw_10 := up_cell cw
  have qb3_18 := up_cell b3
  have qb5_20 := up_cell b5
  refine wp_region_up (by kernel_rfl) (by kernel_rfl) ?_
  repeat (go_big_quiet_step (fail))
  refine wpQuiet_nil ?_
  rintro u ⟨u0, hu⟩
  have gu := hu ▸ u0.up
  clear hu u0
  have hzu24 := gu.size
  clear qcw_10
  clear qb3_18
  clear qb5_20
  replace X := Lib.hid (X.out.up (tt gu))
  replace U := Lib.hid (Chg.trans U.out (tt gu))
  replace cw := Chg.cell (tt gu) cw id
  replace H := Lib.hid (H.out.up (tt gu))
  replace ch := Chg.cell (tt gu) ch id
  replace T := Lib.hid (T.out.up (tt gu))
  replace ct' := Chg.cell (tt gu) ct' id
  have hh := cc8 (tt gu) b0 b1 b2 b3 b4 b5 b6 b7
  clear b0 b1 b2 b3 b4 b5 b6 b7
  obtain ⟨b0, b1, b2, b3, b4, b5, b6, b7⟩ := hh
  clear gu
  go_wp2_with fail
  refine (carrierFits_b _ X.out Hi.out ⟨4, d, fb, fa, tb, ta, car, rk⟩ Hx.out true Hf.out).mono ?_
  rintro e w40 ⟨rfl, g1⟩
  have G1 := Lib.hid g1
  have hz40 := G1.out.size
  clear g1
  replace X := Lib.hid (X.out.up (tt G1.out))
  replace U := Lib.hid (Chg.trans U.out (tt G1.out))
  replace cw := Chg.cell (tt G1.out) cw id
  replace H := Lib.hid (H.out.up (tt G1.out))
  replace ch := Chg.cell (tt G1.out) ch id
  replace T := Lib.hid (T.out.up (tt G1.out))
  replace ct' := Chg.cell (tt G1.out) ct' id
  have hh := cc8 (tt G1.out) b0 b1 b2 b3 b4 b5 b6 b7
  clear b0 b1 b2 b3 b4 b5 b6 b7
  obtain ⟨b0, b1, b2, b3, b4, b5, b6, b7⟩ := hh
  clear G1
  clear Hf
  go_wp2_with fail
  refine (makesLoop_b _ 4 false (by unfold makesB; simp)).mono ?_
  rintro e w' ⟨rfl, rfl⟩
  go_wp2_with fail
  refine (facing_b _ p m.wd m.rack fb fa tb ta true X.out.c0 X.out.c1 Hq.out.2.1 Hq.out.2.2 Hr.out Hw.out Hq.out.1 Hfv.out Hff.out).mono ?_
  rintro e w57 ⟨rfl, g1⟩
  have G1 := Lib.hid g1
  have hz57 := G1.out.size
  clear g1
  replace X := Lib.hid (X.out.up (tt G1.out))
  replace U := Lib.hid (Chg.trans U.out (tt G1.out))
  replace cw := Chg.cell (tt G1.out) cw id
  replace H := Lib.hid (H.out.up (tt G1.out))
  replace ch := Chg.cell (tt G1.out) ch id
  replace T := Lib.hid (T.out.up (tt G1.out))
  replace ct' := Chg.cell (tt G1.out) ct' id
  have hh := cc8 (tt G1.out) b0 b1 b2 b3 b4 b5 b6 b7
  clear b0 b1 b2 b3 b4 b5 b6 b7
  obtain ⟨b0, b1, b2, b3, b4, b5, b6, b7⟩ := hh
  clear G1
  replace X := Lib.hid (X.out.up ((Chg.refl Nowhere w57).alloc (.cells #[.int .i64 tb, .int .i64 ta] 42)))
  replace U := Lib.hid (Chg.trans U.out ((Chg.refl Nowhere w57).alloc (.cells #[.int .i64 tb, .int .i64 ta] 42)))
  replace cw := Chg.cell ((Chg.refl Nowhere w57).alloc (.cells #[.int .i64 tb, .int .i64 ta] 42)) cw id
  replace H := Lib.hid (H.out.up ((Chg.refl Nowhere w57).alloc (.cells #[.int .i64 tb, .int .i64 ta] 42)))
  replace ch := Chg.cell ((Chg.refl Nowhere w57).alloc (.cells #[.int .i64 tb, .int .i64 ta] 42)) ch id
  replace T := Lib.hid (T.out.up ((Chg.refl Nowhere w57).alloc (.cells #[.int .i64 tb, .int .i64 ta] 42)))
  replace ct' := Chg.cell ((Chg.refl Nowhere w57).alloc (.cells #[.int .i64 tb, .int .i64 ta] 42)) ct' id
  replace b0 := Chg.cell ((Chg.refl Nowhere w57).alloc (.cells #[.int .i64 tb, .int .i64 ta] 42)) b0 id
  replace b1 := Chg.cell ((Chg.refl Nowhere w57).alloc (.cells #[.int .i64 tb, .int .i64 ta] 42)) b1 id
  replace b2 := Chg.cell ((Chg.refl Nowhere w57).alloc (.cells #[.int .i64 tb, .int .i64 ta] 42)) b2 id
  replace b3 := Chg.cell ((Chg.refl Nowhere w57).alloc (.cells #[.int .i64 tb, .int .i64 ta] 42)) b3 id
  replace b4 := Chg.cell ((Chg.refl Nowhere w57).alloc (.cells #[.int .i64 tb, .int .i64 ta] 42)) b4 id
  replace b5 := Chg.cell ((Chg.refl Nowhere w57).alloc (.cells #[.int .i64 tb, .int .i64 ta] 42)) b5 id
  replace b6 := Chg.cell ((Chg.refl Nowhere w57).alloc (.cells #[.int .i64 tb, .int .i64 ta] 42)) b6 id
  replace b7 := Chg.cell ((Chg.refl Nowhere w57).alloc (.cells #[.int .i64 tb, .int .i64 ta] 42)) b7 id
  go_wp2_with fail
  refine (on_any _ p fb fa g _ _ H.out).mono ?_
  rintro e w88 ⟨rfl, g1⟩
  have G1 := Lib.hid g1
  have hz88 := G1.out.size
  clear g1
  replace X := Lib.hid (X.out.up (tt G1.out))
  replace U := Lib.hid (Chg.trans U.out (tt G1.out))
  replace cw := Chg.cell (tt G1.out) cw id
  replace H := Lib.hid (H.out.up (tt G1.out))
  replace ch := Chg.cell (tt G1.out) ch id
  replace T := Lib.hid (T.out.up (tt G1.out))
  replace ct' := Chg.cell (tt G1.out) ct' id
  have hh := cc8 (tt G1.out) b0 b1 b2 b3 b4 b5 b6 b7
  clear b0 b1 b2 b3 b4 b5 b6 b7
  obtain ⟨b0, b1, b2, b3, b4, b5, b6, b7⟩ := hh
  clear G1
  go_wp2
  have qcw_91 := up_cell cw
  have qch_93 := up_cell ch
  have qct_95 := up_cell ct'
  have qb0_96 := up_cell b0
  have qb1_97 := up_cell b1
  have qb2_98 := up_cell b2
  have qb3_99 := up_cell b3
  have qb4_100 := up_cell b4
  have qb5_101 := up_cell b5
  have qb6_102 := up_cell b6
  have qb7_103 := up_cell b7
  have EH := Lib.hid (fun u' : UpOf _ => H.out.up u'.up)
  have ET := Lib.hid (fun u' : UpOf _ => T.out.up u'.up)
  refine wp_region_up (by kernel_rfl) (by kernel_rfl) ?_
  repeat (go_big_quiet_step (first | (go_at_call 80; with_reducible exact calls_up (on_any _ p fb fa g _ _ (EH.out _))) | (go_at_call 80; with_reducible exact calls_up (on_any _ p tb ta gt _ _ (ET.out _)))))
  refine wpQuiet_nil ?_
  rintro u2 ⟨u0, hu⟩
  have gu := hu ▸ u0.up
  clear hu u0
  have hzu104 := gu.size
  replace X := Lib.hid (X.out.up (tt gu))
  replace U := Lib.hid (Chg.trans U.out (tt gu))
  replace cw := Chg.cell (tt gu) cw id
  replace H := Lib.hid (H.out.up (tt gu))
  replace ch := Chg.cell (tt gu) ch id
  replace T := Lib.hid (T.out.up (tt gu))
  replace ct' := Chg.cell (tt gu) ct' id
  have hh := cc8 (tt gu) b0 b1 b2 b3 b4 b5 b6 b7
  clear b0 b1 b2 b3 b4 b5 b6 b7
  obtain ⟨b0, b1, b2, b3, b4, b5, b6, b7⟩ := hh
  all_goals go_wp2
  all_goals go_ret
  all_goals exact ⟨rfl, (Chg.trans U.out (by repeat (first | exact Chg.refl _ _ | apply Chg.drew | apply Chg.drewN | refine Chg.alloc ?_ _)))⟩
theorem opCode_5_fit (w : World) {S : Nat → Prop} {K p : Nat} {m : MachM} {F B C L D : Value} {fs bs : List Value} (h : MachX w S K p m F B C L D fs bs) (hi : MInv m) (d fb fa tb ta car rk : Int) (hx : okOp m.wd ⟨5, d, fb, fa, tb, ta, car, rk⟩)  (hfit : fitsM m ⟨5, d, fb, fa, tb, ta, car, rk⟩ = false) :
    Calls Tryz.prog 79 #[.pointer (some ⟨p, 0, none⟩), .agg #[.int .i64 5, .int .i64 d, .int .i64 fb, .int .i64 fa, .int .i64 tb, .int .i64 ta, .int .i64 car, .int .i64 rk]] w fun e w' => e = .returned (.int .i64 (codeM m ⟨5, d, fb, fa, tb, ta, car, rk⟩)) ∧ Up w w' := by
  have hc := valid_cases hx.1
  have hx1 := hx.2.1
  have hx2 := hx.2.2
  dsimp only at hc hx1 hx2
  have hr := hi.rack
  have hw := hi.wd
  have hn := hi.nl
  have hC : codeM m ⟨5, d, fb, fa, tb, ta, car, rk⟩ = 9 := by simp [codeM, makesB, hfit]
  rw [hC]
  clear hC
  have y1 : decide (m.wd ≤ fa) = false := decide_eq_false (by omega)
  have y2 : decide (m.wd ≤ ta) = false := decide_eq_false (by omega)
  obtain ⟨csL, hL⟩ := h.l
  obtain ⟨A5, c5, rfl, hl5, hc5, -⟩ := ownsRow_shape hL
  clear hL hl5 hc5
  have X := Lib.hid (h)
  have U := Lib.hid ((Chg.refl Nowhere w))
  have cw := h.c0.1
  have cl := h.c5.1
  have Hx := Lib.hid hx
  have Hi := Lib.hid hi
  have Hf := Lib.hid hfit
  clear hc hx hi hr hw hfit h hx1 hx2 hn
  replace X := Lib.hid (X.out.up ((Chg.refl Nowhere w).alloc (.cells #[.int .i64 5, .int .i64 d, .int .i64 fb, .int .i64 fa, .int .i64 tb, .int .i64 ta, .int .i64 car, .int .i64 rk] 44)))
  replace U := Lib.hid (Chg.trans U.out ((Chg.refl Nowhere w).alloc (.cells #[.int .i64 5, .int .i64 d, .int .i64 fb, .int .i64 fa, .int .i64 tb, .int .i64 ta, .int .i64 car, .int .i64 rk] 44)))
  replace cw := Chg.cell ((Chg.refl Nowhere w).alloc (.cells #[.int .i64 5, .int .i64 d, .int .i64 fb, .int .i64 fa, .int .i64 tb, .int .i64 ta, .int .i64 car, .int .i64 rk] 44)) cw id
  replace cl := Chg.cell ((Chg.refl Nowhere w).alloc (.cells #[.int .i64 5, .int .i64 d, .int .i64 fb, .int .i64 fa, .int .i64 tb, .int .i64 ta, .int .i64 car, .int .i64 rk] 44)) cl id
  obtain ⟨b0, b1, b2, b3, b4, b5, b6, b7⟩ := box8 w (.int .i64 5) (.int .i64 d) (.int .i64 fb) (.int .i64 fa) (.int .i64 tb) (.int .i64 ta) (.int .i64 car) (.int .i64 rk) 44
  have hbx17 : w.heap.size < (w.alloc (.cells #[.int .i64 5, .int .i64 d, .int .i64 fb, .int .i64 fa, .int .i64 tb, .int .i64 ta, .int .i64 car, .int .i64 rk] 44)).heap.size := by simp
  go_enter Tryz.func79, Tryz.ntmps79
  go_wp2
  have qcw_7 := up_cell cw
  have qb3_12 := up_cell b3
  have qb5_14 := up_cell b5
  refine wp_region_up (by kernel_rfl) (by kernel_rfl) ?_
  repeat (go_big_quiet_step (fail))
  refine wpQuiet_nil ?_
  rintro u ⟨u0, hu⟩
  have gu := hu ▸ u0.up
  clear hu u0
  have hzu18 := gu.size
  clear qcw_7
  clear qb3_12
  clear qb5_14
  replace X := Lib.hid (X.out.up (tt gu))
  replace U := Lib.hid (Chg.trans U.out (tt gu))
  have hh := cc8 (tt gu) cw cl b0 b1 b2 b3 b4 b5
  clear cw cl b0 b1 b2 b3 b4 b5
  obtain ⟨cw, cl, b0, b1, b2, b3, b4, b5⟩ := hh
  replace b6 := Chg.cell (tt gu) b6 id
  replace b7 := Chg.cell (tt gu) b7 id
  clear gu
  go_wp2_with fail
  refine (carrierFits_b _ X.out Hi.out ⟨5, d, fb, fa, tb, ta, car, rk⟩ Hx.out false Hf.out).mono ?_
  rintro e w31 ⟨rfl, g1⟩
  have G1 := Lib.hid g1
  have hz31 := G1.out.size
  clear g1
  replace X := Lib.hid (X.out.up (tt G1.out))
  replace U := Lib.hid (Chg.trans U.out (tt G1.out))
  have hh := cc8 (tt G1.out) cw cl b0 b1 b2 b3 b4 b5
  clear cw cl b0 b1 b2 b3 b4 b5
  obtain ⟨cw, cl, b0, b1, b2, b3, b4, b5⟩ := hh
  replace b6 := Chg.cell (tt G1.out) b6 id
  replace b7 := Chg.cell (tt G1.out) b7 id
  clear G1
  clear Hf
  all_goals go_wp2
  all_goals go_ret
  all_goals exact ⟨rfl, (Chg.trans U.out (by repeat (first | exact Chg.refl _ _ | apply Chg.drew | apply Chg.drewN | refine Chg.alloc ?_ _)))⟩
theorem opCode_5_full (w : World) {S : Nat → Prop} {K p : Nat} {m : MachM} {F B C L D : Value} {fs bs : List Value} (h : MachX w S K p m F B C L D fs bs) (hi : MInv m) (d fb fa tb ta car rk : Int) (hx : okOp m.wd ⟨5, d, fb, fa, tb, ta, car, rk⟩) (hfit : fitsM m ⟨5, d, fb, fa, tb, ta, car, rk⟩ = true) (hfull : m.nl = 300) :
    Calls Tryz.prog 79 #[.pointer (some ⟨p, 0, none⟩), .agg #[.int .i64 5, .int .i64 d, .int .i64 fb, .int .i64 fa, .int .i64 tb, .int .i64 ta, .int .i64 car, .int .i64 rk]] w fun e w' => e = .returned (.int .i64 (codeM m ⟨5, d, fb, fa, tb, ta, car, rk⟩)) ∧ Up w w' := by
  have hc := valid_cases hx.1
  have hx1 := hx.2.1
  have hx2 := hx.2.2
  dsimp only at hc hx1 hx2
  have hr := hi.rack
  have hw := hi.wd
  have hn := hi.nl
  have hC : codeM m ⟨5, d, fb, fa, tb, ta, car, rk⟩ = 5 := by simp [codeM, makesB, hfit, hfull]
  rw [hC]
  clear hC
  have y1 : decide (m.wd ≤ fa) = false := decide_eq_false (by omega)
  have y2 : decide (m.wd ≤ ta) = false := decide_eq_false (by omega)
  obtain ⟨csL, hL⟩ := h.l
  obtain ⟨A5, c5, rfl, hl5, hc5, -⟩ := ownsRow_shape hL
  clear hL hl5 hc5
  have X := Lib.hid (h)
  have U := Lib.hid ((Chg.refl Nowhere w))
  have cw := h.c0.1
  have cl := h.c5.1
  have y3 : ((m.nl : Int) == 300) = true := by simpa using (show (m.nl : Int) = 300 by omega)
  have Hx := Lib.hid hx
  have Hi := Lib.hid hi
  have Hf := Lib.hid hfit
  clear hc hx hi hr hw hfit h hx1 hx2 hn
  clear hfull
  replace X := Lib.hid (X.out.up ((Chg.refl Nowhere w).alloc (.cells #[.int .i64 5, .int .i64 d, .int .i64 fb, .int .i64 fa, .int .i64 tb, .int .i64 ta, .int .i64 car, .int .i64 rk] 44)))
  replace U := Lib.hid (Chg.trans U.out ((Chg.refl Nowhere w).alloc (.cells #[.int .i64 5, .int .i64 d, .int .i64 fb, .int .i64 fa, .int .i64 tb, .int .i64 ta, .int .i64 car, .int .i64 rk] 44)))
  replace cw := Chg.cell ((Chg.refl Nowhere w).alloc (.cells #[.int .i64 5, .int .i64 d, .int .i64 fb, .int .i64 fa, .int .i64 tb, .int .i64 ta, .int .i64 car, .int .i64 rk] 44)) cw id
  replace cl := Chg.cell ((Chg.refl Nowhere w).alloc (.cells #[.int .i64 5, .int .i64 d, .int .i64 fb, .int .i64 fa, .int .i64 tb, .int .i64 ta, .int .i64 car, .int .i64 rk] 44)) cl id
  obtain ⟨b0, b1, b2, b3, b4, b5, b6, b7⟩ := box8 w (.int .i64 5) (.int .i64 d) (.int .i64 fb) (.int .i64 fa) (.int .i64 tb) (.int .i64 ta) (.int .i64 car) (.int .i64 rk) 44
  have hbx17 : w.heap.size < (w.alloc (.cells #[.int .i64 5, .int .i64 d, .int .i64 fb, .int .i64 fa, .int .i64 tb, .int .i64 ta, .int .i64 car, .int .i64 rk] 44)).heap.size := by simp
  go_enter Tryz.func79, Tryz.ntmps79
  go_wp2
  have qcw_7 := up_cell cw
  have qb3_12 := up_cell b3
  have qb5_14 := up_cell b5
  refine wp_region_up (by kernel_rfl) (by kernel_rfl) ?_
  repeat (go_big_quiet_step (fail))
  refine wpQuiet_nil ?_
  rintro u ⟨u0, hu⟩
  have gu := hu ▸ u0.up
  clear hu u0
  have hzu18 := gu.size
  clear qcw_7
  clear qb3_12
  clear qb5_14
  replace X := Lib.hid (X.out.up (tt gu))
  replace U := Lib.hid (Chg.trans U.out (tt gu))
  have hh := cc8 (tt gu) cw cl b0 b1 b2 b3 b4 b5
  clear cw cl b0 b1 b2 b3 b4 b5
  obtain ⟨cw, cl, b0, b1, b2, b3, b4, b5⟩ := hh
  replace b6 := Chg.cell (tt gu) b6 id
  replace b7 := Chg.cell (tt gu) b7 id
  clear gu
  go_wp2_with fail
  refine (carrierFits_b _ X.out Hi.out ⟨5, d, fb, fa, tb, ta, car, rk⟩ Hx.out true Hf.out).mono ?_
  rintro e w31 ⟨rfl, g1⟩
  have G1 := Lib.hid g1
  have hz31 := G1.out.size
  clear g1
  replace X := Lib.hid (X.out.up (tt G1.out))
  replace U := Lib.hid (Chg.trans U.out (tt G1.out))
  have hh := cc8 (tt G1.out) cw cl b0 b1 b2 b3 b4 b5
  clear cw cl b0 b1 b2 b3 b4 b5
  obtain ⟨cw, cl, b0, b1, b2, b3, b4, b5⟩ := hh
  replace b6 := Chg.cell (tt G1.out) b6 id
  replace b7 := Chg.cell (tt G1.out) b7 id
  clear G1
  clear Hf
  go_wp2_with fail
  refine (makesLoop_b _ 5 true (by unfold makesB; simp)).mono ?_
  rintro e w' ⟨rfl, rfl⟩
  all_goals go_wp2
  all_goals go_ret
  all_goals exact ⟨rfl, (Chg.trans U.out (by repeat (first | exact Chg.refl _ _ | apply Chg.drew | apply Chg.drewN | refine Chg.alloc ?_ _)))⟩
theorem opCode_5_place (w : World) {S : Nat → Prop} {K p : Nat} {m : MachM} {F B C L D : Value} {fs bs : List Value} (h : MachX w S K p m F B C L D fs bs) (hi : MInv m) (d fb fa tb ta car rk : Int) (hx : okOp m.wd ⟨5, d, fb, fa, tb, ta, car, rk⟩) (hfit : fitsM m ⟨5, d, fb, fa, tb, ta, car, rk⟩ = true) (hfull : m.nl ≠ 300) (hplace : placeM fb fa m.rack ≠ placeM tb ta m.rack) :
    Calls Tryz.prog 79 #[.pointer (some ⟨p, 0, none⟩), .agg #[.int .i64 5, .int .i64 d, .int .i64 fb, .int .i64 fa, .int .i64 tb, .int .i64 ta, .int .i64 car, .int .i64 rk]] w fun e w' => e = .returned (.int .i64 (codeM m ⟨5, d, fb, fa, tb, ta, car, rk⟩)) ∧ Up w w' := by
  have hc := valid_cases hx.1
  have hx1 := hx.2.1
  have hx2 := hx.2.2
  dsimp only at hc hx1 hx2
  have hr := hi.rack
  have hw := hi.wd
  have hn := hi.nl
  have hC : codeM m ⟨5, d, fb, fa, tb, ta, car, rk⟩ = 8 := by simp [codeM, makesB, hfit, hfull, hplace]
  rw [hC]
  clear hC
  have y1 : decide (m.wd ≤ fa) = false := decide_eq_false (by omega)
  have y2 : decide (m.wd ≤ ta) = false := decide_eq_false (by omega)
  obtain ⟨csL, hL⟩ := h.l
  obtain ⟨A5, c5, rfl, hl5, hc5, -⟩ := ownsRow_shape hL
  clear hL hl5 hc5
  have X := Lib.hid (h)
  have U := Lib.hid ((Chg.refl Nowhere w))
  have cw := h.c0.1
  have cl := h.c5.1
  obtain ⟨g, v, hH, -⟩ := h.hold hi (b := fb) (a := fa) ⟨by omega, by omega, by omega⟩
  obtain ⟨Af, cf, rfl, hlf, hcf, -⟩ := hH.own.ints.shape
  have H := Lib.hid (hH)
  have ch := hH.cell.1
  obtain ⟨gt, vt, hT, -⟩ := h.hold hi (b := tb) (a := ta) ⟨by omega, by omega, by omega⟩
  obtain ⟨At, ct, rfl, hlt, hct, -⟩ := hT.own.ints.shape
  have T := Lib.hid (hT)
  have ct' := hT.cell.1
  have y3 : ((m.nl : Int) == 300) = false := by simpa using (show ¬ (m.nl : Int) = 300 by omega)
  have Hx := Lib.hid hx
  have Hi := Lib.hid hi
  have Hf := Lib.hid hfit
  have hq : 3 - fb = tb ∧ (fb = 1 ∨ fb = 2) ∧ (0 ≤ fa ∧ fa ≤ 100) := by omega
  have Hq := Lib.hid hq
  have Hr := Lib.hid hr
  have Hw := Lib.hid hw
  have e2 : (faceM fb fa m.rack == ta) = false := by simpa using (show ¬ faceM fb fa m.rack = ta by unfold faceM; unfold placeM at hplace; split <;> simp_all <;> omega)
  obtain ⟨ff, hff⟩ : ∃ ff, inB (faceM fb fa m.rack) 0 (m.wd - 1) = ff := ⟨_, rfl⟩
  obtain ⟨fv, hfv⟩ : ∃ fv, faceM fb fa m.rack = fv := ⟨_, rfl⟩
  rw [hfv] at hff e2
  have Hff := Lib.hid hff
  have Hfv := Lib.hid hfv
  clear hc hx hi hr hw hfit h hx1 hx2 hn hH hT hq hff hfv
  clear hfull
  clear hplace
  replace X := Lib.hid (X.out.up ((Chg.refl Nowhere w).alloc (.cells #[.int .i64 5, .int .i64 d, .int .i64 fb, .int .i64 fa, .int .i64 tb, .int .i64 ta, .int .i64 car, .int .i64 rk] 44)))
  replace U := Lib.hid (Chg.trans U.out ((Chg.refl Nowhere w).alloc (.cells #[.int .i64 5, .int .i64 d, .int .i64 fb, .int .i64 fa, .int .i64 tb, .int .i64 ta, .int .i64 car, .int .i64 rk] 44)))
  replace cw := Chg.cell ((Chg.refl Nowhere w).alloc (.cells #[.int .i64 5, .int .i64 d, .int .i64 fb, .int .i64 fa, .int .i64 tb, .int .i64 ta, .int .i64 car, .int .i64 rk] 44)) cw id
  replace cl := Chg.cell ((Chg.refl Nowhere w).alloc (.cells #[.int .i64 5, .int .i64 d, .int .i64 fb, .int .i64 fa, .int .i64 tb, .int .i64 ta, .int .i64 car, .int .i64 rk] 44)) cl id
  replace H := Lib.hid (H.out.up ((Chg.refl Nowhere w).alloc (.cells #[.int .i64 5, .int .i64 d, .int .i64 fb, .int .i64 fa, .int .i64 tb, .int .i64 ta, .int .i64 car, .int .i64 rk] 44)))
  replace ch := Chg.cell ((Chg.refl Nowhere w).alloc (.cells #[.int .i64 5, .int .i64 d, .int .i64 fb, .int .i64 fa, .int .i64 tb, .int .i64 ta, .int .i64 car, .int .i64 rk] 44)) ch id
  replace T := Lib.hid (T.out.up ((Chg.refl Nowhere w).alloc (.cells #[.int .i64 5, .int .i64 d, .int .i64 fb, .int .i64 fa, .int .i64 tb, .int .i64 ta, .int .i64 car, .int .i64 rk] 44)))
  replace ct' := Chg.cell ((Chg.refl Nowhere w).alloc (.cells #[.int .i64 5, .int .i64 d, .int .i64 fb, .int .i64 fa, .int .i64 tb, .int .i64 ta, .int .i64 car, .int .i64 rk] 44)) ct' id
  obtain ⟨b0, b1, b2, b3, b4, b5, b6, b7⟩ := box8 w (.int .i64 5) (.int .i64 d) (.int .i64 fb) (.int .i64 fa) (.int .i64 tb) (.int .i64 ta) (.int .i64 car) (.int .i64 rk) 44
  have hbx25 : w.heap.size < (w.alloc (.cells #[.int .i64 5, .int .i64 d, .int .i64 fb, .int .i64 fa, .int .i64 tb, .int .i64 ta, .int .i64 car, .int .i64 rk] 44)).heap.size := by simp
  go_enter Tryz.func79, Tryz.ntmps79
  go_wp2
  have qcw_11 := up_cell cw
  have qb3_20 := up_cell b3
  have qb5_22 := up_cell b5
  refine wp_region_up (by kernel_rfl) (by kernel_rfl) ?_
  repeat (go_big_quiet_step (fail))
  refine wpQuiet_nil ?_
  rintro u ⟨u0, hu⟩
  have gu := hu ▸ u0.up
  clear hu u0
  have hzu26 := gu.size
  clear qcw_11
  clear qb3_20
  clear qb5_22
  replace X := Lib.hid (X.out.up (tt gu))
  replace U := Lib.hid (Chg.trans U.out (tt gu))
  replace cw := Chg.cell (tt gu) cw id
  replace cl := Chg.cell (tt gu) cl id
  replace H := Lib.hid (H.out.up (tt gu))
  replace ch := Chg.cell (tt gu) ch id
  replace T := Lib.hid (T.out.up (tt gu))
  replace ct' := Chg.cell (tt gu) ct' id
  have hh := cc8 (tt gu) b0 b1 b2 b3 b4 b5 b6 b7
  clear b0 b1 b2 b3 b4 b5 b6 b7
  obtain ⟨b0, b1, b2, b3, b4, b5, b6, b7⟩ := hh
  clear gu
  go_wp2_with fail
  refine (carrierFits_b _ X.out Hi.out ⟨5, d, fb, fa, tb, ta, car, rk⟩ Hx.out true Hf.out).mono ?_
  rintro e w43 ⟨rfl, g1⟩
  have G1 := Lib.hid g1
  have hz43 := G1.out.size
  clear g1
  replace X := Lib.hid (X.out.up (tt G1.out))
  replace U := Lib.hid (Chg.trans U.out (tt G1.out))
  replace cw := Chg.cell (tt G1.out) cw id
  replace cl := Chg.cell (tt G1.out) cl id
  replace H := Lib.hid (H.out.up (tt G1.out))
  replace ch := Chg.cell (tt G1.out) ch id
  replace T := Lib.hid (T.out.up (tt G1.out))
  replace ct' := Chg.cell (tt G1.out) ct' id
  have hh := cc8 (tt G1.out) b0 b1 b2 b3 b4 b5 b6 b7
  clear b0 b1 b2 b3 b4 b5 b6 b7
  obtain ⟨b0, b1, b2, b3, b4, b5, b6, b7⟩ := hh
  clear G1
  clear Hf
  go_wp2_with fail
  refine (makesLoop_b _ 5 true (by unfold makesB; simp)).mono ?_
  rintro e w' ⟨rfl, rfl⟩
  go_wp2_with fail
  refine (facing_b _ p m.wd m.rack fb fa tb fv ff X.out.c0 X.out.c1 Hq.out.2.1 Hq.out.2.2 Hr.out Hw.out Hq.out.1 Hfv.out Hff.out).mono ?_
  rintro e w61 ⟨rfl, g1⟩
  have G1 := Lib.hid g1
  have hz61 := G1.out.size
  clear g1
  replace X := Lib.hid (X.out.up (tt G1.out))
  replace U := Lib.hid (Chg.trans U.out (tt G1.out))
  replace cw := Chg.cell (tt G1.out) cw id
  replace cl := Chg.cell (tt G1.out) cl id
  replace H := Lib.hid (H.out.up (tt G1.out))
  replace ch := Chg.cell (tt G1.out) ch id
  replace T := Lib.hid (T.out.up (tt G1.out))
  replace ct' := Chg.cell (tt G1.out) ct' id
  have hh := cc8 (tt G1.out) b0 b1 b2 b3 b4 b5 b6 b7
  clear b0 b1 b2 b3 b4 b5 b6 b7
  obtain ⟨b0, b1, b2, b3, b4, b5, b6, b7⟩ := hh
  clear G1
  replace X := Lib.hid (X.out.up ((Chg.refl Nowhere w61).alloc (.cells #[.int .i64 tb, .int .i64 fv] 42)))
  replace U := Lib.hid (Chg.trans U.out ((Chg.refl Nowhere w61).alloc (.cells #[.int .i64 tb, .int .i64 fv] 42)))
  replace cw := Chg.cell ((Chg.refl Nowhere w61).alloc (.cells #[.int .i64 tb, .int .i64 fv] 42)) cw id
  replace cl := Chg.cell ((Chg.refl Nowhere w61).alloc (.cells #[.int .i64 tb, .int .i64 fv] 42)) cl id
  replace H := Lib.hid (H.out.up ((Chg.refl Nowhere w61).alloc (.cells #[.int .i64 tb, .int .i64 fv] 42)))
  replace ch := Chg.cell ((Chg.refl Nowhere w61).alloc (.cells #[.int .i64 tb, .int .i64 fv] 42)) ch id
  replace T := Lib.hid (T.out.up ((Chg.refl Nowhere w61).alloc (.cells #[.int .i64 tb, .int .i64 fv] 42)))
  replace ct' := Chg.cell ((Chg.refl Nowhere w61).alloc (.cells #[.int .i64 tb, .int .i64 fv] 42)) ct' id
  replace b0 := Chg.cell ((Chg.refl Nowhere w61).alloc (.cells #[.int .i64 tb, .int .i64 fv] 42)) b0 id
  replace b1 := Chg.cell ((Chg.refl Nowhere w61).alloc (.cells #[.int .i64 tb, .int .i64 fv] 42)) b1 id
  replace b2 := Chg.cell ((Chg.refl Nowhere w61).alloc (.cells #[.int .i64 tb, .int .i64 fv] 42)) b2 id
  replace b3 := Chg.cell ((Chg.refl Nowhere w61).alloc (.cells #[.int .i64 tb, .int .i64 fv] 42)) b3 id
  replace b4 := Chg.cell ((Chg.refl Nowhere w61).alloc (.cells #[.int .i64 tb, .int .i64 fv] 42)) b4 id
  replace b5 := Chg.cell ((Chg.refl Nowhere w61).alloc (.cells #[.int .i64 tb, .int .i64 fv] 42)) b5 id
  replace b6 := Chg.cell ((Chg.refl Nowhere w61).alloc (.cells #[.int .i64 tb, .int .i64 fv] 42)) b6 id
  replace b7 := Chg.cell ((Chg.refl Nowhere w61).alloc (.cells #[.int .i64 tb, .int .i64 fv] 42)) b7 id
  cases ff
  all_goals go_wp2
  all_goals go_wp2
  all_goals go_ret
  all_goals exact ⟨rfl, (Chg.trans U.out (by repeat (first | exact Chg.refl _ _ | apply Chg.drew | apply Chg.drewN | refine Chg.alloc ?_ _)))⟩
theorem opCode_5_none (w : World) {S : Nat → Prop} {K p : Nat} {m : MachM} {F B C L D : Value} {fs bs : List Value} (h : MachX w S K p m F B C L D fs bs) (hi : MInv m) (d fb fa tb ta car rk : Int) (hx : okOp m.wd ⟨5, d, fb, fa, tb, ta, car, rk⟩) (hfit : fitsM m ⟨5, d, fb, fa, tb, ta, car, rk⟩ = true) (hfull : m.nl ≠ 300) (hplace : placeM fb fa m.rack = placeM tb ta m.rack) (hnone : (onM m fb fa).length = 0) :
    Calls Tryz.prog 79 #[.pointer (some ⟨p, 0, none⟩), .agg #[.int .i64 5, .int .i64 d, .int .i64 fb, .int .i64 fa, .int .i64 tb, .int .i64 ta, .int .i64 car, .int .i64 rk]] w fun e w' => e = .returned (.int .i64 (codeM m ⟨5, d, fb, fa, tb, ta, car, rk⟩)) ∧ Up w w' := by
  have hc := valid_cases hx.1
  have hx1 := hx.2.1
  have hx2 := hx.2.2
  dsimp only at hc hx1 hx2
  have hr := hi.rack
  have hw := hi.wd
  have hn := hi.nl
  have hC : codeM m ⟨5, d, fb, fa, tb, ta, car, rk⟩ = 7 := by simp [codeM, makesB, hfit, hfull, hplace, hnone]
  rw [hC]
  clear hC
  have y1 : decide (m.wd ≤ fa) = false := decide_eq_false (by omega)
  have y2 : decide (m.wd ≤ ta) = false := decide_eq_false (by omega)
  obtain ⟨csL, hL⟩ := h.l
  obtain ⟨A5, c5, rfl, hl5, hc5, -⟩ := ownsRow_shape hL
  clear hL hl5 hc5
  have X := Lib.hid (h)
  have U := Lib.hid ((Chg.refl Nowhere w))
  have cw := h.c0.1
  have cl := h.c5.1
  obtain ⟨g, v, hH, -⟩ := h.hold hi (b := fb) (a := fa) ⟨by omega, by omega, by omega⟩
  obtain ⟨Af, cf, rfl, hlf, hcf, -⟩ := hH.own.ints.shape
  have H := Lib.hid (hH)
  have ch := hH.cell.1
  obtain ⟨gt, vt, hT, -⟩ := h.hold hi (b := tb) (a := ta) ⟨by omega, by omega, by omega⟩
  obtain ⟨At, ct, rfl, hlt, hct, -⟩ := hT.own.ints.shape
  have T := Lib.hid (hT)
  have ct' := hT.cell.1
  have y3 : ((m.nl : Int) == 300) = false := by simpa using (show ¬ (m.nl : Int) = 300 by omega)
  have y5 : (((onM m fb fa).length : Int) == 0) = true := by simpa using (show ((onM m fb fa).length : Int) = 0 by omega)
  have Hx := Lib.hid hx
  have Hi := Lib.hid hi
  have Hf := Lib.hid hfit
  have hq : 3 - fb = tb ∧ (fb = 1 ∨ fb = 2) ∧ (0 ≤ fa ∧ fa ≤ 100) := by omega
  have Hq := Lib.hid hq
  have Hr := Lib.hid hr
  have Hw := Lib.hid hw
  have hfv : faceM fb fa m.rack = ta := by unfold faceM; unfold placeM at hplace; split <;> simp_all <;> omega
  have hff : inB ta 0 (m.wd - 1) = true := by unfold inB; exact decide_eq_true (by omega)
  have Hff := Lib.hid hff
  have Hfv := Lib.hid hfv
  clear hc hx hi hr hw hfit h hx1 hx2 hn hH hT hq hff hfv
  clear hfull
  clear hplace
  clear hnone
  replace X := Lib.hid (X.out.up ((Chg.refl Nowhere w).alloc (.cells #[.int .i64 5, .int .i64 d, .int .i64 fb, .int .i64 fa, .int .i64 tb, .int .i64 ta, .int .i64 car, .int .i64 rk] 44)))
  replace U := Lib.hid (Chg.trans U.out ((Chg.refl Nowhere w).alloc (.cells #[.int .i64 5, .int .i64 d, .int .i64 fb, .int .i64 fa, .int .i64 tb, .int .i64 ta, .int .i64 car, .int .i64 rk] 44)))
  replace cw := Chg.cell ((Chg.refl Nowhere w).alloc (.cells #[.int .i64 5, .int .i64 d, .int .i64 fb, .int .i64 fa, .int .i64 tb, .int .i64 ta, .int .i64 car, .int .i64 rk] 44)) cw id
  replace cl := Chg.cell ((Chg.refl Nowhere w).alloc (.cells #[.int .i64 5, .int .i64 d, .int .i64 fb, .int .i64 fa, .int .i64 tb, .int .i64 ta, .int .i64 car, .int .i64 rk] 44)) cl id
  replace H := Lib.hid (H.out.up ((Chg.refl Nowhere w).alloc (.cells #[.int .i64 5, .int .i64 d, .int .i64 fb, .int .i64 fa, .int .i64 tb, .int .i64 ta, .int .i64 car, .int .i64 rk] 44)))
  replace ch := Chg.cell ((Chg.refl Nowhere w).alloc (.cells #[.int .i64 5, .int .i64 d, .int .i64 fb, .int .i64 fa, .int .i64 tb, .int .i64 ta, .int .i64 car, .int .i64 rk] 44)) ch id
  replace T := Lib.hid (T.out.up ((Chg.refl Nowhere w).alloc (.cells #[.int .i64 5, .int .i64 d, .int .i64 fb, .int .i64 fa, .int .i64 tb, .int .i64 ta, .int .i64 car, .int .i64 rk] 44)))
  replace ct' := Chg.cell ((Chg.refl Nowhere w).alloc (.cells #[.int .i64 5, .int .i64 d, .int .i64 fb, .int .i64 fa, .int .i64 tb, .int .i64 ta, .int .i64 car, .int .i64 rk] 44)) ct' id
  obtain ⟨b0, b1, b2, b3, b4, b5, b6, b7⟩ := box8 w (.int .i64 5) (.int .i64 d) (.int .i64 fb) (.int .i64 fa) (.int .i64 tb) (.int .i64 ta) (.int .i64 car) (.int .i64 rk) 44
  have hbx25 : w.heap.size < (w.alloc (.cells #[.int .i64 5, .int .i64 d, .int .i64 fb, .int .i64 fa, .int .i64 tb, .int .i64 ta, .int .i64 car, .int .i64 rk] 44)).heap.size := by simp
  go_enter Tryz.func79, Tryz.ntmps79
  go_wp2
  have qcw_11 := up_cell cw
  have qb3_20 := up_cell b3
  have qb5_22 := up_cell b5
  refine wp_region_up (by kernel_rfl) (by kernel_rfl) ?_
  repeat (go_big_quiet_step (fail))
  refine wpQuiet_nil ?_
  rintro u ⟨u0, hu⟩
  have gu := hu ▸ u0.up
  clear hu u0
  have hzu26 := gu.size
  clear qcw_11
  clear qb3_20
  clear qb5_22
  replace X := Lib.hid (X.out.up (tt gu))
  replace U := Lib.hid (Chg.trans U.out (tt gu))
  replace cw := Chg.cell (tt gu) cw id
  replace cl := Chg.cell (tt gu) cl id
  replace H := Lib.hid (H.out.up (tt gu))
  replace ch := Chg.cell (tt gu) ch id
  replace T := Lib.hid (T.out.up (tt gu))
  replace ct' := Chg.cell (tt gu) ct' id
  have hh := cc8 (tt gu) b0 b1 b2 b3 b4 b5 b6 b7
  clear b0 b1 b2 b3 b4 b5 b6 b7
  obtain ⟨b0, b1, b2, b3, b4, b5, b6, b7⟩ := hh
  clear gu
  go_wp2_with fail
  refine (carrierFits_b _ X.out Hi.out ⟨5, d, fb, fa, tb, ta, car, rk⟩ Hx.out true Hf.out).mono ?_
  rintro e w43 ⟨rfl, g1⟩
  have G1 := Lib.hid g1
  have hz43 := G1.out.size
  clear g1
  replace X := Lib.hid (X.out.up (tt G1.out))
  replace U := Lib.hid (Chg.trans U.out (tt G1.out))
  replace cw := Chg.cell (tt G1.out) cw id
  replace cl := Chg.cell (tt G1.out) cl id
  replace H := Lib.hid (H.out.up (tt G1.out))
  replace ch := Chg.cell (tt G1.out) ch id
  replace T := Lib.hid (T.out.up (tt G1.out))
  replace ct' := Chg.cell (tt G1.out) ct' id
  have hh := cc8 (tt G1.out) b0 b1 b2 b3 b4 b5 b6 b7
  clear b0 b1 b2 b3 b4 b5 b6 b7
  obtain ⟨b0, b1, b2, b3, b4, b5, b6, b7⟩ := hh
  clear G1
  clear Hf
  go_wp2_with fail
  refine (makesLoop_b _ 5 true (by unfold makesB; simp)).mono ?_
  rintro e w' ⟨rfl, rfl⟩
  go_wp2_with fail
  refine (facing_b _ p m.wd m.rack fb fa tb ta true X.out.c0 X.out.c1 Hq.out.2.1 Hq.out.2.2 Hr.out Hw.out Hq.out.1 Hfv.out Hff.out).mono ?_
  rintro e w61 ⟨rfl, g1⟩
  have G1 := Lib.hid g1
  have hz61 := G1.out.size
  clear g1
  replace X := Lib.hid (X.out.up (tt G1.out))
  replace U := Lib.hid (Chg.trans U.out (tt G1.out))
  replace cw := Chg.cell (tt G1.out) cw id
  replace cl := Chg.cell (tt G1.out) cl id
  replace H := Lib.hid (H.out.up (tt G1.out))
  replace ch := Chg.cell (tt G1.out) ch id
  replace T := Lib.hid (T.out.up (tt G1.out))
  replace ct' := Chg.cell (tt G1.out) ct' id
  have hh := cc8 (tt G1.out) b0 b1 b2 b3 b4 b5 b6 b7
  clear b0 b1 b2 b3 b4 b5 b6 b7
  obtain ⟨b0, b1, b2, b3, b4, b5, b6, b7⟩ := hh
  clear G1
  replace X := Lib.hid (X.out.up ((Chg.refl Nowhere w61).alloc (.cells #[.int .i64 tb, .int .i64 ta] 42)))
  replace U := Lib.hid (Chg.trans U.out ((Chg.refl Nowhere w61).alloc (.cells #[.int .i64 tb, .int .i64 ta] 42)))
  replace cw := Chg.cell ((Chg.refl Nowhere w61).alloc (.cells #[.int .i64 tb, .int .i64 ta] 42)) cw id
  replace cl := Chg.cell ((Chg.refl Nowhere w61).alloc (.cells #[.int .i64 tb, .int .i64 ta] 42)) cl id
  replace H := Lib.hid (H.out.up ((Chg.refl Nowhere w61).alloc (.cells #[.int .i64 tb, .int .i64 ta] 42)))
  replace ch := Chg.cell ((Chg.refl Nowhere w61).alloc (.cells #[.int .i64 tb, .int .i64 ta] 42)) ch id
  replace T := Lib.hid (T.out.up ((Chg.refl Nowhere w61).alloc (.cells #[.int .i64 tb, .int .i64 ta] 42)))
  replace ct' := Chg.cell ((Chg.refl Nowhere w61).alloc (.cells #[.int .i64 tb, .int .i64 ta] 42)) ct' id
  replace b0 := Chg.cell ((Chg.refl Nowhere w61).alloc (.cells #[.int .i64 tb, .int .i64 ta] 42)) b0 id
  replace b1 := Chg.cell ((Chg.refl Nowhere w61).alloc (.cells #[.int .i64 tb, .int .i64 ta] 42)) b1 id
  replace b2 := Chg.cell ((Chg.refl Nowhere w61).alloc (.cells #[.int .i64 tb, .int .i64 ta] 42)) b2 id
  replace b3 := Chg.cell ((Chg.refl Nowhere w61).alloc (.cells #[.int .i64 tb, .int .i64 ta] 42)) b3 id
  replace b4 := Chg.cell ((Chg.refl Nowhere w61).alloc (.cells #[.int .i64 tb, .int .i64 ta] 42)) b4 id
  replace b5 := Chg.cell ((Chg.refl Nowhere w61).alloc (.cells #[.int .i64 tb, .int .i64 ta] 42)) b5 id
  replace b6 := Chg.cell ((Chg.refl Nowhere w61).alloc (.cells #[.int .i64 tb, .int .i64 ta] 42)) b6 id
  replace b7 := Chg.cell ((Chg.refl Nowhere w61).alloc (.cells #[.int .i64 tb, .int .i64 ta] 42)) b7 id
  go_wp2_with fail
  refine (on_any _ p fb fa g _ _ H.out).mono ?_
  rintro e w94 ⟨rfl, g1⟩
  have G1 := Lib.hid g1
  have hz94 := G1.out.size
  clear g1
  replace X := Lib.hid (X.out.up (tt G1.out))
  replace U := Lib.hid (Chg.trans U.out (tt G1.out))
  replace cw := Chg.cell (tt G1.out) cw id
  replace cl := Chg.cell (tt G1.out) cl id
  replace H := Lib.hid (H.out.up (tt G1.out))
  replace ch := Chg.cell (tt G1.out) ch id
  replace T := Lib.hid (T.out.up (tt G1.out))
  replace ct' := Chg.cell (tt G1.out) ct' id
  have hh := cc8 (tt G1.out) b0 b1 b2 b3 b4 b5 b6 b7
  clear b0 b1 b2 b3 b4 b5 b6 b7
  obtain ⟨b0, b1, b2, b3, b4, b5, b6, b7⟩ := hh
  clear G1
  all_goals go_wp2
  all_goals go_ret
  all_goals exact ⟨rfl, (Chg.trans U.out (by repeat (first | exact Chg.refl _ _ | apply Chg.drew | apply Chg.drewN | refine Chg.alloc ?_ _)))⟩
theorem opCode_5_many (w : World) {S : Nat → Prop} {K p : Nat} {m : MachM} {F B C L D : Value} {fs bs : List Value} (h : MachX w S K p m F B C L D fs bs) (hi : MInv m) (d fb fa tb ta car rk : Int) (hx : okOp m.wd ⟨5, d, fb, fa, tb, ta, car, rk⟩) (hfit : fitsM m ⟨5, d, fb, fa, tb, ta, car, rk⟩ = true) (hfull : m.nl ≠ 300) (hplace : placeM fb fa m.rack = placeM tb ta m.rack) (hnone : (onM m fb fa).length ≠ 0) (hmany : 4 < (onM m fb fa).length + (onM m tb ta).length) :
    Calls Tryz.prog 79 #[.pointer (some ⟨p, 0, none⟩), .agg #[.int .i64 5, .int .i64 d, .int .i64 fb, .int .i64 fa, .int .i64 tb, .int .i64 ta, .int .i64 car, .int .i64 rk]] w fun e w' => e = .returned (.int .i64 (codeM m ⟨5, d, fb, fa, tb, ta, car, rk⟩)) ∧ Up w w' := by
  have hc := valid_cases hx.1
  have hx1 := hx.2.1
  have hx2 := hx.2.2
  dsimp only at hc hx1 hx2
  have hr := hi.rack
  have hw := hi.wd
  have hn := hi.nl
  have hC : codeM m ⟨5, d, fb, fa, tb, ta, car, rk⟩ = 5 := by simp [codeM, makesB, hfit, hfull, hplace, hnone, hmany]
  rw [hC]
  clear hC
  have y1 : decide (m.wd ≤ fa) = false := decide_eq_false (by omega)
  have y2 : decide (m.wd ≤ ta) = false := decide_eq_false (by omega)
  obtain ⟨csL, hL⟩ := h.l
  obtain ⟨A5, c5, rfl, hl5, hc5, -⟩ := ownsRow_shape hL
  clear hL hl5 hc5
  have X := Lib.hid (h)
  have U := Lib.hid ((Chg.refl Nowhere w))
  have cw := h.c0.1
  have cl := h.c5.1
  obtain ⟨g, v, hH, -⟩ := h.hold hi (b := fb) (a := fa) ⟨by omega, by omega, by omega⟩
  obtain ⟨Af, cf, rfl, hlf, hcf, -⟩ := hH.own.ints.shape
  have H := Lib.hid (hH)
  have ch := hH.cell.1
  obtain ⟨gt, vt, hT, -⟩ := h.hold hi (b := tb) (a := ta) ⟨by omega, by omega, by omega⟩
  obtain ⟨At, ct, rfl, hlt, hct, -⟩ := hT.own.ints.shape
  have T := Lib.hid (hT)
  have ct' := hT.cell.1
  have y3 : ((m.nl : Int) == 300) = false := by simpa using (show ¬ (m.nl : Int) = 300 by omega)
  have y5 : (((onM m fb fa).length : Int) == 0) = false := by simpa using (show ¬ ((onM m fb fa).length : Int) = 0 by omega)
  have Hx := Lib.hid hx
  have Hi := Lib.hid hi
  have Hf := Lib.hid hfit
  have hq : 3 - fb = tb ∧ (fb = 1 ∨ fb = 2) ∧ (0 ≤ fa ∧ fa ≤ 100) := by omega
  have Hq := Lib.hid hq
  have Hr := Lib.hid hr
  have Hw := Lib.hid hw
  have hfv : faceM fb fa m.rack = ta := by unfold faceM; unfold placeM at hplace; split <;> simp_all <;> omega
  have hff : inB ta 0 (m.wd - 1) = true := by unfold inB; exact decide_eq_true (by omega)
  have Hff := Lib.hid hff
  have Hfv := Lib.hid hfv
  have y6 : decide (4 < ((onM m fb fa).length : Int) + ((onM m tb ta).length : Int)) = true := decide_eq_true (by omega)
  have hz1 : (onM m fb fa).length ≤ 4 ∧ (onM m tb ta).length ≤ 4 := ⟨(hi.on_ fb fa).1, (hi.on_ tb ta).1⟩
  have y7 : IntKind.i64.wrap (((onM m fb fa).length : Int) + ((onM m tb ta).length : Int)) = ((onM m fb fa).length : Int) + ((onM m tb ta).length : Int) := IntWalk.i64_in _ (by omega)
  clear hz1
  clear hc hx hi hr hw hfit h hx1 hx2 hn hH hT hq hff hfv
  clear hfull
  clear hplace
  clear hnone
  clear hmany
  replace X := Lib.hid (X.out.up ((Chg.refl Nowhere w).alloc (.cells #[.int .i64 5, .int .i64 d, .int .i64 fb, .int .i64 fa, .int .i64 tb, .int .i64 ta, .int .i64 car, .int .i64 rk] 44)))
  replace U := Lib.hid (Chg.trans U.out ((Chg.refl Nowhere w).alloc (.cells #[.int .i64 5, .int .i64 d, .int .i64 fb, .int .i64 fa, .int .i64 tb, .int .i64 ta, .int .i64 car, .int .i64 rk] 44)))
  replace cw := Chg.cell ((Chg.refl Nowhere w).alloc (.cells #[.int .i64 5, .int .i64 d, .int .i64 fb, .int .i64 fa, .int .i64 tb, .int .i64 ta, .int .i64 car, .int .i64 rk] 44)) cw id
  replace cl := Chg.cell ((Chg.refl Nowhere w).alloc (.cells #[.int .i64 5, .int .i64 d, .int .i64 fb, .int .i64 fa, .int .i64 tb, .int .i64 ta, .int .i64 car, .int .i64 rk] 44)) cl id
  replace H := Lib.hid (H.out.up ((Chg.refl Nowhere w).alloc (.cells #[.int .i64 5, .int .i64 d, .int .i64 fb, .int .i64 fa, .int .i64 tb, .int .i64 ta, .int .i64 car, .int .i64 rk] 44)))
  replace ch := Chg.cell ((Chg.refl Nowhere w).alloc (.cells #[.int .i64 5, .int .i64 d, .int .i64 fb, .int .i64 fa, .int .i64 tb, .int .i64 ta, .int .i64 car, .int .i64 rk] 44)) ch id
  replace T := Lib.hid (T.out.up ((Chg.refl Nowhere w).alloc (.cells #[.int .i64 5, .int .i64 d, .int .i64 fb, .int .i64 fa, .int .i64 tb, .int .i64 ta, .int .i64 car, .int .i64 rk] 44)))
  replace ct' := Chg.cell ((Chg.refl Nowhere w).alloc (.cells #[.int .i64 5, .int .i64 d, .int .i64 fb, .int .i64 fa, .int .i64 tb, .int .i64 ta, .int .i64 car, .int .i64 rk] 44)) ct' id
  obtain ⟨b0, b1, b2, b3, b4, b5, b6, b7⟩ := box8 w (.int .i64 5) (.int .i64 d) (.int .i64 fb) (.int .i64 fa) (.int .i64 tb) (.int .i64 ta) (.int .i64 car) (.int .i64 rk) 44
  have hbx25 : w.heap.size < (w.alloc (.cells #[.int .i64 5, .int .i64 d, .int .i64 fb, .int .i64 fa, .int .i64 tb, .int .i64 ta, .int .i64 car, .int .i64 rk] 44)).heap.size := by simp
  go_enter Tryz.func79, Tryz.ntmps79
  go_wp2
  have qcw_11 := up_cell cw
  have qb3_20 := up_cell b3
  have qb5_22 := up_cell b5
  refine wp_region_up (by kernel_rfl) (by kernel_rfl) ?_
  repeat (go_big_quiet_step (fail))
  refine wpQuiet_nil ?_
  rintro u ⟨u0, hu⟩
  have gu := hu ▸ u0.up
  clear hu u0
  have hzu26 := gu.size
  clear qcw_11
  clear qb3_20
  clear qb5_22
  replace X := Lib.hid (X.out.up (tt gu))
  replace U := Lib.hid (Chg.trans U.out (tt gu))
  replace cw := Chg.cell (tt gu) cw id
  replace cl := Chg.cell (tt gu) cl id
  replace H := Lib.hid (H.out.up (tt gu))
  replace ch := Chg.cell (tt gu) ch id
  replace T := Lib.hid (T.out.up (tt gu))
  replace ct' := Chg.cell (tt gu) ct' id
  have hh := cc8 (tt gu) b0 b1 b2 b3 b4 b5 b6 b7
  clear b0 b1 b2 b3 b4 b5 b6 b7
  obtain ⟨b0, b1, b2, b3, b4, b5, b6, b7⟩ := hh
  clear gu
  go_wp2_with fail
  refine (carrierFits_b _ X.out Hi.out ⟨5, d, fb, fa, tb, ta, car, rk⟩ Hx.out true Hf.out).mono ?_
  rintro e w43 ⟨rfl, g1⟩
  have G1 := Lib.hid g1
  have hz43 := G1.out.size
  clear g1
  replace X := Lib.hid (X.out.up (tt G1.out))
  replace U := Lib.hid (Chg.trans U.out (tt G1.out))
  replace cw := Chg.cell (tt G1.out) cw id
  replace cl := Chg.cell (tt G1.out) cl id
  replace H := Lib.hid (H.out.up (tt G1.out))
  replace ch := Chg.cell (tt G1.out) ch id
  replace T := Lib.hid (T.out.up (tt G1.out))
  replace ct' := Chg.cell (tt G1.out) ct' id
  have hh := cc8 (tt G1.out) b0 b1 b2 b3 b4 b5 b6 b7
  clear b0 b1 b2 b3 b4 b5 b6 b7
  obtain ⟨b0, b1, b2, b3, b4, b5, b6, b7⟩ := hh
  clear G1
  clear Hf
  go_wp2_with fail
  refine (makesLoop_b _ 5 true (by unfold makesB; simp)).mono ?_
  rintro e w' ⟨rfl, rfl⟩
  go_wp2_with fail
  refine (facing_b _ p m.wd m.rack fb fa tb ta true X.out.c0 X.out.c1 Hq.out.2.1 Hq.out.2.2 Hr.out Hw.out Hq.out.1 Hfv.out Hff.out).mono ?_
  rintro e w61 ⟨rfl, g1⟩
  have G1 := Lib.hid g1
  have hz61 := G1.out.size
  clear g1
  replace X := Lib.hid (X.out.up (tt G1.out))
  replace U := Lib.hid (Chg.trans U.out (tt G1.out))
  replace cw := Chg.cell (tt G1.out) cw id
  replace cl := Chg.cell (tt G1.out) cl id
  replace H := Lib.hid (H.out.up (tt G1.out))
  replace ch := Chg.cell (tt G1.out) ch id
  replace T := Lib.hid (T.out.up (tt G1.out))
  replace ct' := Chg.cell (tt G1.out) ct' id
  have hh := cc8 (tt G1.out) b0 b1 b2 b3 b4 b5 b6 b7
  clear b0 b1 b2 b3 b4 b5 b6 b7
  obtain ⟨b0, b1, b2, b3, b4, b5, b6, b7⟩ := hh
  clear G1
  replace X := Lib.hid (X.out.up ((Chg.refl Nowhere w61).alloc (.cells #[.int .i64 tb, .int .i64 ta] 42)))
  replace U := Lib.hid (Chg.trans U.out ((Chg.refl Nowhere w61).alloc (.cells #[.int .i64 tb, .int .i64 ta] 42)))
  replace cw := Chg.cell ((Chg.refl Nowhere w61).alloc (.cells #[.int .i64 tb, .int .i64 ta] 42)) cw id
  replace cl := Chg.cell ((Chg.refl Nowhere w61).alloc (.cells #[.int .i64 tb, .int .i64 ta] 42)) cl id
  replace H := Lib.hid (H.out.up ((Chg.refl Nowhere w61).alloc (.cells #[.int .i64 tb, .int .i64 ta] 42)))
  replace ch := Chg.cell ((Chg.refl Nowhere w61).alloc (.cells #[.int .i64 tb, .int .i64 ta] 42)) ch id
  replace T := Lib.hid (T.out.up ((Chg.refl Nowhere w61).alloc (.cells #[.int .i64 tb, .int .i64 ta] 42)))
  replace ct' := Chg.cell ((Chg.refl Nowhere w61).alloc (.cells #[.int .i64 tb, .int .i64 ta] 42)) ct' id
  replace b0 := Chg.cell ((Chg.refl Nowhere w61).alloc (.cells #[.int .i64 tb, .int .i64 ta] 42)) b0 id
  replace b1 := Chg.cell ((Chg.refl Nowhere w61).alloc (.cells #[.int .i64 tb, .int .i64 ta] 42)) b1 id
  replace b2 := Chg.cell ((Chg.refl Nowhere w61).alloc (.cells #[.int .i64 tb, .int .i64 ta] 42)) b2 id
  replace b3 := Chg.cell ((Chg.refl Nowhere w61).alloc (.cells #[.int .i64 tb, .int .i64 ta] 42)) b3 id
  replace b4 := Chg.cell ((Chg.refl Nowhere w61).alloc (.cells #[.int .i64 tb, .int .i64 ta] 42)) b4 id
  replace b5 := Chg.cell ((Chg.refl Nowhere w61).alloc (.cells #[.int .i64 tb, .int .i64 ta] 42)) b5 id
  replace b6 := Chg.cell ((Chg.refl Nowhere w61).alloc (.cells #[.int .i64 tb, .int .i64 ta] 42)) b6 id
  replace b7 := Chg.cell ((Chg.refl Nowhere w61).alloc (.cells #[.int .i64 tb, .int .i64 ta] 42)) b7 id
  go_wp2_with fail
  refine (on_any _ p fb fa g _ _ H.out).mono ?_
  rintro e w94 ⟨rfl, g1⟩
  have G1 := Lib.hid g1
  have hz94 := G1.out.size
  clear g1
  replace X := Lib.hid (X.out.up (tt G1.out))
  replace U := Lib.hid (Chg.trans U.out (tt G1.out))
  replace cw := Chg.cell (tt G1.out) cw id
  replace cl := Chg.cell (tt G1.out) cl id
  replace H := Lib.hid (H.out.up (tt G1.out))
  replace ch := Chg.cell (tt G1.out) ch id
  replace T := Lib.hid (T.out.up (tt G1.out))
  replace ct' := Chg.cell (tt G1.out) ct' id
  have hh := cc8 (tt G1.out) b0 b1 b2 b3 b4 b5 b6 b7
  clear b0 b1 b2 b3 b4 b5 b6 b7
  obtain ⟨b0, b1, b2, b3, b4, b5, b6, b7⟩ := hh
  clear G1
  go_wp2
  have qcw_97 := up_cell cw
  have qcl_98 := up_cell cl
  have qch_100 := up_cell ch
  have qct_102 := up_cell ct'
  have qb0_103 := up_cell b0
  have qb1_104 := up_cell b1
  have qb2_105 := up_cell b2
  have qb3_106 := up_cell b3
  have qb4_107 := up_cell b4
  have qb5_108 := up_cell b5
  have qb6_109 := up_cell b6
  have qb7_110 := up_cell b7
  have EH := Lib.hid (fun u' : UpOf _ => H.out.up u'.up)
  have ET := Lib.hid (fun u' : UpOf _ => T.out.up u'.up)
  refine wp_region_up (by kernel_rfl) (by kernel_rfl) ?_
  repeat (go_big_quiet_step (first | (go_at_call 80; with_reducible exact calls_up (on_any _ p fb fa g _ _ (EH.out _))) | (go_at_call 80; with_reducible exact calls_up (on_any _ p tb ta gt _ _ (ET.out _)))))
  refine wpQuiet_nil ?_
  rintro u2 ⟨u0, hu⟩
  have gu := hu ▸ u0.up
  clear hu u0
  have hzu111 := gu.size
  replace X := Lib.hid (X.out.up (tt gu))
  replace U := Lib.hid (Chg.trans U.out (tt gu))
  replace cw := Chg.cell (tt gu) cw id
  replace cl := Chg.cell (tt gu) cl id
  replace H := Lib.hid (H.out.up (tt gu))
  replace ch := Chg.cell (tt gu) ch id
  replace T := Lib.hid (T.out.up (tt gu))
  replace ct' := Chg.cell (tt gu) ct' id
  have hh := cc8 (tt gu) b0 b1 b2 b3 b4 b5 b6 b7
  clear b0 b1 b2 b3 b4 b5 b6 b7
  obtain ⟨b0, b1, b2, b3, b4, b5, b6, b7⟩ := hh
  all_goals go_wp2
  all_goals go_ret
  all_goals exact ⟨rfl, (Chg.trans U.out (by repeat (first | exact Chg.refl _ _ | apply Chg.drew | apply Chg.drewN | refine Chg.alloc ?_ _)))⟩
theorem opCode_5_ok (w : World) {S : Nat → Prop} {K p : Nat} {m : MachM} {F B C L D : Value} {fs bs : List Value} (h : MachX w S K p m F B C L D fs bs) (hi : MInv m) (d fb fa tb ta car rk : Int) (hx : okOp m.wd ⟨5, d, fb, fa, tb, ta, car, rk⟩) (hfit : fitsM m ⟨5, d, fb, fa, tb, ta, car, rk⟩ = true) (hfull : m.nl ≠ 300) (hplace : placeM fb fa m.rack = placeM tb ta m.rack) (hnone : (onM m fb fa).length ≠ 0) (hmany : ¬ 4 < (onM m fb fa).length + (onM m tb ta).length) :
    Calls Tryz.prog 79 #[.pointer (some ⟨p, 0, none⟩), .agg #[.int .i64 5, .int .i64 d, .int .i64 fb, .int .i64 fa, .int .i64 tb, .int .i64 ta, .int .i64 car, .int .i64 rk]] w fun e w' => e = .returned (.int .i64 (codeM m ⟨5, d, fb, fa, tb, ta, car, rk⟩)) ∧ Up w w' := by
  have hc := valid_cases hx.1
  have hx1 := hx.2.1
  have hx2 := hx.2.2
  dsimp only at hc hx1 hx2
  have hr := hi.rack
  have hw := hi.wd
  have hn := hi.nl
  have hC : codeM m ⟨5, d, fb, fa, tb, ta, car, rk⟩ = 0 := by simp [codeM, makesB, hfit, hfull, hplace, hnone, hmany]
  rw [hC]
  clear hC
  have y1 : decide (m.wd ≤ fa) = false := decide_eq_false (by omega)
  have y2 : decide (m.wd ≤ ta) = false := decide_eq_false (by omega)
  obtain ⟨csL, hL⟩ := h.l
  obtain ⟨A5, c5, rfl, hl5, hc5, -⟩ := ownsRow_shape hL
  clear hL hl5 hc5
  have X := Lib.hid (h)
  have U := Lib.hid ((Chg.refl Nowhere w))
  have cw := h.c0.1
  have cl := h.c5.1
  obtain ⟨g, v, hH, -⟩ := h.hold hi (b := fb) (a := fa) ⟨by omega, by omega, by omega⟩
  obtain ⟨Af, cf, rfl, hlf, hcf, -⟩ := hH.own.ints.shape
  have H := Lib.hid (hH)
  have ch := hH.cell.1
  obtain ⟨gt, vt, hT, -⟩ := h.hold hi (b := tb) (a := ta) ⟨by omega, by omega, by omega⟩
  obtain ⟨At, ct, rfl, hlt, hct, -⟩ := hT.own.ints.shape
  have T := Lib.hid (hT)
  have ct' := hT.cell.1
  have y3 : ((m.nl : Int) == 300) = false := by simpa using (show ¬ (m.nl : Int) = 300 by omega)
  have y5 : (((onM m fb fa).length : Int) == 0) = false := by simpa using (show ¬ ((onM m fb fa).length : Int) = 0 by omega)
  have Hx := Lib.hid hx
  have Hi := Lib.hid hi
  have Hf := Lib.hid hfit
  have hq : 3 - fb = tb ∧ (fb = 1 ∨ fb = 2) ∧ (0 ≤ fa ∧ fa ≤ 100) := by omega
  have Hq := Lib.hid hq
  have Hr := Lib.hid hr
  have Hw := Lib.hid hw
  have hfv : faceM fb fa m.rack = ta := by unfold faceM; unfold placeM at hplace; split <;> simp_all <;> omega
  have hff : inB ta 0 (m.wd - 1) = true := by unfold inB; exact decide_eq_true (by omega)
  have Hff := Lib.hid hff
  have Hfv := Lib.hid hfv
  have y6 : decide (4 < ((onM m fb fa).length : Int) + ((onM m tb ta).length : Int)) = false := decide_eq_false (by omega)
  have hz1 : (onM m fb fa).length ≤ 4 ∧ (onM m tb ta).length ≤ 4 := ⟨(hi.on_ fb fa).1, (hi.on_ tb ta).1⟩
  have y7 : IntKind.i64.wrap (((onM m fb fa).length : Int) + ((onM m tb ta).length : Int)) = ((onM m fb fa).length : Int) + ((onM m tb ta).length : Int) := IntWalk.i64_in _ (by omega)
  clear hz1
  clear hc hx hi hr hw hfit h hx1 hx2 hn hH hT hq hff hfv
  clear hfull
  clear hplace
  clear hnone
  clear hmany
  replace X := Lib.hid (X.out.up ((Chg.refl Nowhere w).alloc (.cells #[.int .i64 5, .int .i64 d, .int .i64 fb, .int .i64 fa, .int .i64 tb, .int .i64 ta, .int .i64 car, .int .i64 rk] 44)))
  replace U := Lib.hid (Chg.trans U.out ((Chg.refl Nowhere w).alloc (.cells #[.int .i64 5, .int .i64 d, .int .i64 fb, .int .i64 fa, .int .i64 tb, .int .i64 ta, .int .i64 car, .int .i64 rk] 44)))
  replace cw := Chg.cell ((Chg.refl Nowhere w).alloc (.cells #[.int .i64 5, .int .i64 d, .int .i64 fb, .int .i64 fa, .int .i64 tb, .int .i64 ta, .int .i64 car, .int .i64 rk] 44)) cw id
  replace cl := Chg.cell ((Chg.refl Nowhere w).alloc (.cells #[.int .i64 5, .int .i64 d, .int .i64 fb, .int .i64 fa, .int .i64 tb, .int .i64 ta, .int .i64 car, .int .i64 rk] 44)) cl id
  replace H := Lib.hid (H.out.up ((Chg.refl Nowhere w).alloc (.cells #[.int .i64 5, .int .i64 d, .int .i64 fb, .int .i64 fa, .int .i64 tb, .int .i64 ta, .int .i64 car, .int .i64 rk] 44)))
  replace ch := Chg.cell ((Chg.refl Nowhere w).alloc (.cells #[.int .i64 5, .int .i64 d, .int .i64 fb, .int .i64 fa, .int .i64 tb, .int .i64 ta, .int .i64 car, .int .i64 rk] 44)) ch id
  replace T := Lib.hid (T.out.up ((Chg.refl Nowhere w).alloc (.cells #[.int .i64 5, .int .i64 d, .int .i64 fb, .int .i64 fa, .int .i64 tb, .int .i64 ta, .int .i64 car, .int .i64 rk] 44)))
  replace ct' := Chg.cell ((Chg.refl Nowhere w).alloc (.cells #[.int .i64 5, .int .i64 d, .int .i64 fb, .int .i64 fa, .int .i64 tb, .int .i64 ta, .int .i64 car, .int .i64 rk] 44)) ct' id
  obtain ⟨b0, b1, b2, b3, b4, b5, b6, b7⟩ := box8 w (.int .i64 5) (.int .i64 d) (.int .i64 fb) (.int .i64 fa) (.int .i64 tb) (.int .i64 ta) (.int .i64 car) (.int .i64 rk) 44
  have hbx25 : w.heap.size < (w.alloc (.cells #[.int .i64 5, .int .i64 d, .int .i64 fb, .int .i64 fa, .int .i64 tb, .int .i64 ta, .int .i64 car, .int .i64 rk] 44)).heap.size := by simp
  go_enter Tryz.func79, Tryz.ntmps79
  go_wp2
  have qcw_11 := up_cell cw
  have qb3_20 := up_cell b3
  have qb5_22 := up_cell b5
  refine wp_region_up (by kernel_rfl) (by kernel_rfl) ?_
  repeat (go_big_quiet_step (fail))
  refine wpQuiet_nil ?_
  rintro u ⟨u0, hu⟩
  have gu := hu ▸ u0.up
  clear hu u0
  have hzu26 := gu.size
  clear qcw_11
  clear qb3_20
  clear qb5_22
  replace X := Lib.hid (X.out.up (tt gu))
  replace U := Lib.hid (Chg.trans U.out (tt gu))
  replace cw := Chg.cell (tt gu) cw id
  replace cl := Chg.cell (tt gu) cl id
  replace H := Lib.hid (H.out.up (tt gu))
  replace ch := Chg.cell (tt gu) ch id
  replace T := Lib.hid (T.out.up (tt gu))
  replace ct' := Chg.cell (tt gu) ct' id
  have hh := cc8 (tt gu) b0 b1 b2 b3 b4 b5 b6 b7
  clear b0 b1 b2 b3 b4 b5 b6 b7
  obtain ⟨b0, b1, b2, b3, b4, b5, b6, b7⟩ := hh
  clear gu
  go_wp2_with fail
  refine (carrierFits_b _ X.out Hi.out ⟨5, d, fb, fa, tb, ta, car, rk⟩ Hx.out true Hf.out).mono ?_
  rintro e w43 ⟨rfl, g1⟩
  have G1 := Lib.hid g1
  have hz43 := G1.out.size
  clear g1
  replace X := Lib.hid (X.out.up (tt G1.out))
  replace U := Lib.hid (Chg.trans U.out (tt G1.out))
  replace cw := Chg.cell (tt G1.out) cw id
  replace cl := Chg.cell (tt G1.out) cl id
  replace H := Lib.hid (H.out.up (tt G1.out))
  replace ch := Chg.cell (tt G1.out) ch id
  replace T := Lib.hid (T.out.up (tt G1.out))
  replace ct' := Chg.cell (tt G1.out) ct' id
  have hh := cc8 (tt G1.out) b0 b1 b2 b3 b4 b5 b6 b7
  clear b0 b1 b2 b3 b4 b5 b6 b7
  obtain ⟨b0, b1, b2, b3, b4, b5, b6, b7⟩ := hh
  clear G1
  clear Hf
  go_wp2_with fail
  refine (makesLoop_b _ 5 true (by unfold makesB; simp)).mono ?_
  rintro e w' ⟨rfl, rfl⟩
  go_wp2_with fail
  refine (facing_b _ p m.wd m.rack fb fa tb ta true X.out.c0 X.out.c1 Hq.out.2.1 Hq.out.2.2 Hr.out Hw.out Hq.out.1 Hfv.out Hff.out).mono ?_
  rintro e w61 ⟨rfl, g1⟩
  have G1 := Lib.hid g1
  have hz61 := G1.out.size
  clear g1
  replace X := Lib.hid (X.out.up (tt G1.out))
  replace U := Lib.hid (Chg.trans U.out (tt G1.out))
  replace cw := Chg.cell (tt G1.out) cw id
  replace cl := Chg.cell (tt G1.out) cl id
  replace H := Lib.hid (H.out.up (tt G1.out))
  replace ch := Chg.cell (tt G1.out) ch id
  replace T := Lib.hid (T.out.up (tt G1.out))
  replace ct' := Chg.cell (tt G1.out) ct' id
  have hh := cc8 (tt G1.out) b0 b1 b2 b3 b4 b5 b6 b7
  clear b0 b1 b2 b3 b4 b5 b6 b7
  obtain ⟨b0, b1, b2, b3, b4, b5, b6, b7⟩ := hh
  clear G1
  replace X := Lib.hid (X.out.up ((Chg.refl Nowhere w61).alloc (.cells #[.int .i64 tb, .int .i64 ta] 42)))
  replace U := Lib.hid (Chg.trans U.out ((Chg.refl Nowhere w61).alloc (.cells #[.int .i64 tb, .int .i64 ta] 42)))
  replace cw := Chg.cell ((Chg.refl Nowhere w61).alloc (.cells #[.int .i64 tb, .int .i64 ta] 42)) cw id
  replace cl := Chg.cell ((Chg.refl Nowhere w61).alloc (.cells #[.int .i64 tb, .int .i64 ta] 42)) cl id
  replace H := Lib.hid (H.out.up ((Chg.refl Nowhere w61).alloc (.cells #[.int .i64 tb, .int .i64 ta] 42)))
  replace ch := Chg.cell ((Chg.refl Nowhere w61).alloc (.cells #[.int .i64 tb, .int .i64 ta] 42)) ch id
  replace T := Lib.hid (T.out.up ((Chg.refl Nowhere w61).alloc (.cells #[.int .i64 tb, .int .i64 ta] 42)))
  replace ct' := Chg.cell ((Chg.refl Nowhere w61).alloc (.cells #[.int .i64 tb, .int .i64 ta] 42)) ct' id
  replace b0 := Chg.cell ((Chg.refl Nowhere w61).alloc (.cells #[.int .i64 tb, .int .i64 ta] 42)) b0 id
  replace b1 := Chg.cell ((Chg.refl Nowhere w61).alloc (.cells #[.int .i64 tb, .int .i64 ta] 42)) b1 id
  replace b2 := Chg.cell ((Chg.refl Nowhere w61).alloc (.cells #[.int .i64 tb, .int .i64 ta] 42)) b2 id
  replace b3 := Chg.cell ((Chg.refl Nowhere w61).alloc (.cells #[.int .i64 tb, .int .i64 ta] 42)) b3 id
  replace b4 := Chg.cell ((Chg.refl Nowhere w61).alloc (.cells #[.int .i64 tb, .int .i64 ta] 42)) b4 id
  replace b5 := Chg.cell ((Chg.refl Nowhere w61).alloc (.cells #[.int .i64 tb, .int .i64 ta] 42)) b5 id
  replace b6 := Chg.cell ((Chg.refl Nowhere w61).alloc (.cells #[.int .i64 tb, .int .i64 ta] 42)) b6 id
  replace b7 := Chg.cell ((Chg.refl Nowhere w61).alloc (.cells #[.int .i64 tb, .int .i64 ta] 42)) b7 id
  go_wp2_with fail
  refine (on_any _ p fb fa g _ _ H.out).mono ?_
  rintro e w94 ⟨rfl, g1⟩
  have G1 := Lib.hid g1
  have hz94 := G1.out.size
  clear g1
  replace X := Lib.hid (X.out.up (tt G1.out))
  replace U := Lib.hid (Chg.trans U.out (tt G1.out))
  replace cw := Chg.cell (tt G1.out) cw id
  replace cl := Chg.cell (tt G1.out) cl id
  replace H := Lib.hid (H.out.up (tt G1.out))
  replace ch := Chg.cell (tt G1.out) ch id
  replace T := Lib.hid (T.out.up (tt G1.out))
  replace ct' := Chg.cell (tt G1.out) ct' id
  have hh := cc8 (tt G1.out) b0 b1 b2 b3 b4 b5 b6 b7
  clear b0 b1 b2 b3 b4 b5 b6 b7
  obtain ⟨b0, b1, b2, b3, b4, b5, b6, b7⟩ := hh
  clear G1
  go_wp2
  have qcw_97 := up_cell cw
  have qcl_98 := up_cell cl
  have qch_100 := up_cell ch
  have qct_102 := up_cell ct'
  have qb0_103 := up_cell b0
  have qb1_104 := up_cell b1
  have qb2_105 := up_cell b2
  have qb3_106 := up_cell b3
  have qb4_107 := up_cell b4
  have qb5_108 := up_cell b5
  have qb6_109 := up_cell b6
  have qb7_110 := up_cell b7
  have EH := Lib.hid (fun u' : UpOf _ => H.out.up u'.up)
  have ET := Lib.hid (fun u' : UpOf _ => T.out.up u'.up)
  refine wp_region_up (by kernel_rfl) (by kernel_rfl) ?_
  repeat (go_big_quiet_step (first | (go_at_call 80; with_reducible exact calls_up (on_any _ p fb fa g _ _ (EH.out _))) | (go_at_call 80; with_reducible exact calls_up (on_any _ p tb ta gt _ _ (ET.out _)))))
  refine wpQuiet_nil ?_
  rintro u2 ⟨u0, hu⟩
  have gu := hu ▸ u0.up
  clear hu u0
  have hzu111 := gu.size
  replace X := Lib.hid (X.out.up (tt gu))
  replace U := Lib.hid (Chg.trans U.out (tt gu))
  replace cw := Chg.cell (tt gu) cw id
  replace cl := Chg.cell (tt gu) cl id
  replace H := Lib.hid (H.out.up (tt gu))
  replace ch := Chg.cell (tt gu) ch id
  replace T := Lib.hid (T.out.up (tt gu))
  replace ct' := Chg.cell (tt gu) ct' id
  have hh := cc8 (tt gu) b0 b1 b2 b3 b4 b5 b6 b7
  clear b0 b1 b2 b3 b4 b5 b6 b7
  obtain ⟨b0, b1, b2, b3, b4, b5, b6, b7⟩ := hh
  all_goals go_wp2
  all_goals go_ret
  all_goals exact ⟨rfl, (Chg.trans U.out (by repeat (first | exact Chg.refl _ _ | apply Chg.drew | apply Chg.drewN | refine Chg.alloc ?_ _)))⟩
theorem opCode_any (w : World) {S : Nat → Prop} {K p : Nat} {m : MachM} {F B C L D : Value} {fs bs : List Value} (h : MachX w S K p m F B C L D fs bs) (hi : MInv m) (x : OpM) (hx : okOp m.wd x) :
    Calls Tryz.prog 79 #[.pointer (some ⟨p, 0, none⟩), x.val] w fun e w' => e = .returned (.int .i64 (codeM m x)) ∧ Up w w' := by
  have hc := valid_cases hx.1
  obtain ⟨k, d, fb, fa, tb, ta, car, rk⟩ := x
  dsimp only at hc
  have hk : k = 1 ∨ k = 2 ∨ k = 3 ∨ k = 4 ∨ k = 5 ∨ k = 6 ∨ k = 7 ∨ k = 8 ∨ k = 9 := by omega
  clear hc
  rcases hk with rfl | rfl | rfl | rfl | rfl | rfl | rfl | rfl | rfl
  · by_cases hfit : fitsM m ⟨1, d, fb, fa, tb, ta, car, rk⟩ = false
    · exact opCode_1_fit w h hi d fb fa tb ta car rk hx  hfit
    by_cases hfull : m.nl = 300
    · exact opCode_1_full w h hi d fb fa tb ta car rk hx (by simpa using hfit) hfull
    exact opCode_1_ok w h hi d fb fa tb ta car rk hx (by simpa using hfit) hfull
  · by_cases hfit : fitsM m ⟨2, d, fb, fa, tb, ta, car, rk⟩ = false
    · exact opCode_2_fit w h hi d fb fa tb ta car rk hx  hfit
    by_cases hfull : m.nl = 300
    · exact opCode_2_full w h hi d fb fa tb ta car rk hx (by simpa using hfit) hfull
    by_cases hfour : (onM m fb fa).length = 4
    · exact opCode_2_four w h hi d fb fa tb ta car rk hx (by simpa using hfit) hfull hfour
    exact opCode_2_ok w h hi d fb fa tb ta car rk hx (by simpa using hfit) hfull hfour
  · by_cases hfit : fitsM m ⟨3, d, fb, fa, tb, ta, car, rk⟩ = false
    · exact opCode_3_fit w h hi d fb fa tb ta car rk hx  hfit
    exact opCode_3_ok w h hi d fb fa tb ta car rk hx (by simpa using hfit)
  · by_cases hplace : placeM fb fa m.rack ≠ placeM tb ta m.rack
    · exact opCode_4_place w h hi d fb fa tb ta car rk hx  hplace
    by_cases hnone : (onM m fb fa).length = 0
    · exact opCode_4_none w h hi d fb fa tb ta car rk hx (Decidable.not_not.1 hplace) hnone
    by_cases hmany : 4 < (onM m fb fa).length + (onM m tb ta).length
    · exact opCode_4_many w h hi d fb fa tb ta car rk hx (Decidable.not_not.1 hplace) hnone hmany
    exact opCode_4_ok w h hi d fb fa tb ta car rk hx (Decidable.not_not.1 hplace) hnone hmany
  · by_cases hfit : fitsM m ⟨5, d, fb, fa, tb, ta, car, rk⟩ = false
    · exact opCode_5_fit w h hi d fb fa tb ta car rk hx  hfit
    by_cases hfull : m.nl = 300
    · exact opCode_5_full w h hi d fb fa tb ta car rk hx (by simpa using hfit) hfull
    by_cases hplace : placeM fb fa m.rack ≠ placeM tb ta m.rack
    · exact opCode_5_place w h hi d fb fa tb ta car rk hx (by simpa using hfit) hfull hplace
    by_cases hnone : (onM m fb fa).length = 0
    · exact opCode_5_none w h hi d fb fa tb ta car rk hx (by simpa using hfit) hfull (Decidable.not_not.1 hplace) hnone
    by_cases hmany : 4 < (onM m fb fa).length + (onM m tb ta).length
    · exact opCode_5_many w h hi d fb fa tb ta car rk hx (by simpa using hfit) hfull (Decidable.not_not.1 hplace) hnone hmany
    exact opCode_5_ok w h hi d fb fa tb ta car rk hx (by simpa using hfit) hfull (Decidable.not_not.1 hplace) hnone hmany
  · by_cases hnone : (onM m fb fa).length = 0
    · exact opCode_6_none w h hi d fb fa tb ta car rk hx  hnone
    exact opCode_6_ok w h hi d fb fa tb ta car rk hx hnone
  · exact opCode_7_ok w h hi d fb fa tb ta car rk hx 
  · by_cases hfit : fitsM m ⟨8, d, fb, fa, tb, ta, car, rk⟩ = false
    · exact opCode_8_fit w h hi d fb fa tb ta car rk hx  hfit
    exact opCode_8_ok w h hi d fb fa tb ta car rk hx (by simpa using hfit)
  · by_cases hfit : fitsM m ⟨9, d, fb, fa, tb, ta, car, rk⟩ = false
    · exact opCode_9_fit w h hi d fb fa tb ta car rk hx  hfit
    exact opCode_9_ok w h hi d fb fa tb ta car rk hx (by simpa using hfit)
end Go.Proofs.YtiiodfcbpmkodaaGreat
