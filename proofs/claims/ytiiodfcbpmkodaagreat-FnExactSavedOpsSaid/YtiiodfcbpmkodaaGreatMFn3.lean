/- Whether the carrier of an operation fits. No condition. -/
import Derived.Test.YtiiodfcbpmkodaaGreatMFn2
set_option linter.unusedSimpArgs false
set_option linter.unusedVariables false
set_option maxRecDepth 100000
set_option maxHeartbeats 8000000
namespace Go.Proofs.YtiiodfcbpmkodaaGreat
open Go.ChangeShapes Go.WideShapes Go.ChangeAt Go.RowKit
attribute [local go_sem ↓] Go.wp_at_zero Go.wp_at_succ
/-- a carrier in its row -/
structure CarH (w : World) (p : Nat) (car : Int) (st : Bool) (pl : Int) (g j c : Nat) : Prop where
  ec : car = j + 1
  jl : j < 4
  cc : 4 ≤ c ∧ c ≤ 9223372036854775807
  hdr : CellU w ⟨p, 4, none⟩ (.slice (some ⟨g, 0, none⟩) 4 c)
  a : CellU w ⟨g, j * 2, none⟩ (.bool st)
  b : CellU w ⟨g, j * 2 + 1, none⟩ (.int .i64 pl)
theorem CarH.up {w w' : World} {p g j c : Nat} {car pl : Int} {st : Bool} (h : CarH w p car st pl g j c) (k : Up w w') : CarH w' p car st pl g j c := ⟨h.ec, h.jl, h.cc, h.hdr.up k, h.a.up k, h.b.up k⟩
theorem MachX.car {w : World} {S : Nat → Prop} {K p : Nat} {m : MachM} {F B C L D : Value} {fs bs : List Value} (h : MachX w S K p m F B C L D fs bs) (hi : MInv m) {car : Int} (hc : 1 ≤ car ∧ car ≤ 4) :
    ∃ g j c, CarH w p car (carAt m car).1 (carAt m car).2 g j c ∧ C = .slice (some ⟨g, 0, none⟩) 4 c := by
  have hcl := hi.cl
  obtain ⟨g, c, hC, hc1, hc2, hg, hcs⟩ := ownsRow_some h.c (by omega)
  rw [hcl] at hC hc1
  have hl : (carCells m.cs).length = 8 := by
    have := h.c.1
    omega
  obtain ⟨j, rfl⟩ : ∃ j : Nat, car = j + 1 := ⟨(car - 1).toNat, by omega⟩
  have hj : j < 4 := by omega
  obtain ⟨q1, q2⟩ := carCells_get m.cs j (by omega)
  have e0 : carAt m ((j : Int) + 1) = m.cs.getD j (false, 0) := by unfold carAt; rw [show ((j : Int) + 1 - 1).toNat = j by omega]
  rw [e0]
  refine ⟨g, j, c, ⟨rfl, hj, ⟨hc1, by unfold Go.maxLen at hc2; omega⟩, hC ▸ h.c4, ?_, ?_⟩, hC⟩
  · have k1 := hcs (j * 2) (by omega)
    have k2 : (carCells m.cs)[j * 2]'(by omega) = .bool (m.cs.getD j (false, 0)).1 := by
      rw [List.getElem?_eq_getElem (by omega)] at q1; exact Option.some.inj q1
    rwa [k2] at k1
  · have k1 := hcs (j * 2 + 1) (by omega)
    have k2 : (carCells m.cs)[j * 2 + 1]'(by omega) = .int .i64 (m.cs.getD j (false, 0)).2 := by
      rw [List.getElem?_eq_getElem (by omega)] at q2; exact Option.some.inj q2
    rwa [k2] at k1
theorem carrierFits_4 (w : World) (p : Nat) (d fb fa tb ta car rk : Int) (hp : p < w.heap.size) :
    Calls Tryz.prog 88 #[.pointer (some ⟨p, 0, none⟩), .agg #[.int .i64 4, .int .i64 d, .int .i64 fb, .int .i64 fa, .int .i64 tb, .int .i64 ta, .int .i64 car, .int .i64 rk]] w fun e w' => e = .returned (.bool true) ∧ Up w w' := by
  have hG := Lib.hid ((Chg.refl Nowhere w).alloc (.cells #[.int .i64 4, .int .i64 d, .int .i64 fb, .int .i64 fa, .int .i64 tb, .int .i64 ta, .int .i64 car, .int .i64 rk] 44))
  go_enter Tryz.func88, Tryz.ntmps88
  go_wp2
  go_ret
  exact ⟨rfl, hG.out⟩
theorem carrierFits_6 (w : World) (p : Nat) (d fb fa tb ta car rk : Int) (hp : p < w.heap.size) :
    Calls Tryz.prog 88 #[.pointer (some ⟨p, 0, none⟩), .agg #[.int .i64 6, .int .i64 d, .int .i64 fb, .int .i64 fa, .int .i64 tb, .int .i64 ta, .int .i64 car, .int .i64 rk]] w fun e w' => e = .returned (.bool true) ∧ Up w w' := by
  have hG := Lib.hid ((Chg.refl Nowhere w).alloc (.cells #[.int .i64 6, .int .i64 d, .int .i64 fb, .int .i64 fa, .int .i64 tb, .int .i64 ta, .int .i64 car, .int .i64 rk] 44))
  go_enter Tryz.func88, Tryz.ntmps88
  go_wp2
  go_ret
  exact ⟨rfl, hG.out⟩
theorem carrierFits_7 (w : World) (p : Nat) (d fb fa tb ta car rk : Int) (hp : p < w.heap.size) :
    Calls Tryz.prog 88 #[.pointer (some ⟨p, 0, none⟩), .agg #[.int .i64 7, .int .i64 d, .int .i64 fb, .int .i64 fa, .int .i64 tb, .int .i64 ta, .int .i64 car, .int .i64 rk]] w fun e w' => e = .returned (.bool true) ∧ Up w w' := by
  have hG := Lib.hid ((Chg.refl Nowhere w).alloc (.cells #[.int .i64 7, .int .i64 d, .int .i64 fb, .int .i64 fa, .int .i64 tb, .int .i64 ta, .int .i64 car, .int .i64 rk] 44))
  go_enter Tryz.func88, Tryz.ntmps88
  go_wp2
  go_ret
  exact ⟨rfl, hG.out⟩
theorem carrierFits_8 (w : World) (p : Nat) (d fb fa tb ta car rk pl : Int) (st : Bool) (g j c : Nat) (h : CarH w p car st pl g j c) :
    Calls Tryz.prog 88 #[.pointer (some ⟨p, 0, none⟩), .agg #[.int .i64 8, .int .i64 d, .int .i64 fb, .int .i64 fa, .int .i64 tb, .int .i64 ta, .int .i64 car, .int .i64 rk]] w fun e w' => e = .returned (.bool (!st)) ∧ Up w w' := by
  obtain ⟨rfl, jl, ⟨cc1, cc2⟩, ⟨f0, -⟩, ⟨f1, -⟩, ⟨f2, -⟩⟩ := h
  have hpl := World.block_lt_of_cell? _ _ f0
  have hG := Lib.hid (show Up w (w.alloc (.cells #[.int .i64 8, .int .i64 d, .int .i64 fb, .int .i64 fa, .int .i64 tb, .int .i64 ta, .int .i64 ((j : Int) + 1), .int .i64 rk] 44)) from (Chg.refl Nowhere w).alloc _)
  have e0 := Chg.cell hG.out f0 id
  have e1 := Chg.cell hG.out f1 id
  have e2 := Chg.cell hG.out f2 id
  have e3 : (w.alloc (.cells #[.int .i64 8, .int .i64 d, .int .i64 fb, .int .i64 fa, .int .i64 tb, .int .i64 ta, .int .i64 ((j : Int) + 1), .int .i64 rk] 44)).cell? ⟨w.heap.size, 6, none⟩ = some (.int .i64 ((j : Int) + 1)) := cell_new _ _ _ _
  have y1 : IntKind.i64.wrap ((j : Int) + 1 - 1) = j := (IntWalk.i64_in ((j : Int) + 1 - 1) (by omega)).trans (by omega)
  have y2 : IntKind.i64.wrap (j : Int) = j := IntWalk.i64_in _ (by omega)
  have b0 : (0 : Int) ≤ (j : Int) := by omega
  have b1 : (j : Int) < 4 := by omega
  clear f0 f1 f2
  go_enter Tryz.func88, Tryz.ntmps88
  go_wp2
  have q0 := up_cell e0
  have q1 := up_cell e1
  have q2 := up_cell e2
  have q3 := up_cell e3
  clear e0 e1 e2 e3
  refine wp_region_up (by kernel_rfl) (by kernel_rfl) ?_
  repeat (go_big_quiet_step (fail))
  refine wpQuiet_nil ?_
  rintro _ ⟨u, rfl⟩
  go_wp2
  go_ret
  exact ⟨by simp, Chg.trans hG.out u.up⟩
theorem carrierFits_9 (w : World) (p : Nat) (d fb fa tb ta car rk pl : Int) (st : Bool) (g j c : Nat) (h : CarH w p car st pl g j c) :
    Calls Tryz.prog 88 #[.pointer (some ⟨p, 0, none⟩), .agg #[.int .i64 9, .int .i64 d, .int .i64 fb, .int .i64 fa, .int .i64 tb, .int .i64 ta, .int .i64 car, .int .i64 rk]] w fun e w' => e = .returned (.bool st) ∧ Up w w' := by
  obtain ⟨rfl, jl, ⟨cc1, cc2⟩, ⟨f0, -⟩, ⟨f1, -⟩, ⟨f2, -⟩⟩ := h
  have hpl := World.block_lt_of_cell? _ _ f0
  have hG := Lib.hid (show Up w (w.alloc (.cells #[.int .i64 9, .int .i64 d, .int .i64 fb, .int .i64 fa, .int .i64 tb, .int .i64 ta, .int .i64 ((j : Int) + 1), .int .i64 rk] 44)) from (Chg.refl Nowhere w).alloc _)
  have e0 := Chg.cell hG.out f0 id
  have e1 := Chg.cell hG.out f1 id
  have e2 := Chg.cell hG.out f2 id
  have e3 : (w.alloc (.cells #[.int .i64 9, .int .i64 d, .int .i64 fb, .int .i64 fa, .int .i64 tb, .int .i64 ta, .int .i64 ((j : Int) + 1), .int .i64 rk] 44)).cell? ⟨w.heap.size, 6, none⟩ = some (.int .i64 ((j : Int) + 1)) := cell_new _ _ _ _
  have y1 : IntKind.i64.wrap ((j : Int) + 1 - 1) = j := (IntWalk.i64_in ((j : Int) + 1 - 1) (by omega)).trans (by omega)
  have y2 : IntKind.i64.wrap (j : Int) = j := IntWalk.i64_in _ (by omega)
  have b0 : (0 : Int) ≤ (j : Int) := by omega
  have b1 : (j : Int) < 4 := by omega
  clear f0 f1 f2
  go_enter Tryz.func88, Tryz.ntmps88
  go_wp2
  have q0 := up_cell e0
  have q1 := up_cell e1
  have q2 := up_cell e2
  have q3 := up_cell e3
  clear e0 e1 e2 e3
  refine wp_region_up (by kernel_rfl) (by kernel_rfl) ?_
  repeat (go_big_quiet_step (fail))
  refine wpQuiet_nil ?_
  rintro _ ⟨u, rfl⟩
  go_wp2
  go_ret
  exact ⟨by simp, Chg.trans hG.out u.up⟩
theorem cell_at {w : World} {cs : Array Value} {e : TypeId} {g t : Nat} {u : Value} (h : g = w.heap.size) (hu : cs[t]? = some u) : (w.alloc (.cells cs e)).cell? ⟨g, t, none⟩ = some u := by
  subst h
  rw [cell_new]; exact hu
theorem carrierFits_m (w : World) (p : Nat) (k d fb fa tb ta car rk pl r : Int) (st : Bool) (g j c : Nat) (h : CarH w p car st pl g j c) (hr : CellU w ⟨p, 1, none⟩ (.int .i64 r)) (n4 : (k == 4) = false) (n6 : (k == 6) = false) (n7 : (k == 7) = false) (n8 : (k == 8) = false) (n9 : (k == 9) = false) (hd : d = 1 ∨ d = -1) (ha : 0 ≤ fa ∧ fa ≤ 100) (hrr : -3 ≤ r ∧ r ≤ 3) :
    Calls Tryz.prog 88 #[.pointer (some ⟨p, 0, none⟩), .agg #[.int .i64 k, .int .i64 d, .int .i64 fb, .int .i64 fa, .int .i64 tb, .int .i64 ta, .int .i64 car, .int .i64 rk]] w fun e w' => e = .returned (.bool (st && decide ((d = 1 ∧ pl ≤ placeM fb fa r) ∨ (d = -1 ∧ placeM fb fa r + 1 ≤ pl)))) ∧ Up w w' := by
  obtain ⟨rfl, jl, ⟨cc1, cc2⟩, ⟨f0, -⟩, ⟨f1, -⟩, ⟨f2, -⟩⟩ := h
  obtain ⟨f3, -⟩ := hr
  have hpl := World.block_lt_of_cell? _ _ f0
  have hpl : p < w.heap.size := hpl
  have hG := Lib.hid (show Up w (w.alloc (.cells #[.int .i64 k, .int .i64 d, .int .i64 fb, .int .i64 fa, .int .i64 tb, .int .i64 ta, .int .i64 ((j : Int) + 1), .int .i64 rk] 44)) from (Chg.refl Nowhere w).alloc _)
  have hG2 := Lib.hid (show Up w ((w.alloc (.cells #[.int .i64 k, .int .i64 d, .int .i64 fb, .int .i64 fa, .int .i64 tb, .int .i64 ta, .int .i64 ((j : Int) + 1), .int .i64 rk] 44)).alloc (.cells #[.bool st, .int .i64 pl] 96)) from ((Chg.refl Nowhere w).alloc _).alloc _)
  have e0 := Chg.cell hG.out f0 id
  have e1 := Chg.cell hG.out f1 id
  have e2 := Chg.cell hG.out f2 id
  have e4 := Chg.cell hG2.out f3 id
  have e3 : (w.alloc (.cells #[.int .i64 k, .int .i64 d, .int .i64 fb, .int .i64 fa, .int .i64 tb, .int .i64 ta, .int .i64 ((j : Int) + 1), .int .i64 rk] 44)).cell? ⟨w.heap.size, 6, none⟩ = some (.int .i64 ((j : Int) + 1)) := cell_new _ _ _ _
  have g1 : ((w.alloc (.cells #[.int .i64 k, .int .i64 d, .int .i64 fb, .int .i64 fa, .int .i64 tb, .int .i64 ta, .int .i64 ((j : Int) + 1), .int .i64 rk] 44)).alloc (.cells #[.bool st, .int .i64 pl] 96)).cell? ⟨w.heap.size, 1, none⟩ = some (.int .i64 d) := Chg.cell ((Chg.refl Nowhere _).alloc _) (cell_new w #[.int .i64 k, .int .i64 d, .int .i64 fb, .int .i64 fa, .int .i64 tb, .int .i64 ta, .int .i64 ((j : Int) + 1), .int .i64 rk] 44 1) id
  have g2 : ((w.alloc (.cells #[.int .i64 k, .int .i64 d, .int .i64 fb, .int .i64 fa, .int .i64 tb, .int .i64 ta, .int .i64 ((j : Int) + 1), .int .i64 rk] 44)).alloc (.cells #[.bool st, .int .i64 pl] 96)).cell? ⟨w.heap.size, 2, none⟩ = some (.int .i64 fb) := Chg.cell ((Chg.refl Nowhere _).alloc _) (cell_new w #[.int .i64 k, .int .i64 d, .int .i64 fb, .int .i64 fa, .int .i64 tb, .int .i64 ta, .int .i64 ((j : Int) + 1), .int .i64 rk] 44 2) id
  have g3 : ((w.alloc (.cells #[.int .i64 k, .int .i64 d, .int .i64 fb, .int .i64 fa, .int .i64 tb, .int .i64 ta, .int .i64 ((j : Int) + 1), .int .i64 rk] 44)).alloc (.cells #[.bool st, .int .i64 pl] 96)).cell? ⟨w.heap.size, 3, none⟩ = some (.int .i64 fa) := Chg.cell ((Chg.refl Nowhere _).alloc _) (cell_new w #[.int .i64 k, .int .i64 d, .int .i64 fb, .int .i64 fa, .int .i64 tb, .int .i64 ta, .int .i64 ((j : Int) + 1), .int .i64 rk] 44 3) id
  have k0 : ((w.alloc (.cells #[.int .i64 k, .int .i64 d, .int .i64 fb, .int .i64 fa, .int .i64 tb, .int .i64 ta, .int .i64 ((j : Int) + 1), .int .i64 rk] 44)).alloc (.cells #[.bool st, .int .i64 pl] 96)).cell? ⟨w.heap.size + 1, 0, none⟩ = some (.bool st) := cell_at (by simp) rfl
  have k1 : ((w.alloc (.cells #[.int .i64 k, .int .i64 d, .int .i64 fb, .int .i64 fa, .int .i64 tb, .int .i64 ta, .int .i64 ((j : Int) + 1), .int .i64 rk] 44)).alloc (.cells #[.bool st, .int .i64 pl] 96)).cell? ⟨w.heap.size + 1, 1, none⟩ = some (.int .i64 pl) := cell_at (by simp) rfl
  have z0 := Chg.cell ((Chg.refl Nowhere _).alloc (.cells #[.bool false, .int .i64 0] 96)) e0 id
  have z1 := Chg.cell ((Chg.refl Nowhere _).alloc (.cells #[.bool false, .int .i64 0] 96)) e1 id
  have z2 := Chg.cell ((Chg.refl Nowhere _).alloc (.cells #[.bool false, .int .i64 0] 96)) e2 id
  have z3 := Chg.cell ((Chg.refl Nowhere _).alloc (.cells #[.bool false, .int .i64 0] 96)) e3 id
  have y1 : IntKind.i64.wrap ((j : Int) + 1 - 1) = j := (IntWalk.i64_in ((j : Int) + 1 - 1) (by omega)).trans (by omega)
  have y2 : IntKind.i64.wrap (j : Int) = j := IntWalk.i64_in _ (by omega)
  have b0 : (0 : Int) ≤ (j : Int) := by omega
  have b1 : (j : Int) < 4 := by omega
  have y3 : IntKind.i64.wrap (placeM fb fa r + 1) = placeM fb fa r + 1 := IntWalk.i64_in _ (by unfold placeM; split <;> omega)
  clear f0 f1 f2 f3
  go_enter Tryz.func88, Tryz.ntmps88
  go_wp2
  go_region
  all_goals go_wp2
  have e4 := Chg.cell (Chg.drew (Chg.refl Nowhere _)) e4 id
  have g1 := Chg.cell (Chg.drew (Chg.refl Nowhere _)) g1 id
  have g2 := Chg.cell (Chg.drew (Chg.refl Nowhere _)) g2 id
  have g3 := Chg.cell (Chg.drew (Chg.refl Nowhere _)) g3 id
  have k0 := Chg.cell (Chg.drew (Chg.refl Nowhere _)) k0 id
  have k1 := Chg.cell (Chg.drew (Chg.refl Nowhere _)) k1 id
  have q1 := up_cell g1
  have q2 := up_cell g2
  have q3 := up_cell g3
  have q4 := up_cell e4
  have q5 := up_cell k0
  have q6 := up_cell k1
  refine wp_region_up (by kernel_rfl) (by kernel_rfl) ?_
  repeat (go_big_quiet_step (first | (go_at_call 85; exact calls_up (place_any _ fb fa r (by omega) (by omega)))))
  refine wpQuiet_nil ?_
  rintro _ ⟨u, rfl⟩
  have v1 := q1 u
  have v5 := q5 u
  have v6 := q6 u
  clear q1 q2 q3 q4 q5 q6 e0 e1 e2 e3 e4 g1 g2 g3 k0 k1
  rcases hd with rfl | rfl
  all_goals cases st
  all_goals go_wp2
  all_goals go_ret
  all_goals exact ⟨by first | rfl | simp [*], Chg.trans hG2.out (Chg.trans (Chg.drew (Chg.refl Nowhere _)) u.up)⟩
theorem carrierFits_any (w : World) {S : Nat → Prop} {K p : Nat} {m : MachM} {F B C L D : Value} {fs bs : List Value} (h : MachX w S K p m F B C L D fs bs) (hi : MInv m) (x : OpM) (hx : okOp m.wd x) :
    Calls Tryz.prog 88 #[.pointer (some ⟨p, 0, none⟩), x.val] w fun e w' => e = .returned (.bool (fitsM m x)) ∧ Up w w' := by
  obtain ⟨hv, h1, h2⟩ := hx
  have hr := hi.rack
  have hc := valid_cases hv
  obtain ⟨k, d, fb, fa, tb, ta, car, rk⟩ := x
  dsimp only at hc h1 h2
  have hp := h.c0.lt
  by_cases k4 : k = 4
  · subst k4; exact carrierFits_4 w p d fb fa tb ta car rk hp
  by_cases k6 : k = 6
  · subst k6; exact carrierFits_6 w p d fb fa tb ta car rk hp
  by_cases k7 : k = 7
  · subst k7; exact carrierFits_7 w p d fb fa tb ta car rk hp
  obtain ⟨g, j, c, hH, -⟩ := h.car hi (car := car) (by omega)
  by_cases k8 : k = 8
  · subst k8; exact carrierFits_8 w p d fb fa tb ta car rk _ _ g j c hH
  by_cases k9 : k = 9
  · subst k9; exact carrierFits_9 w p d fb fa tb ta car rk _ _ g j c hH
  refine (carrierFits_m w p k d fb fa tb ta car rk _ m.rack _ g j c hH h.c1 (by simpa using k4) (by simpa using k6) (by simpa using k7) (by simpa using k8) (by simpa using k9) (by omega) (by omega) hr).mono ?_
  rintro e w' ⟨rfl, hu⟩
  refine ⟨?_, hu⟩
  simp only [fitsM, k4, k6, k7, k8, k9, or_self, if_false]
end Go.Proofs.YtiiodfcbpmkodaaGreat
