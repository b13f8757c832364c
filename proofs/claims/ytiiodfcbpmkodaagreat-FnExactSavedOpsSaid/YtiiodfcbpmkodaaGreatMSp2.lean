/- The reference's machine: carriers, loops. No condition. -/
import Derived.Test.YtiiodfcbpmkodaaGreatMSp1
import Derived.Test.YtiiodfcbpmkodaaGreatMFn8
set_option linter.unusedSimpArgs false
set_option linter.unusedVariables false
set_option maxRecDepth 100000
set_option maxHeartbeats 8000000
namespace Go.Proofs.YtiiodfcbpmkodaaGreat
open Go.ChangeShapes Go.WideShapes Go.ChangeAt Go.RowKit
attribute [local go_sem ↓] Go.wp_at_zero Go.wp_at_succ
theorem setCar_pair (m : MachM) (hi : MInv m) (j : Nat) (hj : j < 4) (z : Bool × Int) (y : Int) : setCar (setCar m ((j : Int) + 1) z) ((j : Int) + 1) ((carAt (setCar m ((j : Int) + 1) z) ((j : Int) + 1)).1, y) = setCar m ((j : Int) + 1) (z.1, y) := by
  obtain ⟨b, x⟩ := z
  exact setCar_twice m hi j hj b x y
theorem l07Place_x (w : World) (b a r x : Int) (ha : -1000 ≤ a ∧ a ≤ 1000) (hr : -1000 ≤ r ∧ r ≤ 1000) (hx : placeM b a r = x) :
    Calls Tryz.prog 44 #[.agg #[.int .i64 b, .int .i64 a], .int .i64 r] w fun e w' => e = .returned (.int .i64 x) ∧ Up w w' := hx ▸ l07Place_any w b a r ha hr
theorem carry_yesR (w : World) {S : Nat → Prop} {K p : Nat} {m : MachM} {F B C L D : Value} {fs bs : List Value} (h : MachX w S K p m F B C L D fs bs) (hi : MInv m) (bo oi : Nat) (k fb fa tb ta rk : Int) (j : Nat) (hj : j < 4) (hO : OpC w bo oi ⟨k, 1, fb, fa, tb, ta, ((j : Int) + 1), rk⟩) (hb : ¬ S bo) (hfa : 0 ≤ fa ∧ fa ≤ 23) (hin : (carAt m ((j : Int) + 1)).1 = true) (hle : (carAt m ((j : Int) + 1)).2 ≤ placeM fb fa m.rack) :
    Calls Tryz.prog 48 #[.pointer (some ⟨p, 0, none⟩), .pointer (some ⟨bo, oi, none⟩)] w fun e w' => e = .returned (.bool true) ∧ MachX w' S K p (setCar m ((j : Int) + 1) ((carAt m ((j : Int) + 1)).1, behindM m ⟨k, 1, fb, fa, tb, ta, ((j : Int) + 1), rk⟩)) F B C L D fs bs ∧ Chg S w w' := by
  obtain ⟨gC, jc, cC, hK, hCe⟩ := h.car hi (car := ((j : Int) + 1)) (by omega)
  obtain rfl : j = jc := by have := hK.ec; omega
  clear hj
  have hKj := hK.jl
  have hKc := hK.cc
  have hk4 := hK.hdr.1
  have hka := hK.a.1
  have hkb := hK.b
  have hp1 := h.c1.1
  have hrk := hi.rack
  have hcb := carAt_fits hi (c := ((j : Int) + 1)) (by omega)
  obtain ⟨x, Hx⟩ : ∃ x, Hid (placeM fb fa m.rack = x) := ⟨_, rfl⟩
  obtain ⟨pl, Hpl⟩ : ∃ pl, Hid ((carAt m ((j : Int) + 1)).2 = pl) := ⟨_, rfl⟩
  rw [Hpl.out] at hkb hcb
  rw [hin] at hka
  have hxb := placeM_bd (b := fb) (a := fa) (r := m.rack) hfa hrk
  rw [Hx.out] at hxb
  rw [Hx.out, Hpl.out] at hle
  have hoc0 := hO.c1
  have hoc2 := hO.c2
  have hoc3 := hO.c3
  have hoc6 := hO.c6
  have hoc3' : w.cell? ⟨bo, oi + 2 + 1, none⟩ = _ := hO.c3
  dsimp only at hoc0 hoc2 hoc3 hoc6 hoc3'
  have y1 : IntKind.i64.wrap ((j : Int) + 1 - 1) = j := (IntWalk.i64_in ((j : Int) + 1 - 1) (by omega)).trans (by omega)
  have y2 : IntKind.i64.wrap (j : Int) = j := IntWalk.i64_in _ (by omega)
  have b0 : (0 : Int) ≤ (j : Int) := by omega
  have b1 : (j : Int) < 4 := by omega
  have q0 := up_cell hk4
  have q1 := up_cell hoc6
  have Hi := Lib.hid hi
  have HX := Lib.hid h
  have HO := Lib.hid hO
  clear hi h hO hK
  go_enter Tryz.func48, Tryz.ntmps48
  go_wp2
  refine wp_region_up (by kernel_rfl) (by kernel_rfl) ?_
  repeat (go_big_quiet_step (fail))
  refine wpQuiet_nil ?_
  rintro w1 ⟨u, hu⟩
  have g1 := Lib.hid (hu ▸ u.up : Up w w1)
  clear hu u q0 q1
  have hoc2 := Chg.cell g1.out hoc2 id
  have hoc3 := Chg.cell g1.out hoc3 id
  have hoc3' := Chg.cell g1.out hoc3' id
  have hh := cc3 g1.out hp1 hka hoc0
  obtain ⟨hp1, hka, hoc0⟩ := hh
  have q2 := up_cell hoc2
  have q3 := up_cell hoc3
  have q3' := up_cell hoc3'
  have q4 := up_cell hp1
  go_wp2
  refine wp_region_up (by kernel_rfl) (by kernel_rfl) ?_
  repeat (go_big_quiet_step (exact calls_up (l07Place_x _ _ _ _ _ (by omega) (by omega) Hx.out)))
  refine wpQuiet_nil ?_
  rintro w2 ⟨u, hu⟩
  have g2 := Lib.hid (Chg.trans g1.out (hu ▸ u.up) : Up w w2)
  have g3 := Lib.hid (hu ▸ u.up : Up w1 w2)
  clear hu u q2 q3 q3' q4
  have hka := Chg.cell g3.out hka id
  have hod := Chg.cell g3.out hoc0 id
  have hkb := hkb.up g2.out
  have hk1 := hkb.1
  have hk2 := hkb.2
  have X1 := Lib.hid ((HX.out.up g2.out).ride Hi.out (car := ((j : Int) + 1)) rfl hKj hCe x)
  have G1 := Lib.hid ((HX.out.up g2.out).ride_chg hCe (j * 2 + 1) (.int .i64 x))
  have hi1 := Hi.out.setCar_ ((j : Int) + 1) (x := ((carAt m ((j : Int) + 1)).1, x)) ⟨by omega, by omega, fun hh => by rw [hin] at hh; cases hh⟩
  have X2 := Lib.hid (X1.out.ride hi1 (car := ((j : Int) + 1)) rfl hKj hCe (x + 1))
  have G2 := Lib.hid (X1.out.ride_chg hCe (j * 2 + 1) (.int .i64 (x + 1)))
  clear hi1
  have hgb : gC ≠ bo := fun e => hb (e ▸ HX.out.own C (by simp) gC (by rw [hCe]; rfl))
  have hod2 : (w2.setCell ⟨gC, j * 2 + 1, none⟩ (.int .i64 x)).cell? ⟨bo, oi + 1, none⟩ = _ := keepS hod hgb
  have hk3 : (w2.setCell ⟨gC, j * 2 + 1, none⟩ (.int .i64 x)).cell? ⟨gC, j * 2 + 1, none⟩ = some (.int .i64 x) := World.cell?_setCell_same _ _ _ hk1
  have hk5 : (w2.setCell ⟨gC, j * 2 + 1, none⟩ (.int .i64 x)).frozen? ⟨gC, j * 2 + 1, none⟩ = false := by simpa using hk2
  go_wp2
  go_ret
  have hbe : behindM m ⟨k, 1, fb, fa, tb, ta, ((j : Int) + 1), rk⟩ = x + 1 := by show placeM fb fa m.rack + 1 = _; rw [Hx.out]
  rw [hbe]
  have := X2.out
  rw [setCar_pair m Hi.out j hKj] at this
  exact ⟨rfl, this, Chg.trans (Chg.of_up g2.out) (Chg.trans G1.out G2.out)⟩
theorem carry_outR (w : World) {S : Nat → Prop} {K p : Nat} {m : MachM} {F B C L D : Value} {fs bs : List Value} (h : MachX w S K p m F B C L D fs bs) (hi : MInv m) (bo oi : Nat) (k fb fa tb ta rk : Int) (j : Nat) (hj : j < 4) (hO : OpC w bo oi ⟨k, 1, fb, fa, tb, ta, ((j : Int) + 1), rk⟩) (hb : ¬ S bo) (hfa : 0 ≤ fa ∧ fa ≤ 23) (hin : (carAt m ((j : Int) + 1)).1 = false) :
    Calls Tryz.prog 48 #[.pointer (some ⟨p, 0, none⟩), .pointer (some ⟨bo, oi, none⟩)] w fun e w' => e = .returned (.bool false) ∧ Up w w' := by
  obtain ⟨gC, jc, cC, hK, hCe⟩ := h.car hi (car := ((j : Int) + 1)) (by omega)
  obtain rfl : j = jc := by have := hK.ec; omega
  clear hj
  have hKj := hK.jl
  have hKc := hK.cc
  have hk4 := hK.hdr.1
  have hka := hK.a.1
  have hkb := hK.b
  have hp1 := h.c1.1
  have hrk := hi.rack
  have hcb := carAt_fits hi (c := ((j : Int) + 1)) (by omega)
  obtain ⟨x, Hx⟩ : ∃ x, Hid (placeM fb fa m.rack = x) := ⟨_, rfl⟩
  obtain ⟨pl, Hpl⟩ : ∃ pl, Hid ((carAt m ((j : Int) + 1)).2 = pl) := ⟨_, rfl⟩
  rw [Hpl.out] at hkb hcb
  rw [hin] at hka
  have hxb := placeM_bd (b := fb) (a := fa) (r := m.rack) hfa hrk
  rw [Hx.out] at hxb
  have hoc0 := hO.c1
  have hoc2 := hO.c2
  have hoc3 := hO.c3
  have hoc6 := hO.c6
  have hoc3' : w.cell? ⟨bo, oi + 2 + 1, none⟩ = _ := hO.c3
  dsimp only at hoc0 hoc2 hoc3 hoc6 hoc3'
  have y1 : IntKind.i64.wrap ((j : Int) + 1 - 1) = j := (IntWalk.i64_in ((j : Int) + 1 - 1) (by omega)).trans (by omega)
  have y2 : IntKind.i64.wrap (j : Int) = j := IntWalk.i64_in _ (by omega)
  have b0 : (0 : Int) ≤ (j : Int) := by omega
  have b1 : (j : Int) < 4 := by omega
  have q0 := up_cell hk4
  have q1 := up_cell hoc6
  have Hi := Lib.hid hi
  have HX := Lib.hid h
  have HO := Lib.hid hO
  clear hi h hO hK
  go_enter Tryz.func48, Tryz.ntmps48
  go_wp2
  refine wp_region_up (by kernel_rfl) (by kernel_rfl) ?_
  repeat (go_big_quiet_step (fail))
  refine wpQuiet_nil ?_
  rintro w1 ⟨u, hu⟩
  have g1 := Lib.hid (hu ▸ u.up : Up w w1)
  clear hu u q0 q1
  have hoc2 := Chg.cell g1.out hoc2 id
  have hoc3 := Chg.cell g1.out hoc3 id
  have hoc3' := Chg.cell g1.out hoc3' id
  have hh := cc3 g1.out hp1 hka hoc0
  obtain ⟨hp1, hka, hoc0⟩ := hh
  have q2 := up_cell hoc2
  have q3 := up_cell hoc3
  have q3' := up_cell hoc3'
  have q4 := up_cell hp1
  go_wp2
  refine wp_region_up (by kernel_rfl) (by kernel_rfl) ?_
  repeat (go_big_quiet_step (exact calls_up (l07Place_x _ _ _ _ _ (by omega) (by omega) Hx.out)))
  refine wpQuiet_nil ?_
  rintro w2 ⟨u, hu⟩
  have g2 := Lib.hid (Chg.trans g1.out (hu ▸ u.up) : Up w w2)
  have g3 := Lib.hid (hu ▸ u.up : Up w1 w2)
  clear hu u q2 q3 q3' q4
  have hka := Chg.cell g3.out hka id
  have hod := Chg.cell g3.out hoc0 id
  have hkb := hkb.up g2.out
  have hk1 := hkb.1
  have hk2 := hkb.2
  go_wp2
  go_ret
  exact ⟨rfl, g2.out⟩
theorem carry_farR (w : World) {S : Nat → Prop} {K p : Nat} {m : MachM} {F B C L D : Value} {fs bs : List Value} (h : MachX w S K p m F B C L D fs bs) (hi : MInv m) (bo oi : Nat) (k fb fa tb ta rk : Int) (j : Nat) (hj : j < 4) (hO : OpC w bo oi ⟨k, 1, fb, fa, tb, ta, ((j : Int) + 1), rk⟩) (hb : ¬ S bo) (hfa : 0 ≤ fa ∧ fa ≤ 23) (hin : (carAt m ((j : Int) + 1)).1 = true) (hle : placeM fb fa m.rack < (carAt m ((j : Int) + 1)).2) :
    Calls Tryz.prog 48 #[.pointer (some ⟨p, 0, none⟩), .pointer (some ⟨bo, oi, none⟩)] w fun e w' => e = .returned (.bool false) ∧ Up w w' := by
  obtain ⟨gC, jc, cC, hK, hCe⟩ := h.car hi (car := ((j : Int) + 1)) (by omega)
  obtain rfl : j = jc := by have := hK.ec; omega
  clear hj
  have hKj := hK.jl
  have hKc := hK.cc
  have hk4 := hK.hdr.1
  have hka := hK.a.1
  have hkb := hK.b
  have hp1 := h.c1.1
  have hrk := hi.rack
  have hcb := carAt_fits hi (c := ((j : Int) + 1)) (by omega)
  obtain ⟨x, Hx⟩ : ∃ x, Hid (placeM fb fa m.rack = x) := ⟨_, rfl⟩
  obtain ⟨pl, Hpl⟩ : ∃ pl, Hid ((carAt m ((j : Int) + 1)).2 = pl) := ⟨_, rfl⟩
  rw [Hpl.out] at hkb hcb
  rw [hin] at hka
  have hxb := placeM_bd (b := fb) (a := fa) (r := m.rack) hfa hrk
  rw [Hx.out] at hxb
  rw [Hx.out, Hpl.out] at hle
  have hoc0 := hO.c1
  have hoc2 := hO.c2
  have hoc3 := hO.c3
  have hoc6 := hO.c6
  have hoc3' : w.cell? ⟨bo, oi + 2 + 1, none⟩ = _ := hO.c3
  dsimp only at hoc0 hoc2 hoc3 hoc6 hoc3'
  have y1 : IntKind.i64.wrap ((j : Int) + 1 - 1) = j := (IntWalk.i64_in ((j : Int) + 1 - 1) (by omega)).trans (by omega)
  have y2 : IntKind.i64.wrap (j : Int) = j := IntWalk.i64_in _ (by omega)
  have b0 : (0 : Int) ≤ (j : Int) := by omega
  have b1 : (j : Int) < 4 := by omega
  have q0 := up_cell hk4
  have q1 := up_cell hoc6
  have Hi := Lib.hid hi
  have HX := Lib.hid h
  have HO := Lib.hid hO
  clear hi h hO hK
  go_enter Tryz.func48, Tryz.ntmps48
  go_wp2
  refine wp_region_up (by kernel_rfl) (by kernel_rfl) ?_
  repeat (go_big_quiet_step (fail))
  refine wpQuiet_nil ?_
  rintro w1 ⟨u, hu⟩
  have g1 := Lib.hid (hu ▸ u.up : Up w w1)
  clear hu u q0 q1
  have hoc2 := Chg.cell g1.out hoc2 id
  have hoc3 := Chg.cell g1.out hoc3 id
  have hoc3' := Chg.cell g1.out hoc3' id
  have hh := cc3 g1.out hp1 hka hoc0
  obtain ⟨hp1, hka, hoc0⟩ := hh
  have q2 := up_cell hoc2
  have q3 := up_cell hoc3
  have q3' := up_cell hoc3'
  have q4 := up_cell hp1
  go_wp2
  refine wp_region_up (by kernel_rfl) (by kernel_rfl) ?_
  repeat (go_big_quiet_step (exact calls_up (l07Place_x _ _ _ _ _ (by omega) (by omega) Hx.out)))
  refine wpQuiet_nil ?_
  rintro w2 ⟨u, hu⟩
  have g2 := Lib.hid (Chg.trans g1.out (hu ▸ u.up) : Up w w2)
  have g3 := Lib.hid (hu ▸ u.up : Up w1 w2)
  clear hu u q2 q3 q3' q4
  have hka := Chg.cell g3.out hka id
  have hod := Chg.cell g3.out hoc0 id
  have hkb := hkb.up g2.out
  have hk1 := hkb.1
  have hk2 := hkb.2
  go_wp2
  go_ret
  exact ⟨rfl, g2.out⟩
theorem carry_yesL (w : World) {S : Nat → Prop} {K p : Nat} {m : MachM} {F B C L D : Value} {fs bs : List Value} (h : MachX w S K p m F B C L D fs bs) (hi : MInv m) (bo oi : Nat) (k fb fa tb ta rk : Int) (j : Nat) (hj : j < 4) (hO : OpC w bo oi ⟨k, (-1), fb, fa, tb, ta, ((j : Int) + 1), rk⟩) (hb : ¬ S bo) (hfa : 0 ≤ fa ∧ fa ≤ 23) (hin : (carAt m ((j : Int) + 1)).1 = true) (hle : placeM fb fa m.rack + 1 ≤ (carAt m ((j : Int) + 1)).2) :
    Calls Tryz.prog 48 #[.pointer (some ⟨p, 0, none⟩), .pointer (some ⟨bo, oi, none⟩)] w fun e w' => e = .returned (.bool true) ∧ MachX w' S K p (setCar m ((j : Int) + 1) ((carAt m ((j : Int) + 1)).1, behindM m ⟨k, (-1), fb, fa, tb, ta, ((j : Int) + 1), rk⟩)) F B C L D fs bs ∧ Chg S w w' := by
  obtain ⟨gC, jc, cC, hK, hCe⟩ := h.car hi (car := ((j : Int) + 1)) (by omega)
  obtain rfl : j = jc := by have := hK.ec; omega
  clear hj
  have hKj := hK.jl
  have hKc := hK.cc
  have hk4 := hK.hdr.1
  have hka := hK.a.1
  have hkb := hK.b
  have hp1 := h.c1.1
  have hrk := hi.rack
  have hcb := carAt_fits hi (c := ((j : Int) + 1)) (by omega)
  obtain ⟨x, Hx⟩ : ∃ x, Hid (placeM fb fa m.rack = x) := ⟨_, rfl⟩
  obtain ⟨pl, Hpl⟩ : ∃ pl, Hid ((carAt m ((j : Int) + 1)).2 = pl) := ⟨_, rfl⟩
  rw [Hpl.out] at hkb hcb
  rw [hin] at hka
  have hxb := placeM_bd (b := fb) (a := fa) (r := m.rack) hfa hrk
  rw [Hx.out] at hxb
  rw [Hx.out, Hpl.out] at hle
  have hoc0 := hO.c1
  have hoc2 := hO.c2
  have hoc3 := hO.c3
  have hoc6 := hO.c6
  have hoc3' : w.cell? ⟨bo, oi + 2 + 1, none⟩ = _ := hO.c3
  dsimp only at hoc0 hoc2 hoc3 hoc6 hoc3'
  have y1 : IntKind.i64.wrap ((j : Int) + 1 - 1) = j := (IntWalk.i64_in ((j : Int) + 1 - 1) (by omega)).trans (by omega)
  have y2 : IntKind.i64.wrap (j : Int) = j := IntWalk.i64_in _ (by omega)
  have b0 : (0 : Int) ≤ (j : Int) := by omega
  have b1 : (j : Int) < 4 := by omega
  have q0 := up_cell hk4
  have q1 := up_cell hoc6
  have Hi := Lib.hid hi
  have HX := Lib.hid h
  have HO := Lib.hid hO
  clear hi h hO hK
  go_enter Tryz.func48, Tryz.ntmps48
  go_wp2
  refine wp_region_up (by kernel_rfl) (by kernel_rfl) ?_
  repeat (go_big_quiet_step (fail))
  refine wpQuiet_nil ?_
  rintro w1 ⟨u, hu⟩
  have g1 := Lib.hid (hu ▸ u.up : Up w w1)
  clear hu u q0 q1
  have hoc2 := Chg.cell g1.out hoc2 id
  have hoc3 := Chg.cell g1.out hoc3 id
  have hoc3' := Chg.cell g1.out hoc3' id
  have hh := cc3 g1.out hp1 hka hoc0
  obtain ⟨hp1, hka, hoc0⟩ := hh
  have q2 := up_cell hoc2
  have q3 := up_cell hoc3
  have q3' := up_cell hoc3'
  have q4 := up_cell hp1
  go_wp2
  refine wp_region_up (by kernel_rfl) (by kernel_rfl) ?_
  repeat (go_big_quiet_step (exact calls_up (l07Place_x _ _ _ _ _ (by omega) (by omega) Hx.out)))
  refine wpQuiet_nil ?_
  rintro w2 ⟨u, hu⟩
  have g2 := Lib.hid (Chg.trans g1.out (hu ▸ u.up) : Up w w2)
  have g3 := Lib.hid (hu ▸ u.up : Up w1 w2)
  clear hu u q2 q3 q3' q4
  have hka := Chg.cell g3.out hka id
  have hod := Chg.cell g3.out hoc0 id
  have hkb := hkb.up g2.out
  have hk1 := hkb.1
  have hk2 := hkb.2
  have X1 := Lib.hid ((HX.out.up g2.out).ride Hi.out (car := ((j : Int) + 1)) rfl hKj hCe x)
  have G1 := Lib.hid ((HX.out.up g2.out).ride_chg hCe (j * 2 + 1) (.int .i64 x))
  have hgb : gC ≠ bo := fun e => hb (e ▸ HX.out.own C (by simp) gC (by rw [hCe]; rfl))
  have hod2 : (w2.setCell ⟨gC, j * 2 + 1, none⟩ (.int .i64 x)).cell? ⟨bo, oi + 1, none⟩ = _ := keepS hod hgb
  go_wp2
  go_ret
  have hbe : behindM m ⟨k, (-1), fb, fa, tb, ta, ((j : Int) + 1), rk⟩ = x := by show placeM fb fa m.rack + 0 = _; rw [Hx.out]; exact Int.add_zero _
  rw [hbe]
  exact ⟨rfl, X1.out, Chg.trans (Chg.of_up g2.out) G1.out⟩
theorem carry_outL (w : World) {S : Nat → Prop} {K p : Nat} {m : MachM} {F B C L D : Value} {fs bs : List Value} (h : MachX w S K p m F B C L D fs bs) (hi : MInv m) (bo oi : Nat) (k fb fa tb ta rk : Int) (j : Nat) (hj : j < 4) (hO : OpC w bo oi ⟨k, (-1), fb, fa, tb, ta, ((j : Int) + 1), rk⟩) (hb : ¬ S bo) (hfa : 0 ≤ fa ∧ fa ≤ 23) (hin : (carAt m ((j : Int) + 1)).1 = false) :
    Calls Tryz.prog 48 #[.pointer (some ⟨p, 0, none⟩), .pointer (some ⟨bo, oi, none⟩)] w fun e w' => e = .returned (.bool false) ∧ Up w w' := by
  obtain ⟨gC, jc, cC, hK, hCe⟩ := h.car hi (car := ((j : Int) + 1)) (by omega)
  obtain rfl : j = jc := by have := hK.ec; omega
  clear hj
  have hKj := hK.jl
  have hKc := hK.cc
  have hk4 := hK.hdr.1
  have hka := hK.a.1
  have hkb := hK.b
  have hp1 := h.c1.1
  have hrk := hi.rack
  have hcb := carAt_fits hi (c := ((j : Int) + 1)) (by omega)
  obtain ⟨x, Hx⟩ : ∃ x, Hid (placeM fb fa m.rack = x) := ⟨_, rfl⟩
  obtain ⟨pl, Hpl⟩ : ∃ pl, Hid ((carAt m ((j : Int) + 1)).2 = pl) := ⟨_, rfl⟩
  rw [Hpl.out] at hkb hcb
  rw [hin] at hka
  have hxb := placeM_bd (b := fb) (a := fa) (r := m.rack) hfa hrk
  rw [Hx.out] at hxb
  have hoc0 := hO.c1
  have hoc2 := hO.c2
  have hoc3 := hO.c3
  have hoc6 := hO.c6
  have hoc3' : w.cell? ⟨bo, oi + 2 + 1, none⟩ = _ := hO.c3
  dsimp only at hoc0 hoc2 hoc3 hoc6 hoc3'
  have y1 : IntKind.i64.wrap ((j : Int) + 1 - 1) = j := (IntWalk.i64_in ((j : Int) + 1 - 1) (by omega)).trans (by omega)
  have y2 : IntKind.i64.wrap (j : Int) = j := IntWalk.i64_in _ (by omega)
  have b0 : (0 : Int) ≤ (j : Int) := by omega
  have b1 : (j : Int) < 4 := by omega
  have q0 := up_cell hk4
  have q1 := up_cell hoc6
  have Hi := Lib.hid hi
  have HX := Lib.hid h
  have HO := Lib.hid hO
  clear hi h hO hK
  go_enter Tryz.func48, Tryz.ntmps48
  go_wp2
  refine wp_region_up (by kernel_rfl) (by kernel_rfl) ?_
  repeat (go_big_quiet_step (fail))
  refine wpQuiet_nil ?_
  rintro w1 ⟨u, hu⟩
  have g1 := Lib.hid (hu ▸ u.up : Up w w1)
  clear hu u q0 q1
  have hoc2 := Chg.cell g1.out hoc2 id
  have hoc3 := Chg.cell g1.out hoc3 id
  have hoc3' := Chg.cell g1.out hoc3' id
  have hh := cc3 g1.out hp1 hka hoc0
  obtain ⟨hp1, hka, hoc0⟩ := hh
  have q2 := up_cell hoc2
  have q3 := up_cell hoc3
  have q3' := up_cell hoc3'
  have q4 := up_cell hp1
  go_wp2
  refine wp_region_up (by kernel_rfl) (by kernel_rfl) ?_
  repeat (go_big_quiet_step (exact calls_up (l07Place_x _ _ _ _ _ (by omega) (by omega) Hx.out)))
  refine wpQuiet_nil ?_
  rintro w2 ⟨u, hu⟩
  have g2 := Lib.hid (Chg.trans g1.out (hu ▸ u.up) : Up w w2)
  have g3 := Lib.hid (hu ▸ u.up : Up w1 w2)
  clear hu u q2 q3 q3' q4
  have hka := Chg.cell g3.out hka id
  have hod := Chg.cell g3.out hoc0 id
  have hkb := hkb.up g2.out
  have hk1 := hkb.1
  have hk2 := hkb.2
  go_wp2
  go_ret
  exact ⟨rfl, g2.out⟩
theorem carry_farL (w : World) {S : Nat → Prop} {K p : Nat} {m : MachM} {F B C L D : Value} {fs bs : List Value} (h : MachX w S K p m F B C L D fs bs) (hi : MInv m) (bo oi : Nat) (k fb fa tb ta rk : Int) (j : Nat) (hj : j < 4) (hO : OpC w bo oi ⟨k, (-1), fb, fa, tb, ta, ((j : Int) + 1), rk⟩) (hb : ¬ S bo) (hfa : 0 ≤ fa ∧ fa ≤ 23) (hin : (carAt m ((j : Int) + 1)).1 = true) (hle : (carAt m ((j : Int) + 1)).2 < placeM fb fa m.rack + 1) :
    Calls Tryz.prog 48 #[.pointer (some ⟨p, 0, none⟩), .pointer (some ⟨bo, oi, none⟩)] w fun e w' => e = .returned (.bool false) ∧ Up w w' := by
  obtain ⟨gC, jc, cC, hK, hCe⟩ := h.car hi (car := ((j : Int) + 1)) (by omega)
  obtain rfl : j = jc := by have := hK.ec; omega
  clear hj
  have hKj := hK.jl
  have hKc := hK.cc
  have hk4 := hK.hdr.1
  have hka := hK.a.1
  have hkb := hK.b
  have hp1 := h.c1.1
  have hrk := hi.rack
  have hcb := carAt_fits hi (c := ((j : Int) + 1)) (by omega)
  obtain ⟨x, Hx⟩ : ∃ x, Hid (placeM fb fa m.rack = x) := ⟨_, rfl⟩
  obtain ⟨pl, Hpl⟩ : ∃ pl, Hid ((carAt m ((j : Int) + 1)).2 = pl) := ⟨_, rfl⟩
  rw [Hpl.out] at hkb hcb
  rw [hin] at hka
  have hxb := placeM_bd (b := fb) (a := fa) (r := m.rack) hfa hrk
  rw [Hx.out] at hxb
  rw [Hx.out, Hpl.out] at hle
  have hoc0 := hO.c1
  have hoc2 := hO.c2
  have hoc3 := hO.c3
  have hoc6 := hO.c6
  have hoc3' : w.cell? ⟨bo, oi + 2 + 1, none⟩ = _ := hO.c3
  dsimp only at hoc0 hoc2 hoc3 hoc6 hoc3'
  have y1 : IntKind.i64.wrap ((j : Int) + 1 - 1) = j := (IntWalk.i64_in ((j : Int) + 1 - 1) (by omega)).trans (by omega)
  have y2 : IntKind.i64.wrap (j : Int) = j := IntWalk.i64_in _ (by omega)
  have b0 : (0 : Int) ≤ (j : Int) := by omega
  have b1 : (j : Int) < 4 := by omega
  have q0 := up_cell hk4
  have q1 := up_cell hoc6
  have Hi := Lib.hid hi
  have HX := Lib.hid h
  have HO := Lib.hid hO
  clear hi h hO hK
  go_enter Tryz.func48, Tryz.ntmps48
  go_wp2
  refine wp_region_up (by kernel_rfl) (by kernel_rfl) ?_
  repeat (go_big_quiet_step (fail))
  refine wpQuiet_nil ?_
  rintro w1 ⟨u, hu⟩
  have g1 := Lib.hid (hu ▸ u.up : Up w w1)
  clear hu u q0 q1
  have hoc2 := Chg.cell g1.out hoc2 id
  have hoc3 := Chg.cell g1.out hoc3 id
  have hoc3' := Chg.cell g1.out hoc3' id
  have hh := cc3 g1.out hp1 hka hoc0
  obtain ⟨hp1, hka, hoc0⟩ := hh
  have q2 := up_cell hoc2
  have q3 := up_cell hoc3
  have q3' := up_cell hoc3'
  have q4 := up_cell hp1
  go_wp2
  refine wp_region_up (by kernel_rfl) (by kernel_rfl) ?_
  repeat (go_big_quiet_step (exact calls_up (l07Place_x _ _ _ _ _ (by omega) (by omega) Hx.out)))
  refine wpQuiet_nil ?_
  rintro w2 ⟨u, hu⟩
  have g2 := Lib.hid (Chg.trans g1.out (hu ▸ u.up) : Up w w2)
  have g3 := Lib.hid (hu ▸ u.up : Up w1 w2)
  clear hu u q2 q3 q3' q4
  have hka := Chg.cell g3.out hka id
  have hod := Chg.cell g3.out hoc0 id
  have hkb := hkb.up g2.out
  have hk1 := hkb.1
  have hk2 := hkb.2
  go_wp2
  go_ret
  exact ⟨rfl, g2.out⟩
end Go.Proofs.YtiiodfcbpmkodaaGreat
