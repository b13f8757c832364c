/- The program's rule at an operation. No condition. -/
import Derived.Test.YtiiodfcbpmkodaaGreatMZ1
import Derived.Test.YtiiodfcbpmkodaaGreatMRun
import Derived.Test.YtiiodfcbpmkodaaGreatValid3
import Derived.Test.YtiiodfcbpmkodaaGreatMNew2
set_option linter.unusedSimpArgs false
set_option linter.unusedVariables false
set_option maxRecDepth 100000
set_option maxHeartbeats 8000000
namespace Go.Proofs.YtiiodfcbpmkodaaGreat
open Go.ChangeShapes Go.WideShapes Go.ChangeAt Go.RowKit
attribute [local go_sem ↓] Go.wp_at_zero Go.wp_at_succ
/-- the kind of a pass -/
def passM (k : Int) : Int := if k = 1 ∨ k = 2 ∨ k = 3 ∨ k = 5 then 1 else if k = 4 then 2 else if k = 6 then 3 else 0
theorem pass_yarn (k : Int) : (passM k == 1) = yarnB k := by
  unfold passM yarnB
  by_cases h : k = 1 ∨ k = 2 ∨ k = 3 ∨ k = 5
  · rw [if_pos h, decide_eq_true h]; rfl
  · rw [if_neg h, decide_eq_false h]
    split
    · rfl
    split <;> rfl
theorem l09Kind_any (w : World) (k : Int) (b i : Nat) (h : w.cell? ⟨b, i, none⟩ = some (.int .i64 k)) : Calls Tryz.prog 64 #[.pointer (some ⟨b, i, none⟩)] w fun e w' => e = .returned (.int .i64 (passM k)) ∧ w = w' := by
  by_cases h1 : k = 1
  · subst h1
    go_enter Tryz.func64, Tryz.ntmps64
    go_wp2
    go_ret
    exact ⟨rfl, rfl⟩
  by_cases h2 : k = 2
  · subst h2
    go_enter Tryz.func64, Tryz.ntmps64
    go_wp2
    go_ret
    exact ⟨rfl, rfl⟩
  by_cases h3 : k = 3
  · subst h3
    go_enter Tryz.func64, Tryz.ntmps64
    go_wp2
    go_ret
    exact ⟨rfl, rfl⟩
  by_cases h5 : k = 5
  · subst h5
    go_enter Tryz.func64, Tryz.ntmps64
    go_wp2
    go_ret
    exact ⟨rfl, rfl⟩
  by_cases h4 : k = 4
  · subst h4
    go_enter Tryz.func64, Tryz.ntmps64
    go_wp2
    go_ret
    exact ⟨rfl, rfl⟩
  by_cases h6 : k = 6
  · subst h6
    go_enter Tryz.func64, Tryz.ntmps64
    go_wp2
    go_ret
    exact ⟨rfl, rfl⟩
  have t1 : (k == 1) = false := by simpa using h1
  have t2 : (k == 2) = false := by simpa using h2
  have t3 : (k == 3) = false := by simpa using h3
  have t5 : (k == 5) = false := by simpa using h5
  have t4 : (k == 4) = false := by simpa using h4
  have t6 : (k == 6) = false := by simpa using h6
  have hp : passM k = 0 := by unfold passM; rw [if_neg (by omega), if_neg h4, if_neg h6]
  rw [hp]
  clear hp h1 h2 h3 h5 h4 h6
  go_enter Tryz.func64, Tryz.ntmps64
  go_wp2
  go_ret
  exact ⟨rfl, rfl⟩
theorem l25Yarn_any (w : World) (k : Int) (b i : Nat) (h : w.cell? ⟨b, i, none⟩ = some (.int .i64 k)) : Calls Tryz.prog 45 #[.pointer (some ⟨b, i, none⟩)] w fun e w' => e = .returned (.bool (yarnB k)) ∧ w = w' := by
  have HY := Lib.hid (pass_yarn k)
  go_enter Tryz.func45, Tryz.ntmps45
  go_wp2_with fail
  refine (l09Kind_any _ k _ _ h).mono ?_
  rintro e w' ⟨rfl, rfl⟩
  go_wp2
  go_ret
  exact ⟨ret_bool HY.out, rfl⟩
theorem l25Yarn_v (w : World) (k : Int) (b i : Nat) (h : w.cell? ⟨b, i, none⟩ = some (.int .i64 k)) {v : Bool} (hv : yarnB k = v) : Calls Tryz.prog 45 #[.pointer (some ⟨b, i, none⟩)] w fun e w' => e = .returned (.bool v) ∧ w = w' := hv ▸ l25Yarn_any w k b i h
theorem rule_rack1 (w : World) {S : Nat → Prop} {K p : Nat} {m : MachM} {F B C L D : Value} {fs bs : List Value} (h : MachX w S K p m F B C L D fs bs) (hi : MInv m) (bo oi bn on : Nat) (d fb fa tb ta car rk nk nd nfb nfa ntb nta nc nr : Int) (hO : OpC w bo oi ⟨7, d, fb, fa, tb, ta, car, rk⟩) (hN : OpC w bn on ⟨nk, nd, nfb, nfa, ntb, nta, nc, nr⟩) (ht : rk = m.rack) :
    Calls Tryz.prog 30 #[.pointer (some ⟨p, 0, none⟩), .pointer (some ⟨bo, oi, none⟩), .pointer (some ⟨bn, on, none⟩)] w fun e w' => e = .returned (.int .i64 1) ∧ Up w w' := by
  have o0 := hO.c0
  have o7 := hO.c7
  have n0 := hN.c0
  dsimp only at o0 o7 n0
  have p1 := h.c1.1
  have hrk := hi.rack
  have HX := Lib.hid h
  have HI := Lib.hid hi
  clear h hi hO hN
  have t1 : (rk == m.rack) = true := by simpa using ht
  have G0 := Lib.hid (Chg.refl Nowhere w)
  go_enter Tryz.func30, Tryz.ntmps30
  go_wp2
  have qo0 := up_cell o0
  have qo7 := up_cell o7
  have qn0 := up_cell n0
  have qp1 := up_cell p1
  refine wp_region_up (by kernel_rfl) (by kernel_rfl) ?_
  repeat (go_big_quiet_step (fail))
  refine wpQuiet_nil ?_
  rintro w1 ⟨u, hu⟩
  have gu := (hu ▸ u.up : Up w w1)
  have hh := cc4 gu o0 o7 n0 p1
  obtain ⟨o0, o7, n0, p1⟩ := hh
  have G1 := Lib.hid (Chg.trans G0.out gu)
  clear hu u gu qo0 qo7 qn0 qp1
  go_wp2
  go_ret
  exact ⟨rfl, G1.out⟩
theorem rule_rack2 (w : World) {S : Nat → Prop} {K p : Nat} {m : MachM} {F B C L D : Value} {fs bs : List Value} (h : MachX w S K p m F B C L D fs bs) (hi : MInv m) (bo oi bn on : Nat) (d fb fa tb ta car rk nk nd nfb nfa ntb nta nc nr : Int) (hO : OpC w bo oi ⟨7, d, fb, fa, tb, ta, car, rk⟩) (hN : OpC w bn on ⟨nk, nd, nfb, nfa, ntb, nta, nc, nr⟩) (ht : rk ≠ m.rack) (hn : nk = 7) :
    Calls Tryz.prog 30 #[.pointer (some ⟨p, 0, none⟩), .pointer (some ⟨bo, oi, none⟩), .pointer (some ⟨bn, on, none⟩)] w fun e w' => e = .returned (.int .i64 2) ∧ Up w w' := by
  have o0 := hO.c0
  have o7 := hO.c7
  have n0 := hN.c0
  dsimp only at o0 o7 n0
  have p1 := h.c1.1
  have hrk := hi.rack
  have HX := Lib.hid h
  have HI := Lib.hid hi
  clear h hi hO hN
  have t1 : (rk == m.rack) = false := by simpa using ht
  subst hn
  have G0 := Lib.hid (Chg.refl Nowhere w)
  go_enter Tryz.func30, Tryz.ntmps30
  go_wp2
  have qo0 := up_cell o0
  have qo7 := up_cell o7
  have qn0 := up_cell n0
  have qp1 := up_cell p1
  refine wp_region_up (by kernel_rfl) (by kernel_rfl) ?_
  repeat (go_big_quiet_step (fail))
  refine wpQuiet_nil ?_
  rintro w1 ⟨u, hu⟩
  have gu := (hu ▸ u.up : Up w w1)
  have hh := cc4 gu o0 o7 n0 p1
  obtain ⟨o0, o7, n0, p1⟩ := hh
  have G1 := Lib.hid (Chg.trans G0.out gu)
  clear hu u gu qo0 qo7 qn0 qp1
  go_wp2
  go_ret
  exact ⟨rfl, G1.out⟩
theorem rule_rack0 (w : World) {S : Nat → Prop} {K p : Nat} {m : MachM} {F B C L D : Value} {fs bs : List Value} (h : MachX w S K p m F B C L D fs bs) (hi : MInv m) (bo oi bn on : Nat) (d fb fa tb ta car rk nk nd nfb nfa ntb nta nc nr : Int) (hO : OpC w bo oi ⟨7, d, fb, fa, tb, ta, car, rk⟩) (hN : OpC w bn on ⟨nk, nd, nfb, nfa, ntb, nta, nc, nr⟩) (ht : rk ≠ m.rack) (hn : nk ≠ 7) :
    Calls Tryz.prog 30 #[.pointer (some ⟨p, 0, none⟩), .pointer (some ⟨bo, oi, none⟩), .pointer (some ⟨bn, on, none⟩)] w fun e w' => e = .returned (.int .i64 0) ∧ Up w w' := by
  have o0 := hO.c0
  have o7 := hO.c7
  have n0 := hN.c0
  dsimp only at o0 o7 n0
  have p1 := h.c1.1
  have hrk := hi.rack
  have HX := Lib.hid h
  have HI := Lib.hid hi
  clear h hi hO hN
  have t1 : (rk == m.rack) = false := by simpa using ht
  have t2 : (nk == 7) = false := by simpa using hn
  have G0 := Lib.hid (Chg.refl Nowhere w)
  go_enter Tryz.func30, Tryz.ntmps30
  go_wp2
  have qo0 := up_cell o0
  have qo7 := up_cell o7
  have qn0 := up_cell n0
  have qp1 := up_cell p1
  refine wp_region_up (by kernel_rfl) (by kernel_rfl) ?_
  repeat (go_big_quiet_step (fail))
  refine wpQuiet_nil ?_
  rintro w1 ⟨u, hu⟩
  have gu := (hu ▸ u.up : Up w w1)
  have hh := cc4 gu o0 o7 n0 p1
  obtain ⟨o0, o7, n0, p1⟩ := hh
  have G1 := Lib.hid (Chg.trans G0.out gu)
  clear hu u gu qo0 qo7 qn0 qp1
  go_wp2
  go_ret
  exact ⟨rfl, G1.out⟩
theorem rule_none1 (w : World) {S : Nat → Prop} {K p : Nat} {m : MachM} {F B C L D : Value} {fs bs : List Value} (h : MachX w S K p m F B C L D fs bs) (hi : MInv m) (bo oi bn on : Nat) (d fb fa tb ta car rk nk nd nfb nfa ntb nta nc nr : Int) (hO : OpC w bo oi ⟨1, d, fb, fa, tb, ta, car, rk⟩) (hN : OpC w bn on ⟨nk, nd, nfb, nfa, ntb, nta, nc, nr⟩) :
    Calls Tryz.prog 30 #[.pointer (some ⟨p, 0, none⟩), .pointer (some ⟨bo, oi, none⟩), .pointer (some ⟨bn, on, none⟩)] w fun e w' => e = .returned (.int .i64 0) ∧ Up w w' := by
  have o0 := hO.c0
  dsimp only at o0
  have p1 := h.c1.1
  have hrk := hi.rack
  have HX := Lib.hid h
  have HI := Lib.hid hi
  clear h hi hO hN
  have G0 := Lib.hid (Chg.refl Nowhere w)
  go_enter Tryz.func30, Tryz.ntmps30
  go_wp2
  go_ret
  exact ⟨rfl, G0.out⟩
theorem rule_none2 (w : World) {S : Nat → Prop} {K p : Nat} {m : MachM} {F B C L D : Value} {fs bs : List Value} (h : MachX w S K p m F B C L D fs bs) (hi : MInv m) (bo oi bn on : Nat) (d fb fa tb ta car rk nk nd nfb nfa ntb nta nc nr : Int) (hO : OpC w bo oi ⟨2, d, fb, fa, tb, ta, car, rk⟩) (hN : OpC w bn on ⟨nk, nd, nfb, nfa, ntb, nta, nc, nr⟩) :
    Calls Tryz.prog 30 #[.pointer (some ⟨p, 0, none⟩), .pointer (some ⟨bo, oi, none⟩), .pointer (some ⟨bn, on, none⟩)] w fun e w' => e = .returned (.int .i64 0) ∧ Up w w' := by
  have o0 := hO.c0
  dsimp only at o0
  have p1 := h.c1.1
  have hrk := hi.rack
  have HX := Lib.hid h
  have HI := Lib.hid hi
  clear h hi hO hN
  have G0 := Lib.hid (Chg.refl Nowhere w)
  go_enter Tryz.func30, Tryz.ntmps30
  go_wp2
  go_ret
  exact ⟨rfl, G0.out⟩
theorem rule_none5 (w : World) {S : Nat → Prop} {K p : Nat} {m : MachM} {F B C L D : Value} {fs bs : List Value} (h : MachX w S K p m F B C L D fs bs) (hi : MInv m) (bo oi bn on : Nat) (d fb fa tb ta car rk nk nd nfb nfa ntb nta nc nr : Int) (hO : OpC w bo oi ⟨5, d, fb, fa, tb, ta, car, rk⟩) (hN : OpC w bn on ⟨nk, nd, nfb, nfa, ntb, nta, nc, nr⟩) :
    Calls Tryz.prog 30 #[.pointer (some ⟨p, 0, none⟩), .pointer (some ⟨bo, oi, none⟩), .pointer (some ⟨bn, on, none⟩)] w fun e w' => e = .returned (.int .i64 0) ∧ Up w w' := by
  have o0 := hO.c0
  dsimp only at o0
  have p1 := h.c1.1
  have hrk := hi.rack
  have HX := Lib.hid h
  have HI := Lib.hid hi
  clear h hi hO hN
  have G0 := Lib.hid (Chg.refl Nowhere w)
  go_enter Tryz.func30, Tryz.ntmps30
  go_wp2
  go_ret
  exact ⟨rfl, G0.out⟩
theorem rule_none6 (w : World) {S : Nat → Prop} {K p : Nat} {m : MachM} {F B C L D : Value} {fs bs : List Value} (h : MachX w S K p m F B C L D fs bs) (hi : MInv m) (bo oi bn on : Nat) (d fb fa tb ta car rk nk nd nfb nfa ntb nta nc nr : Int) (hO : OpC w bo oi ⟨6, d, fb, fa, tb, ta, car, rk⟩) (hN : OpC w bn on ⟨nk, nd, nfb, nfa, ntb, nta, nc, nr⟩) :
    Calls Tryz.prog 30 #[.pointer (some ⟨p, 0, none⟩), .pointer (some ⟨bo, oi, none⟩), .pointer (some ⟨bn, on, none⟩)] w fun e w' => e = .returned (.int .i64 0) ∧ Up w w' := by
  have o0 := hO.c0
  dsimp only at o0
  have p1 := h.c1.1
  have hrk := hi.rack
  have HX := Lib.hid h
  have HI := Lib.hid hi
  clear h hi hO hN
  have G0 := Lib.hid (Chg.refl Nowhere w)
  go_enter Tryz.func30, Tryz.ntmps30
  go_wp2
  go_ret
  exact ⟨rfl, G0.out⟩
theorem rule_none9 (w : World) {S : Nat → Prop} {K p : Nat} {m : MachM} {F B C L D : Value} {fs bs : List Value} (h : MachX w S K p m F B C L D fs bs) (hi : MInv m) (bo oi bn on : Nat) (d fb fa tb ta car rk nk nd nfb nfa ntb nta nc nr : Int) (hO : OpC w bo oi ⟨9, d, fb, fa, tb, ta, car, rk⟩) (hN : OpC w bn on ⟨nk, nd, nfb, nfa, ntb, nta, nc, nr⟩) :
    Calls Tryz.prog 30 #[.pointer (some ⟨p, 0, none⟩), .pointer (some ⟨bo, oi, none⟩), .pointer (some ⟨bn, on, none⟩)] w fun e w' => e = .returned (.int .i64 0) ∧ Up w w' := by
  have o0 := hO.c0
  dsimp only at o0
  have p1 := h.c1.1
  have hrk := hi.rack
  have HX := Lib.hid h
  have HI := Lib.hid hi
  clear h hi hO hN
  have G0 := Lib.hid (Chg.refl Nowhere w)
  go_enter Tryz.func30, Tryz.ntmps30
  go_wp2
  go_ret
  exact ⟨rfl, G0.out⟩
theorem rule_miss_a (w : World) {S : Nat → Prop} {K p : Nat} {m : MachM} {F B C L D : Value} {fs bs : List Value} (h : MachX w S K p m F B C L D fs bs) (hi : MInv m) (bo oi bn on : Nat) (d fb fa tb ta car rk nk nd nfb nfa ntb nta nc nr : Int) (hO : OpC w bo oi ⟨3, d, fb, fa, tb, ta, car, rk⟩) (hN : OpC w bn on ⟨nk, nd, nfb, nfa, ntb, nta, nc, nr⟩) (hfa : 0 ≤ fa ∧ fa ≤ 1000) (hna : 0 ≤ nfa ∧ nfa ≤ 1000) (hd : d = 1 ∨ d = -1) (hA : yarnB nk = false) :
    Calls Tryz.prog 30 #[.pointer (some ⟨p, 0, none⟩), .pointer (some ⟨bo, oi, none⟩), .pointer (some ⟨bn, on, none⟩)] w fun e w' => e = .returned (.int .i64 0) ∧ Up w w' := by
  have o0 := hO.c0
  have o1 := hO.c1
  have o2 := hO.c2
  have o3 : w.cell? ⟨bo, oi + 2 + 1, none⟩ = _ := hO.c3
  have o6 := hO.c6
  have n0 := hN.c0
  have n1 := hN.c1
  have n2 := hN.c2
  have n3 : w.cell? ⟨bn, on + 2 + 1, none⟩ = _ := hN.c3
  have n6 := hN.c6
  dsimp only at o0 o1 o2 o3 o6 n0 n1 n2 n3 n6
  have p1 := h.c1.1
  have hrk := hi.rack
  have HX := Lib.hid h
  have HI := Lib.hid hi
  clear h hi hO hN
  obtain ⟨x, Hx⟩ : ∃ x, Hid (placeM fb fa m.rack = x) := ⟨_, rfl⟩
  obtain ⟨y, Hy⟩ : ∃ y, Hid (placeM nfb nfa m.rack = y) := ⟨_, rfl⟩
  have hxb : -3 ≤ x ∧ x ≤ 1003 := by rw [← Hx.out]; unfold placeM; split <;> omega
  have hyb : -3 ≤ y ∧ y ≤ 1003 := by rw [← Hy.out]; unfold placeM; split <;> omega
  have w1 : IntKind.i64.wrap (y - x) = y - x := IntWalk.i64_in _ (by omega)
  obtain ⟨z, Hz⟩ : ∃ z, Hid ((y - x) * d = z) := ⟨_, rfl⟩
  have w2 : IntKind.i64.wrap ((y - x) * d) = z := (IntWalk.i64_in _ (by rcases hd with rfl | rfl <;> omega)).trans Hz.out
  have tA : yarnB nk = false := hA
  have G0 := Lib.hid (Chg.refl Nowhere w)
  go_enter Tryz.func30, Tryz.ntmps30
  go_wp2
  have qo0 := up_cell o0
  have qo1 := up_cell o1
  have qo2 := up_cell o2
  have qo3 := up_cell o3
  have qo6 := up_cell o6
  have qn0 := up_cell n0
  have qn1 := up_cell n1
  have qn2 := up_cell n2
  have qn3 := up_cell n3
  have qn6 := up_cell n6
  have qp1 := up_cell p1
  refine wp_region_up (by kernel_rfl) (by kernel_rfl) ?_
  repeat (go_big_quiet_step (first | (with_reducible exact calls_up (l07Place_x _ fb _ _ _ (by omega) (by omega) Hx.out)) | (with_reducible exact calls_up (l07Place_x _ nfb _ _ _ (by omega) (by omega) Hy.out))))
  refine wpQuiet_nil ?_
  rintro w1 ⟨u, hu⟩
  have gu := (hu ▸ u.up : Up w w1)
  have hh := cc8 gu o0 o1 o2 o3 o6 n0 n1 n2
  obtain ⟨o0, o1, o2, o3, o6, n0, n1, n2⟩ := hh
  have hh := cc3 gu n3 n6 p1
  obtain ⟨n3, n6, p1⟩ := hh
  have G1 := Lib.hid (Chg.trans G0.out gu)
  clear hu u gu qo0 qo1 qo2 qo3 qo6 qn0 qn1 qn2 qn3 qn6 qp1
  go_wp2
  have qo0 := up_cell o0
  have qo1 := up_cell o1
  have qo2 := up_cell o2
  have qo3 := up_cell o3
  have qo6 := up_cell o6
  have qn0 := up_cell n0
  have qn1 := up_cell n1
  have qn2 := up_cell n2
  have qn3 := up_cell n3
  have qn6 := up_cell n6
  have qp1 := up_cell p1
  refine wp_region_up (by kernel_rfl) (by kernel_rfl) ?_
  repeat (go_big_quiet_step ((exact calls_up_same (l25Yarn_v _ _ _ _ (qn0 _) hA))))
  refine wpQuiet_nil ?_
  rintro w2 ⟨u, hu⟩
  have gu := (hu ▸ u.up : Up w1 w2)
  have hh := cc8 gu o0 o1 o2 o3 o6 n0 n1 n2
  obtain ⟨o0, o1, o2, o3, o6, n0, n1, n2⟩ := hh
  have hh := cc3 gu n3 n6 p1
  obtain ⟨n3, n6, p1⟩ := hh
  have G2 := Lib.hid (Chg.trans G1.out gu)
  clear hu u gu qo0 qo1 qo2 qo3 qo6 qn0 qn1 qn2 qn3 qn6 qp1
  go_wp2
  go_ret
  exact ⟨rfl, G2.out⟩
theorem rule_miss_b (w : World) {S : Nat → Prop} {K p : Nat} {m : MachM} {F B C L D : Value} {fs bs : List Value} (h : MachX w S K p m F B C L D fs bs) (hi : MInv m) (bo oi bn on : Nat) (d fb fa tb ta car rk nk nd nfb nfa ntb nta nc nr : Int) (hO : OpC w bo oi ⟨3, d, fb, fa, tb, ta, car, rk⟩) (hN : OpC w bn on ⟨nk, nd, nfb, nfa, ntb, nta, nc, nr⟩) (hfa : 0 ≤ fa ∧ fa ≤ 1000) (hna : 0 ≤ nfa ∧ nfa ≤ 1000) (hd : d = 1 ∨ d = -1) (hA : yarnB nk = true) (hB : nc ≠ car) :
    Calls Tryz.prog 30 #[.pointer (some ⟨p, 0, none⟩), .pointer (some ⟨bo, oi, none⟩), .pointer (some ⟨bn, on, none⟩)] w fun e w' => e = .returned (.int .i64 0) ∧ Up w w' := by
  have o0 := hO.c0
  have o1 := hO.c1
  have o2 := hO.c2
  have o3 : w.cell? ⟨bo, oi + 2 + 1, none⟩ = _ := hO.c3
  have o6 := hO.c6
  have n0 := hN.c0
  have n1 := hN.c1
  have n2 := hN.c2
  have n3 : w.cell? ⟨bn, on + 2 + 1, none⟩ = _ := hN.c3
  have n6 := hN.c6
  dsimp only at o0 o1 o2 o3 o6 n0 n1 n2 n3 n6
  have p1 := h.c1.1
  have hrk := hi.rack
  have HX := Lib.hid h
  have HI := Lib.hid hi
  clear h hi hO hN
  obtain ⟨x, Hx⟩ : ∃ x, Hid (placeM fb fa m.rack = x) := ⟨_, rfl⟩
  obtain ⟨y, Hy⟩ : ∃ y, Hid (placeM nfb nfa m.rack = y) := ⟨_, rfl⟩
  have hxb : -3 ≤ x ∧ x ≤ 1003 := by rw [← Hx.out]; unfold placeM; split <;> omega
  have hyb : -3 ≤ y ∧ y ≤ 1003 := by rw [← Hy.out]; unfold placeM; split <;> omega
  have w1 : IntKind.i64.wrap (y - x) = y - x := IntWalk.i64_in _ (by omega)
  obtain ⟨z, Hz⟩ : ∃ z, Hid ((y - x) * d = z) := ⟨_, rfl⟩
  have w2 : IntKind.i64.wrap ((y - x) * d) = z := (IntWalk.i64_in _ (by rcases hd with rfl | rfl <;> omega)).trans Hz.out
  have tA : yarnB nk = true := hA
  have tB : (nc == car) = false := by simpa using hB
  have G0 := Lib.hid (Chg.refl Nowhere w)
  go_enter Tryz.func30, Tryz.ntmps30
  go_wp2
  have qo0 := up_cell o0
  have qo1 := up_cell o1
  have qo2 := up_cell o2
  have qo3 := up_cell o3
  have qo6 := up_cell o6
  have qn0 := up_cell n0
  have qn1 := up_cell n1
  have qn2 := up_cell n2
  have qn3 := up_cell n3
  have qn6 := up_cell n6
  have qp1 := up_cell p1
  refine wp_region_up (by kernel_rfl) (by kernel_rfl) ?_
  repeat (go_big_quiet_step (first | (with_reducible exact calls_up (l07Place_x _ fb _ _ _ (by omega) (by omega) Hx.out)) | (with_reducible exact calls_up (l07Place_x _ nfb _ _ _ (by omega) (by omega) Hy.out))))
  refine wpQuiet_nil ?_
  rintro w1 ⟨u, hu⟩
  have gu := (hu ▸ u.up : Up w w1)
  have hh := cc8 gu o0 o1 o2 o3 o6 n0 n1 n2
  obtain ⟨o0, o1, o2, o3, o6, n0, n1, n2⟩ := hh
  have hh := cc3 gu n3 n6 p1
  obtain ⟨n3, n6, p1⟩ := hh
  have G1 := Lib.hid (Chg.trans G0.out gu)
  clear hu u gu qo0 qo1 qo2 qo3 qo6 qn0 qn1 qn2 qn3 qn6 qp1
  go_wp2
  have qo0 := up_cell o0
  have qo1 := up_cell o1
  have qo2 := up_cell o2
  have qo3 := up_cell o3
  have qo6 := up_cell o6
  have qn0 := up_cell n0
  have qn1 := up_cell n1
  have qn2 := up_cell n2
  have qn3 := up_cell n3
  have qn6 := up_cell n6
  have qp1 := up_cell p1
  refine wp_region_up (by kernel_rfl) (by kernel_rfl) ?_
  repeat (go_big_quiet_step ((exact calls_up_same (l25Yarn_v _ _ _ _ (qn0 _) hA))))
  refine wpQuiet_nil ?_
  rintro w2 ⟨u, hu⟩
  have gu := (hu ▸ u.up : Up w1 w2)
  have hh := cc8 gu o0 o1 o2 o3 o6 n0 n1 n2
  obtain ⟨o0, o1, o2, o3, o6, n0, n1, n2⟩ := hh
  have hh := cc3 gu n3 n6 p1
  obtain ⟨n3, n6, p1⟩ := hh
  have G2 := Lib.hid (Chg.trans G1.out gu)
  clear hu u gu qo0 qo1 qo2 qo3 qo6 qn0 qn1 qn2 qn3 qn6 qp1
  go_wp2
  go_ret
  exact ⟨rfl, G2.out⟩
theorem rule_miss_c (w : World) {S : Nat → Prop} {K p : Nat} {m : MachM} {F B C L D : Value} {fs bs : List Value} (h : MachX w S K p m F B C L D fs bs) (hi : MInv m) (bo oi bn on : Nat) (d fb fa tb ta car rk nk nd nfb nfa ntb nta nc nr : Int) (hO : OpC w bo oi ⟨3, d, fb, fa, tb, ta, car, rk⟩) (hN : OpC w bn on ⟨nk, nd, nfb, nfa, ntb, nta, nc, nr⟩) (hfa : 0 ≤ fa ∧ fa ≤ 1000) (hna : 0 ≤ nfa ∧ nfa ≤ 1000) (hd : d = 1 ∨ d = -1) (hA : yarnB nk = true) (hB : nc = car) (hC : nd ≠ d) :
    Calls Tryz.prog 30 #[.pointer (some ⟨p, 0, none⟩), .pointer (some ⟨bo, oi, none⟩), .pointer (some ⟨bn, on, none⟩)] w fun e w' => e = .returned (.int .i64 0) ∧ Up w w' := by
  have o0 := hO.c0
  have o1 := hO.c1
  have o2 := hO.c2
  have o3 : w.cell? ⟨bo, oi + 2 + 1, none⟩ = _ := hO.c3
  have o6 := hO.c6
  have n0 := hN.c0
  have n1 := hN.c1
  have n2 := hN.c2
  have n3 : w.cell? ⟨bn, on + 2 + 1, none⟩ = _ := hN.c3
  have n6 := hN.c6
  dsimp only at o0 o1 o2 o3 o6 n0 n1 n2 n3 n6
  have p1 := h.c1.1
  have hrk := hi.rack
  have HX := Lib.hid h
  have HI := Lib.hid hi
  clear h hi hO hN
  obtain ⟨x, Hx⟩ : ∃ x, Hid (placeM fb fa m.rack = x) := ⟨_, rfl⟩
  obtain ⟨y, Hy⟩ : ∃ y, Hid (placeM nfb nfa m.rack = y) := ⟨_, rfl⟩
  have hxb : -3 ≤ x ∧ x ≤ 1003 := by rw [← Hx.out]; unfold placeM; split <;> omega
  have hyb : -3 ≤ y ∧ y ≤ 1003 := by rw [← Hy.out]; unfold placeM; split <;> omega
  have w1 : IntKind.i64.wrap (y - x) = y - x := IntWalk.i64_in _ (by omega)
  obtain ⟨z, Hz⟩ : ∃ z, Hid ((y - x) * d = z) := ⟨_, rfl⟩
  have w2 : IntKind.i64.wrap ((y - x) * d) = z := (IntWalk.i64_in _ (by rcases hd with rfl | rfl <;> omega)).trans Hz.out
  have tA : yarnB nk = true := hA
  subst hB
  have tC : (nd == d) = false := by simpa using hC
  have G0 := Lib.hid (Chg.refl Nowhere w)
  go_enter Tryz.func30, Tryz.ntmps30
  go_wp2
  have qo0 := up_cell o0
  have qo1 := up_cell o1
  have qo2 := up_cell o2
  have qo3 := up_cell o3
  have qo6 := up_cell o6
  have qn0 := up_cell n0
  have qn1 := up_cell n1
  have qn2 := up_cell n2
  have qn3 := up_cell n3
  have qn6 := up_cell n6
  have qp1 := up_cell p1
  refine wp_region_up (by kernel_rfl) (by kernel_rfl) ?_
  repeat (go_big_quiet_step (first | (with_reducible exact calls_up (l07Place_x _ fb _ _ _ (by omega) (by omega) Hx.out)) | (with_reducible exact calls_up (l07Place_x _ nfb _ _ _ (by omega) (by omega) Hy.out))))
  refine wpQuiet_nil ?_
  rintro w1 ⟨u, hu⟩
  have gu := (hu ▸ u.up : Up w w1)
  have hh := cc8 gu o0 o1 o2 o3 o6 n0 n1 n2
  obtain ⟨o0, o1, o2, o3, o6, n0, n1, n2⟩ := hh
  have hh := cc3 gu n3 n6 p1
  obtain ⟨n3, n6, p1⟩ := hh
  have G1 := Lib.hid (Chg.trans G0.out gu)
  clear hu u gu qo0 qo1 qo2 qo3 qo6 qn0 qn1 qn2 qn3 qn6 qp1
  go_wp2
  have qo0 := up_cell o0
  have qo1 := up_cell o1
  have qo2 := up_cell o2
  have qo3 := up_cell o3
  have qo6 := up_cell o6
  have qn0 := up_cell n0
  have qn1 := up_cell n1
  have qn2 := up_cell n2
  have qn3 := up_cell n3
  have qn6 := up_cell n6
  have qp1 := up_cell p1
  refine wp_region_up (by kernel_rfl) (by kernel_rfl) ?_
  repeat (go_big_quiet_step ((exact calls_up_same (l25Yarn_v _ _ _ _ (qn0 _) hA))))
  refine wpQuiet_nil ?_
  rintro w2 ⟨u, hu⟩
  have gu := (hu ▸ u.up : Up w1 w2)
  have hh := cc8 gu o0 o1 o2 o3 o6 n0 n1 n2
  obtain ⟨o0, o1, o2, o3, o6, n0, n1, n2⟩ := hh
  have hh := cc3 gu n3 n6 p1
  obtain ⟨n3, n6, p1⟩ := hh
  have G2 := Lib.hid (Chg.trans G1.out gu)
  clear hu u gu qo0 qo1 qo2 qo3 qo6 qn0 qn1 qn2 qn3 qn6 qp1
  go_wp2
  go_ret
  exact ⟨rfl, G2.out⟩
theorem rule_miss_d (w : World) {S : Nat → Prop} {K p : Nat} {m : MachM} {F B C L D : Value} {fs bs : List Value} (h : MachX w S K p m F B C L D fs bs) (hi : MInv m) (bo oi bn on : Nat) (d fb fa tb ta car rk nk nd nfb nfa ntb nta nc nr : Int) (hO : OpC w bo oi ⟨3, d, fb, fa, tb, ta, car, rk⟩) (hN : OpC w bn on ⟨nk, nd, nfb, nfa, ntb, nta, nc, nr⟩) (hfa : 0 ≤ fa ∧ fa ≤ 1000) (hna : 0 ≤ nfa ∧ nfa ≤ 1000) (hd : d = 1 ∨ d = -1) (hA : yarnB nk = true) (hB : nc = car) (hC : nd = d) (hD : ¬ 0 < (placeM nfb nfa m.rack - placeM fb fa m.rack) * d) :
    Calls Tryz.prog 30 #[.pointer (some ⟨p, 0, none⟩), .pointer (some ⟨bo, oi, none⟩), .pointer (some ⟨bn, on, none⟩)] w fun e w' => e = .returned (.int .i64 0) ∧ Up w w' := by
  have o0 := hO.c0
  have o1 := hO.c1
  have o2 := hO.c2
  have o3 : w.cell? ⟨bo, oi + 2 + 1, none⟩ = _ := hO.c3
  have o6 := hO.c6
  have n0 := hN.c0
  have n1 := hN.c1
  have n2 := hN.c2
  have n3 : w.cell? ⟨bn, on + 2 + 1, none⟩ = _ := hN.c3
  have n6 := hN.c6
  dsimp only at o0 o1 o2 o3 o6 n0 n1 n2 n3 n6
  have p1 := h.c1.1
  have hrk := hi.rack
  have HX := Lib.hid h
  have HI := Lib.hid hi
  clear h hi hO hN
  obtain ⟨x, Hx⟩ : ∃ x, Hid (placeM fb fa m.rack = x) := ⟨_, rfl⟩
  obtain ⟨y, Hy⟩ : ∃ y, Hid (placeM nfb nfa m.rack = y) := ⟨_, rfl⟩
  have hxb : -3 ≤ x ∧ x ≤ 1003 := by rw [← Hx.out]; unfold placeM; split <;> omega
  have hyb : -3 ≤ y ∧ y ≤ 1003 := by rw [← Hy.out]; unfold placeM; split <;> omega
  have w1 : IntKind.i64.wrap (y - x) = y - x := IntWalk.i64_in _ (by omega)
  obtain ⟨z, Hz⟩ : ∃ z, Hid ((y - x) * d = z) := ⟨_, rfl⟩
  have w2 : IntKind.i64.wrap ((y - x) * d) = z := (IntWalk.i64_in _ (by rcases hd with rfl | rfl <;> omega)).trans Hz.out
  have tA : yarnB nk = true := hA
  subst hB hC
  have tD : decide (0 < z) = false := decide_eq_false (by rw [← Hz.out, ← Hx.out, ← Hy.out]; exact hD)
  have G0 := Lib.hid (Chg.refl Nowhere w)
  go_enter Tryz.func30, Tryz.ntmps30
  go_wp2
  have qo0 := up_cell o0
  have qo1 := up_cell o1
  have qo2 := up_cell o2
  have qo3 := up_cell o3
  have qo6 := up_cell o6
  have qn0 := up_cell n0
  have qn1 := up_cell n1
  have qn2 := up_cell n2
  have qn3 := up_cell n3
  have qn6 := up_cell n6
  have qp1 := up_cell p1
  refine wp_region_up (by kernel_rfl) (by kernel_rfl) ?_
  repeat (go_big_quiet_step (first | (with_reducible exact calls_up (l07Place_x _ fb _ _ _ (by omega) (by omega) Hx.out)) | (with_reducible exact calls_up (l07Place_x _ nfb _ _ _ (by omega) (by omega) Hy.out))))
  refine wpQuiet_nil ?_
  rintro w1 ⟨u, hu⟩
  have gu := (hu ▸ u.up : Up w w1)
  have hh := cc8 gu o0 o1 o2 o3 o6 n0 n1 n2
  obtain ⟨o0, o1, o2, o3, o6, n0, n1, n2⟩ := hh
  have hh := cc3 gu n3 n6 p1
  obtain ⟨n3, n6, p1⟩ := hh
  have G1 := Lib.hid (Chg.trans G0.out gu)
  clear hu u gu qo0 qo1 qo2 qo3 qo6 qn0 qn1 qn2 qn3 qn6 qp1
  go_wp2
  have qo0 := up_cell o0
  have qo1 := up_cell o1
  have qo2 := up_cell o2
  have qo3 := up_cell o3
  have qo6 := up_cell o6
  have qn0 := up_cell n0
  have qn1 := up_cell n1
  have qn2 := up_cell n2
  have qn3 := up_cell n3
  have qn6 := up_cell n6
  have qp1 := up_cell p1
  refine wp_region_up (by kernel_rfl) (by kernel_rfl) ?_
  repeat (go_big_quiet_step ((exact calls_up_same (l25Yarn_v _ _ _ _ (qn0 _) hA))))
  refine wpQuiet_nil ?_
  rintro w2 ⟨u, hu⟩
  have gu := (hu ▸ u.up : Up w1 w2)
  have hh := cc8 gu o0 o1 o2 o3 o6 n0 n1 n2
  obtain ⟨o0, o1, o2, o3, o6, n0, n1, n2⟩ := hh
  have hh := cc3 gu n3 n6 p1
  obtain ⟨n3, n6, p1⟩ := hh
  have G2 := Lib.hid (Chg.trans G1.out gu)
  clear hu u gu qo0 qo1 qo2 qo3 qo6 qn0 qn1 qn2 qn3 qn6 qp1
  go_wp2
  go_ret
  exact ⟨rfl, G2.out⟩
theorem rule_miss (w : World) {S : Nat → Prop} {K p : Nat} {m : MachM} {F B C L D : Value} {fs bs : List Value} (h : MachX w S K p m F B C L D fs bs) (hi : MInv m) (bo oi bn on : Nat) (d fb fa tb ta car rk nk nd nfb nfa ntb nta nc nr : Int) (hO : OpC w bo oi ⟨3, d, fb, fa, tb, ta, car, rk⟩) (hN : OpC w bn on ⟨nk, nd, nfb, nfa, ntb, nta, nc, nr⟩) (hfa : 0 ≤ fa ∧ fa ≤ 1000) (hna : 0 ≤ nfa ∧ nfa ≤ 1000) (hd : d = 1 ∨ d = -1) (hA : yarnB nk = true) (hB : nc = car) (hC : nd = d) (hD : 0 < (placeM nfb nfa m.rack - placeM fb fa m.rack) * d) :
    Calls Tryz.prog 30 #[.pointer (some ⟨p, 0, none⟩), .pointer (some ⟨bo, oi, none⟩), .pointer (some ⟨bn, on, none⟩)] w fun e w' => e = .returned (.int .i64 3) ∧ Up w w' := by
  have o0 := hO.c0
  have o1 := hO.c1
  have o2 := hO.c2
  have o3 : w.cell? ⟨bo, oi + 2 + 1, none⟩ = _ := hO.c3
  have o6 := hO.c6
  have n0 := hN.c0
  have n1 := hN.c1
  have n2 := hN.c2
  have n3 : w.cell? ⟨bn, on + 2 + 1, none⟩ = _ := hN.c3
  have n6 := hN.c6
  dsimp only at o0 o1 o2 o3 o6 n0 n1 n2 n3 n6
  have p1 := h.c1.1
  have hrk := hi.rack
  have HX := Lib.hid h
  have HI := Lib.hid hi
  clear h hi hO hN
  obtain ⟨x, Hx⟩ : ∃ x, Hid (placeM fb fa m.rack = x) := ⟨_, rfl⟩
  obtain ⟨y, Hy⟩ : ∃ y, Hid (placeM nfb nfa m.rack = y) := ⟨_, rfl⟩
  have hxb : -3 ≤ x ∧ x ≤ 1003 := by rw [← Hx.out]; unfold placeM; split <;> omega
  have hyb : -3 ≤ y ∧ y ≤ 1003 := by rw [← Hy.out]; unfold placeM; split <;> omega
  have w1 : IntKind.i64.wrap (y - x) = y - x := IntWalk.i64_in _ (by omega)
  obtain ⟨z, Hz⟩ : ∃ z, Hid ((y - x) * d = z) := ⟨_, rfl⟩
  have w2 : IntKind.i64.wrap ((y - x) * d) = z := (IntWalk.i64_in _ (by rcases hd with rfl | rfl <;> omega)).trans Hz.out
  have tA : yarnB nk = true := hA
  subst hB hC
  have tD : decide (0 < z) = true := decide_eq_true (by rw [← Hz.out, ← Hx.out, ← Hy.out]; exact hD)
  have G0 := Lib.hid (Chg.refl Nowhere w)
  go_enter Tryz.func30, Tryz.ntmps30
  go_wp2
  have qo0 := up_cell o0
  have qo1 := up_cell o1
  have qo2 := up_cell o2
  have qo3 := up_cell o3
  have qo6 := up_cell o6
  have qn0 := up_cell n0
  have qn1 := up_cell n1
  have qn2 := up_cell n2
  have qn3 := up_cell n3
  have qn6 := up_cell n6
  have qp1 := up_cell p1
  refine wp_region_up (by kernel_rfl) (by kernel_rfl) ?_
  repeat (go_big_quiet_step (first | (with_reducible exact calls_up (l07Place_x _ fb _ _ _ (by omega) (by omega) Hx.out)) | (with_reducible exact calls_up (l07Place_x _ nfb _ _ _ (by omega) (by omega) Hy.out))))
  refine wpQuiet_nil ?_
  rintro w1 ⟨u, hu⟩
  have gu := (hu ▸ u.up : Up w w1)
  have hh := cc8 gu o0 o1 o2 o3 o6 n0 n1 n2
  obtain ⟨o0, o1, o2, o3, o6, n0, n1, n2⟩ := hh
  have hh := cc3 gu n3 n6 p1
  obtain ⟨n3, n6, p1⟩ := hh
  have G1 := Lib.hid (Chg.trans G0.out gu)
  clear hu u gu qo0 qo1 qo2 qo3 qo6 qn0 qn1 qn2 qn3 qn6 qp1
  go_wp2
  have qo0 := up_cell o0
  have qo1 := up_cell o1
  have qo2 := up_cell o2
  have qo3 := up_cell o3
  have qo6 := up_cell o6
  have qn0 := up_cell n0
  have qn1 := up_cell n1
  have qn2 := up_cell n2
  have qn3 := up_cell n3
  have qn6 := up_cell n6
  have qp1 := up_cell p1
  refine wp_region_up (by kernel_rfl) (by kernel_rfl) ?_
  repeat (go_big_quiet_step ((exact calls_up_same (l25Yarn_v _ _ _ _ (qn0 _) hA))))
  refine wpQuiet_nil ?_
  rintro w2 ⟨u, hu⟩
  have gu := (hu ▸ u.up : Up w1 w2)
  have hh := cc8 gu o0 o1 o2 o3 o6 n0 n1 n2
  obtain ⟨o0, o1, o2, o3, o6, n0, n1, n2⟩ := hh
  have hh := cc3 gu n3 n6 p1
  obtain ⟨n3, n6, p1⟩ := hh
  have G2 := Lib.hid (Chg.trans G1.out gu)
  clear hu u gu qo0 qo1 qo2 qo3 qo6 qn0 qn1 qn2 qn3 qn6 qp1
  go_wp2
  go_ret
  exact ⟨rfl, G2.out⟩
theorem rule_xfer_a (w : World) {S : Nat → Prop} {K p : Nat} {m : MachM} {F B C L D : Value} {fs bs : List Value} (h : MachX w S K p m F B C L D fs bs) (hi : MInv m) (bo oi bn on : Nat) (d fb fa tb ta car rk nk nd nfb nfa ntb nta nc nr : Int) (hO : OpC w bo oi ⟨4, d, fb, fa, tb, ta, car, rk⟩) (hN : OpC w bn on ⟨nk, nd, nfb, nfa, ntb, nta, nc, nr⟩) (hnt : okN m tb ta) (hq : (onM m tb ta).length ≠ 0) :
    Calls Tryz.prog 30 #[.pointer (some ⟨p, 0, none⟩), .pointer (some ⟨bo, oi, none⟩), .pointer (some ⟨bn, on, none⟩)] w fun e w' => e = .returned (.int .i64 0) ∧ Up w w' := by
  obtain ⟨g1, u1, hH1, -⟩ := h.hold hi (b := tb) (a := ta) hnt
  obtain ⟨A1, c1, rfl, hl1, hc1, -⟩ := hH1.own.ints.shape
  obtain ⟨l1, HL1⟩ : ∃ l1 : List Int, Hid (l1 = onM m tb ta) := ⟨_, rfl⟩
  rw [← HL1.out] at hH1 hl1 hq
  have H1 := Lib.hid hH1
  clear hH1
  have o0 := hO.c0
  have o2 := hO.c2
  have o3 : w.cell? ⟨bo, oi + 2 + 1, none⟩ = _ := hO.c3
  have o4 := hO.c4
  have o5 : w.cell? ⟨bo, oi + 4 + 1, none⟩ = _ := hO.c5
  have n0 := hN.c0
  have n2 := hN.c2
  have n3 : w.cell? ⟨bn, on + 2 + 1, none⟩ = _ := hN.c3
  have n4 := hN.c4
  have n5 : w.cell? ⟨bn, on + 4 + 1, none⟩ = _ := hN.c5
  dsimp only at o0 o2 o3 o4 o5 n0 n2 n3 n4 n5
  have p1 := h.c1.1
  have hrk := hi.rack
  have HX := Lib.hid h
  have HI := Lib.hid hi
  clear h hi hO hN
  have t0 : ((l1.length : Int) == 0) = false := by simp; exact fun e => hq (by simp [e])
  have G0 := Lib.hid (Chg.refl Nowhere w)
  go_enter Tryz.func30, Tryz.ntmps30
  go_wp2
  have qo0 := up_cell o0
  have qo2 := up_cell o2
  have qo3 := up_cell o3
  have qo4 := up_cell o4
  have qo5 := up_cell o5
  have qn0 := up_cell n0
  have qn2 := up_cell n2
  have qn3 := up_cell n3
  have qn4 := up_cell n4
  have qn5 := up_cell n5
  have qp1 := up_cell p1
  refine wp_region_up (by kernel_rfl) (by kernel_rfl) ?_
  repeat (go_big_quiet_step ((exact calls_up (l07On_any _ _ _ _ _ _ _ _ (H1.out.up (UpOf.up _))))))
  refine wpQuiet_nil ?_
  rintro w1 ⟨u, hu⟩
  have gu := (hu ▸ u.up : Up w w1)
  have hh := cc8 gu o0 o2 o3 o4 o5 n0 n2 n3
  obtain ⟨o0, o2, o3, o4, o5, n0, n2, n3⟩ := hh
  have hh := cc3 gu n4 n5 p1
  obtain ⟨n4, n5, p1⟩ := hh
  have G1 := Lib.hid (Chg.trans G0.out gu)
  clear hu u gu qo0 qo2 qo3 qo4 qo5 qn0 qn2 qn3 qn4 qn5 qp1
  go_wp2
  go_ret
  exact ⟨rfl, G1.out⟩
theorem rule_xfer_b (w : World) {S : Nat → Prop} {K p : Nat} {m : MachM} {F B C L D : Value} {fs bs : List Value} (h : MachX w S K p m F B C L D fs bs) (hi : MInv m) (bo oi bn on : Nat) (d fb fa tb ta car rk nk nd nfb nfa ntb nta nc nr : Int) (hO : OpC w bo oi ⟨4, d, fb, fa, tb, ta, car, rk⟩) (hN : OpC w bn on ⟨nk, nd, nfb, nfa, ntb, nta, nc, nr⟩) (hnt : okN m tb ta) (hq : (onM m tb ta).length = 0) (hA : nk ≠ 4) :
    Calls Tryz.prog 30 #[.pointer (some ⟨p, 0, none⟩), .pointer (some ⟨bo, oi, none⟩), .pointer (some ⟨bn, on, none⟩)] w fun e w' => e = .returned (.int .i64 0) ∧ Up w w' := by
  obtain ⟨g1, u1, hH1, -⟩ := h.hold hi (b := tb) (a := ta) hnt
  obtain ⟨A1, c1, rfl, hl1, hc1, -⟩ := hH1.own.ints.shape
  obtain ⟨l1, HL1⟩ : ∃ l1 : List Int, Hid (l1 = onM m tb ta) := ⟨_, rfl⟩
  rw [← HL1.out] at hH1 hl1 hq
  have H1 := Lib.hid hH1
  clear hH1
  have o0 := hO.c0
  have o2 := hO.c2
  have o3 : w.cell? ⟨bo, oi + 2 + 1, none⟩ = _ := hO.c3
  have o4 := hO.c4
  have o5 : w.cell? ⟨bo, oi + 4 + 1, none⟩ = _ := hO.c5
  have n0 := hN.c0
  have n2 := hN.c2
  have n3 : w.cell? ⟨bn, on + 2 + 1, none⟩ = _ := hN.c3
  have n4 := hN.c4
  have n5 : w.cell? ⟨bn, on + 4 + 1, none⟩ = _ := hN.c5
  dsimp only at o0 o2 o3 o4 o5 n0 n2 n3 n4 n5
  have p1 := h.c1.1
  have hrk := hi.rack
  have HX := Lib.hid h
  have HI := Lib.hid hi
  clear h hi hO hN
  have t0 : ((l1.length : Int) == 0) = true := by simpa using hq
  have t1 : (nk == 4) = false := by simpa using hA
  have G0 := Lib.hid (Chg.refl Nowhere w)
  go_enter Tryz.func30, Tryz.ntmps30
  go_wp2
  have qo0 := up_cell o0
  have qo2 := up_cell o2
  have qo3 := up_cell o3
  have qo4 := up_cell o4
  have qo5 := up_cell o5
  have qn0 := up_cell n0
  have qn2 := up_cell n2
  have qn3 := up_cell n3
  have qn4 := up_cell n4
  have qn5 := up_cell n5
  have qp1 := up_cell p1
  refine wp_region_up (by kernel_rfl) (by kernel_rfl) ?_
  repeat (go_big_quiet_step ((exact calls_up (l07On_any _ _ _ _ _ _ _ _ (H1.out.up (UpOf.up _))))))
  refine wpQuiet_nil ?_
  rintro w1 ⟨u, hu⟩
  have gu := (hu ▸ u.up : Up w w1)
  have hh := cc8 gu o0 o2 o3 o4 o5 n0 n2 n3
  obtain ⟨o0, o2, o3, o4, o5, n0, n2, n3⟩ := hh
  have hh := cc3 gu n4 n5 p1
  obtain ⟨n4, n5, p1⟩ := hh
  have G1 := Lib.hid (Chg.trans G0.out gu)
  clear hu u gu qo0 qo2 qo3 qo4 qo5 qn0 qn2 qn3 qn4 qn5 qp1
  go_wp2
  go_ret
  exact ⟨rfl, G1.out⟩
theorem rule_xfer_c (w : World) {S : Nat → Prop} {K p : Nat} {m : MachM} {F B C L D : Value} {fs bs : List Value} (h : MachX w S K p m F B C L D fs bs) (hi : MInv m) (bo oi bn on : Nat) (d fb fa tb ta car rk nk nd nfb nfa ntb nta nc nr : Int) (hO : OpC w bo oi ⟨4, d, fb, fa, tb, ta, car, rk⟩) (hN : OpC w bn on ⟨nk, nd, nfb, nfa, ntb, nta, nc, nr⟩) (hnt : okN m tb ta) (hq : (onM m tb ta).length = 0) (hA : nk = 4) (hB : nfb ≠ tb) :
    Calls Tryz.prog 30 #[.pointer (some ⟨p, 0, none⟩), .pointer (some ⟨bo, oi, none⟩), .pointer (some ⟨bn, on, none⟩)] w fun e w' => e = .returned (.int .i64 0) ∧ Up w w' := by
  obtain ⟨g1, u1, hH1, -⟩ := h.hold hi (b := tb) (a := ta) hnt
  obtain ⟨A1, c1, rfl, hl1, hc1, -⟩ := hH1.own.ints.shape
  obtain ⟨l1, HL1⟩ : ∃ l1 : List Int, Hid (l1 = onM m tb ta) := ⟨_, rfl⟩
  rw [← HL1.out] at hH1 hl1 hq
  have H1 := Lib.hid hH1
  clear hH1
  have o0 := hO.c0
  have o2 := hO.c2
  have o3 : w.cell? ⟨bo, oi + 2 + 1, none⟩ = _ := hO.c3
  have o4 := hO.c4
  have o5 : w.cell? ⟨bo, oi + 4 + 1, none⟩ = _ := hO.c5
  have n0 := hN.c0
  have n2 := hN.c2
  have n3 : w.cell? ⟨bn, on + 2 + 1, none⟩ = _ := hN.c3
  have n4 := hN.c4
  have n5 : w.cell? ⟨bn, on + 4 + 1, none⟩ = _ := hN.c5
  dsimp only at o0 o2 o3 o4 o5 n0 n2 n3 n4 n5
  have p1 := h.c1.1
  have hrk := hi.rack
  have HX := Lib.hid h
  have HI := Lib.hid hi
  clear h hi hO hN
  have t0 : ((l1.length : Int) == 0) = true := by simpa using hq
  subst hA
  have t1 : (nfb == tb) = false := by simpa using hB
  have G0 := Lib.hid (Chg.refl Nowhere w)
  go_enter Tryz.func30, Tryz.ntmps30
  go_wp2
  have qo0 := up_cell o0
  have qo2 := up_cell o2
  have qo3 := up_cell o3
  have qo4 := up_cell o4
  have qo5 := up_cell o5
  have qn0 := up_cell n0
  have qn2 := up_cell n2
  have qn3 := up_cell n3
  have qn4 := up_cell n4
  have qn5 := up_cell n5
  have qp1 := up_cell p1
  refine wp_region_up (by kernel_rfl) (by kernel_rfl) ?_
  repeat (go_big_quiet_step ((exact calls_up (l07On_any _ _ _ _ _ _ _ _ (H1.out.up (UpOf.up _))))))
  refine wpQuiet_nil ?_
  rintro w1 ⟨u, hu⟩
  have gu := (hu ▸ u.up : Up w w1)
  have hh := cc8 gu o0 o2 o3 o4 o5 n0 n2 n3
  obtain ⟨o0, o2, o3, o4, o5, n0, n2, n3⟩ := hh
  have hh := cc3 gu n4 n5 p1
  obtain ⟨n4, n5, p1⟩ := hh
  have G1 := Lib.hid (Chg.trans G0.out gu)
  clear hu u gu qo0 qo2 qo3 qo4 qo5 qn0 qn2 qn3 qn4 qn5 qp1
  go_wp2
  go_ret
  exact ⟨rfl, G1.out⟩
theorem rule_xfer_d (w : World) {S : Nat → Prop} {K p : Nat} {m : MachM} {F B C L D : Value} {fs bs : List Value} (h : MachX w S K p m F B C L D fs bs) (hi : MInv m) (bo oi bn on : Nat) (d fb fa tb ta car rk nk nd nfb nfa ntb nta nc nr : Int) (hO : OpC w bo oi ⟨4, d, fb, fa, tb, ta, car, rk⟩) (hN : OpC w bn on ⟨nk, nd, nfb, nfa, ntb, nta, nc, nr⟩) (hnt : okN m tb ta) (hq : (onM m tb ta).length = 0) (hA : nk = 4) (hB : nfb = tb) (hC : nfa ≠ ta) :
    Calls Tryz.prog 30 #[.pointer (some ⟨p, 0, none⟩), .pointer (some ⟨bo, oi, none⟩), .pointer (some ⟨bn, on, none⟩)] w fun e w' => e = .returned (.int .i64 0) ∧ Up w w' := by
  obtain ⟨g1, u1, hH1, -⟩ := h.hold hi (b := tb) (a := ta) hnt
  obtain ⟨A1, c1, rfl, hl1, hc1, -⟩ := hH1.own.ints.shape
  obtain ⟨l1, HL1⟩ : ∃ l1 : List Int, Hid (l1 = onM m tb ta) := ⟨_, rfl⟩
  rw [← HL1.out] at hH1 hl1 hq
  have H1 := Lib.hid hH1
  clear hH1
  have o0 := hO.c0
  have o2 := hO.c2
  have o3 : w.cell? ⟨bo, oi + 2 + 1, none⟩ = _ := hO.c3
  have o4 := hO.c4
  have o5 : w.cell? ⟨bo, oi + 4 + 1, none⟩ = _ := hO.c5
  have n0 := hN.c0
  have n2 := hN.c2
  have n3 : w.cell? ⟨bn, on + 2 + 1, none⟩ = _ := hN.c3
  have n4 := hN.c4
  have n5 : w.cell? ⟨bn, on + 4 + 1, none⟩ = _ := hN.c5
  dsimp only at o0 o2 o3 o4 o5 n0 n2 n3 n4 n5
  have p1 := h.c1.1
  have hrk := hi.rack
  have HX := Lib.hid h
  have HI := Lib.hid hi
  clear h hi hO hN
  have t0 : ((l1.length : Int) == 0) = true := by simpa using hq
  subst hA hB
  have t1 : (nfa == ta) = false := by simpa using hC
  have G0 := Lib.hid (Chg.refl Nowhere w)
  go_enter Tryz.func30, Tryz.ntmps30
  go_wp2
  have qo0 := up_cell o0
  have qo2 := up_cell o2
  have qo3 := up_cell o3
  have qo4 := up_cell o4
  have qo5 := up_cell o5
  have qn0 := up_cell n0
  have qn2 := up_cell n2
  have qn3 := up_cell n3
  have qn4 := up_cell n4
  have qn5 := up_cell n5
  have qp1 := up_cell p1
  refine wp_region_up (by kernel_rfl) (by kernel_rfl) ?_
  repeat (go_big_quiet_step ((exact calls_up (l07On_any _ _ _ _ _ _ _ _ (H1.out.up (UpOf.up _))))))
  refine wpQuiet_nil ?_
  rintro w1 ⟨u, hu⟩
  have gu := (hu ▸ u.up : Up w w1)
  have hh := cc8 gu o0 o2 o3 o4 o5 n0 n2 n3
  obtain ⟨o0, o2, o3, o4, o5, n0, n2, n3⟩ := hh
  have hh := cc3 gu n4 n5 p1
  obtain ⟨n4, n5, p1⟩ := hh
  have G1 := Lib.hid (Chg.trans G0.out gu)
  clear hu u gu qo0 qo2 qo3 qo4 qo5 qn0 qn2 qn3 qn4 qn5 qp1
  go_wp2
  go_ret
  exact ⟨rfl, G1.out⟩
theorem rule_xfer_e (w : World) {S : Nat → Prop} {K p : Nat} {m : MachM} {F B C L D : Value} {fs bs : List Value} (h : MachX w S K p m F B C L D fs bs) (hi : MInv m) (bo oi bn on : Nat) (d fb fa tb ta car rk nk nd nfb nfa ntb nta nc nr : Int) (hO : OpC w bo oi ⟨4, d, fb, fa, tb, ta, car, rk⟩) (hN : OpC w bn on ⟨nk, nd, nfb, nfa, ntb, nta, nc, nr⟩) (hnt : okN m tb ta) (hq : (onM m tb ta).length = 0) (hA : nk = 4) (hB : nfb = tb) (hC : nfa = ta) (hD : ntb ≠ fb) :
    Calls Tryz.prog 30 #[.pointer (some ⟨p, 0, none⟩), .pointer (some ⟨bo, oi, none⟩), .pointer (some ⟨bn, on, none⟩)] w fun e w' => e = .returned (.int .i64 0) ∧ Up w w' := by
  obtain ⟨g1, u1, hH1, -⟩ := h.hold hi (b := tb) (a := ta) hnt
  obtain ⟨A1, c1, rfl, hl1, hc1, -⟩ := hH1.own.ints.shape
  obtain ⟨l1, HL1⟩ : ∃ l1 : List Int, Hid (l1 = onM m tb ta) := ⟨_, rfl⟩
  rw [← HL1.out] at hH1 hl1 hq
  have H1 := Lib.hid hH1
  clear hH1
  have o0 := hO.c0
  have o2 := hO.c2
  have o3 : w.cell? ⟨bo, oi + 2 + 1, none⟩ = _ := hO.c3
  have o4 := hO.c4
  have o5 : w.cell? ⟨bo, oi + 4 + 1, none⟩ = _ := hO.c5
  have n0 := hN.c0
  have n2 := hN.c2
  have n3 : w.cell? ⟨bn, on + 2 + 1, none⟩ = _ := hN.c3
  have n4 := hN.c4
  have n5 : w.cell? ⟨bn, on + 4 + 1, none⟩ = _ := hN.c5
  dsimp only at o0 o2 o3 o4 o5 n0 n2 n3 n4 n5
  have p1 := h.c1.1
  have hrk := hi.rack
  have HX := Lib.hid h
  have HI := Lib.hid hi
  clear h hi hO hN
  have t0 : ((l1.length : Int) == 0) = true := by simpa using hq
  subst hA hB hC
  have t1 : (ntb == fb) = false := by simpa using hD
  have G0 := Lib.hid (Chg.refl Nowhere w)
  go_enter Tryz.func30, Tryz.ntmps30
  go_wp2
  have qo0 := up_cell o0
  have qo2 := up_cell o2
  have qo3 := up_cell o3
  have qo4 := up_cell o4
  have qo5 := up_cell o5
  have qn0 := up_cell n0
  have qn2 := up_cell n2
  have qn3 := up_cell n3
  have qn4 := up_cell n4
  have qn5 := up_cell n5
  have qp1 := up_cell p1
  refine wp_region_up (by kernel_rfl) (by kernel_rfl) ?_
  repeat (go_big_quiet_step ((exact calls_up (l07On_any _ _ _ _ _ _ _ _ (H1.out.up (UpOf.up _))))))
  refine wpQuiet_nil ?_
  rintro w1 ⟨u, hu⟩
  have gu := (hu ▸ u.up : Up w w1)
  have hh := cc8 gu o0 o2 o3 o4 o5 n0 n2 n3
  obtain ⟨o0, o2, o3, o4, o5, n0, n2, n3⟩ := hh
  have hh := cc3 gu n4 n5 p1
  obtain ⟨n4, n5, p1⟩ := hh
  have G1 := Lib.hid (Chg.trans G0.out gu)
  clear hu u gu qo0 qo2 qo3 qo4 qo5 qn0 qn2 qn3 qn4 qn5 qp1
  go_wp2
  go_ret
  exact ⟨rfl, G1.out⟩
theorem rule_xfer_f (w : World) {S : Nat → Prop} {K p : Nat} {m : MachM} {F B C L D : Value} {fs bs : List Value} (h : MachX w S K p m F B C L D fs bs) (hi : MInv m) (bo oi bn on : Nat) (d fb fa tb ta car rk nk nd nfb nfa ntb nta nc nr : Int) (hO : OpC w bo oi ⟨4, d, fb, fa, tb, ta, car, rk⟩) (hN : OpC w bn on ⟨nk, nd, nfb, nfa, ntb, nta, nc, nr⟩) (hnt : okN m tb ta) (hq : (onM m tb ta).length = 0) (hA : nk = 4) (hB : nfb = tb) (hC : nfa = ta) (hD : ntb = fb) (hE : nta ≠ fa) :
    Calls Tryz.prog 30 #[.pointer (some ⟨p, 0, none⟩), .pointer (some ⟨bo, oi, none⟩), .pointer (some ⟨bn, on, none⟩)] w fun e w' => e = .returned (.int .i64 0) ∧ Up w w' := by
  obtain ⟨g1, u1, hH1, -⟩ := h.hold hi (b := tb) (a := ta) hnt
  obtain ⟨A1, c1, rfl, hl1, hc1, -⟩ := hH1.own.ints.shape
  obtain ⟨l1, HL1⟩ : ∃ l1 : List Int, Hid (l1 = onM m tb ta) := ⟨_, rfl⟩
  rw [← HL1.out] at hH1 hl1 hq
  have H1 := Lib.hid hH1
  clear hH1
  have o0 := hO.c0
  have o2 := hO.c2
  have o3 : w.cell? ⟨bo, oi + 2 + 1, none⟩ = _ := hO.c3
  have o4 := hO.c4
  have o5 : w.cell? ⟨bo, oi + 4 + 1, none⟩ = _ := hO.c5
  have n0 := hN.c0
  have n2 := hN.c2
  have n3 : w.cell? ⟨bn, on + 2 + 1, none⟩ = _ := hN.c3
  have n4 := hN.c4
  have n5 : w.cell? ⟨bn, on + 4 + 1, none⟩ = _ := hN.c5
  dsimp only at o0 o2 o3 o4 o5 n0 n2 n3 n4 n5
  have p1 := h.c1.1
  have hrk := hi.rack
  have HX := Lib.hid h
  have HI := Lib.hid hi
  clear h hi hO hN
  have t0 : ((l1.length : Int) == 0) = true := by simpa using hq
  subst hA hB hC hD
  have t1 : (nta == fa) = false := by simpa using hE
  have G0 := Lib.hid (Chg.refl Nowhere w)
  go_enter Tryz.func30, Tryz.ntmps30
  go_wp2
  have qo0 := up_cell o0
  have qo2 := up_cell o2
  have qo3 := up_cell o3
  have qo4 := up_cell o4
  have qo5 := up_cell o5
  have qn0 := up_cell n0
  have qn2 := up_cell n2
  have qn3 := up_cell n3
  have qn4 := up_cell n4
  have qn5 := up_cell n5
  have qp1 := up_cell p1
  refine wp_region_up (by kernel_rfl) (by kernel_rfl) ?_
  repeat (go_big_quiet_step ((exact calls_up (l07On_any _ _ _ _ _ _ _ _ (H1.out.up (UpOf.up _))))))
  refine wpQuiet_nil ?_
  rintro w1 ⟨u, hu⟩
  have gu := (hu ▸ u.up : Up w w1)
  have hh := cc8 gu o0 o2 o3 o4 o5 n0 n2 n3
  obtain ⟨o0, o2, o3, o4, o5, n0, n2, n3⟩ := hh
  have hh := cc3 gu n4 n5 p1
  obtain ⟨n4, n5, p1⟩ := hh
  have G1 := Lib.hid (Chg.trans G0.out gu)
  clear hu u gu qo0 qo2 qo3 qo4 qo5 qn0 qn2 qn3 qn4 qn5 qp1
  go_wp2
  go_ret
  exact ⟨rfl, G1.out⟩
theorem rule_xfer (w : World) {S : Nat → Prop} {K p : Nat} {m : MachM} {F B C L D : Value} {fs bs : List Value} (h : MachX w S K p m F B C L D fs bs) (hi : MInv m) (bo oi bn on : Nat) (d fb fa tb ta car rk nk nd nfb nfa ntb nta nc nr : Int) (hO : OpC w bo oi ⟨4, d, fb, fa, tb, ta, car, rk⟩) (hN : OpC w bn on ⟨nk, nd, nfb, nfa, ntb, nta, nc, nr⟩) (hnt : okN m tb ta) (hq : (onM m tb ta).length = 0) (hA : nk = 4) (hB : nfb = tb) (hC : nfa = ta) (hD : ntb = fb) (hE : nta = fa) :
    Calls Tryz.prog 30 #[.pointer (some ⟨p, 0, none⟩), .pointer (some ⟨bo, oi, none⟩), .pointer (some ⟨bn, on, none⟩)] w fun e w' => e = .returned (.int .i64 4) ∧ Up w w' := by
  obtain ⟨g1, u1, hH1, -⟩ := h.hold hi (b := tb) (a := ta) hnt
  obtain ⟨A1, c1, rfl, hl1, hc1, -⟩ := hH1.own.ints.shape
  obtain ⟨l1, HL1⟩ : ∃ l1 : List Int, Hid (l1 = onM m tb ta) := ⟨_, rfl⟩
  rw [← HL1.out] at hH1 hl1 hq
  have H1 := Lib.hid hH1
  clear hH1
  have o0 := hO.c0
  have o2 := hO.c2
  have o3 : w.cell? ⟨bo, oi + 2 + 1, none⟩ = _ := hO.c3
  have o4 := hO.c4
  have o5 : w.cell? ⟨bo, oi + 4 + 1, none⟩ = _ := hO.c5
  have n0 := hN.c0
  have n2 := hN.c2
  have n3 : w.cell? ⟨bn, on + 2 + 1, none⟩ = _ := hN.c3
  have n4 := hN.c4
  have n5 : w.cell? ⟨bn, on + 4 + 1, none⟩ = _ := hN.c5
  dsimp only at o0 o2 o3 o4 o5 n0 n2 n3 n4 n5
  have p1 := h.c1.1
  have hrk := hi.rack
  have HX := Lib.hid h
  have HI := Lib.hid hi
  clear h hi hO hN
  have t0 : ((l1.length : Int) == 0) = true := by simpa using hq
  subst hA hB hC hD hE
  have G0 := Lib.hid (Chg.refl Nowhere w)
  go_enter Tryz.func30, Tryz.ntmps30
  go_wp2
  have qo0 := up_cell o0
  have qo2 := up_cell o2
  have qo3 := up_cell o3
  have qo4 := up_cell o4
  have qo5 := up_cell o5
  have qn0 := up_cell n0
  have qn2 := up_cell n2
  have qn3 := up_cell n3
  have qn4 := up_cell n4
  have qn5 := up_cell n5
  have qp1 := up_cell p1
  refine wp_region_up (by kernel_rfl) (by kernel_rfl) ?_
  repeat (go_big_quiet_step ((exact calls_up (l07On_any _ _ _ _ _ _ _ _ (H1.out.up (UpOf.up _))))))
  refine wpQuiet_nil ?_
  rintro w1 ⟨u, hu⟩
  have gu := (hu ▸ u.up : Up w w1)
  have hh := cc8 gu o0 o2 o3 o4 o5 n0 n2 n3
  obtain ⟨o0, o2, o3, o4, o5, n0, n2, n3⟩ := hh
  have hh := cc3 gu n4 n5 p1
  obtain ⟨n4, n5, p1⟩ := hh
  have G1 := Lib.hid (Chg.trans G0.out gu)
  clear hu u gu qo0 qo2 qo3 qo4 qo5 qn0 qn2 qn3 qn4 qn5 qp1
  go_wp2
  go_ret
  exact ⟨rfl, G1.out⟩
theorem rule_in_a (w : World) {S : Nat → Prop} {K p : Nat} {m : MachM} {F B C L D : Value} {fs bs : List Value} (h : MachX w S K p m F B C L D fs bs) (hi : MInv m) (bo oi bn on : Nat) (d fb fa tb ta car rk nk nd nfb nfa ntb nta nc nr : Int) (hO : OpC w bo oi ⟨8, d, fb, fa, tb, ta, car, rk⟩) (hN : OpC w bn on ⟨nk, nd, nfb, nfa, ntb, nta, nc, nr⟩) (hA : nk ≠ 9) :
    Calls Tryz.prog 30 #[.pointer (some ⟨p, 0, none⟩), .pointer (some ⟨bo, oi, none⟩), .pointer (some ⟨bn, on, none⟩)] w fun e w' => e = .returned (.int .i64 0) ∧ Up w w' := by
  have o0 := hO.c0
  have o6 := hO.c6
  have n0 := hN.c0
  have n6 := hN.c6
  dsimp only at o0 o6 n0 n6
  have p1 := h.c1.1
  have hrk := hi.rack
  have HX := Lib.hid h
  have HI := Lib.hid hi
  clear h hi hO hN
  have t1 : (nk == 9) = false := by simpa using hA
  have G0 := Lib.hid (Chg.refl Nowhere w)
  go_enter Tryz.func30, Tryz.ntmps30
  go_wp2
  have qo0 := up_cell o0
  have qo6 := up_cell o6
  have qn0 := up_cell n0
  have qn6 := up_cell n6
  have qp1 := up_cell p1
  refine wp_region_up (by kernel_rfl) (by kernel_rfl) ?_
  repeat (go_big_quiet_step (fail))
  refine wpQuiet_nil ?_
  rintro w1 ⟨u, hu⟩
  have gu := (hu ▸ u.up : Up w w1)
  have hh := cc5 gu o0 o6 n0 n6 p1
  obtain ⟨o0, o6, n0, n6, p1⟩ := hh
  have G1 := Lib.hid (Chg.trans G0.out gu)
  clear hu u gu qo0 qo6 qn0 qn6 qp1
  go_wp2
  go_ret
  exact ⟨rfl, G1.out⟩
theorem rule_in_b (w : World) {S : Nat → Prop} {K p : Nat} {m : MachM} {F B C L D : Value} {fs bs : List Value} (h : MachX w S K p m F B C L D fs bs) (hi : MInv m) (bo oi bn on : Nat) (d fb fa tb ta car rk nk nd nfb nfa ntb nta nc nr : Int) (hO : OpC w bo oi ⟨8, d, fb, fa, tb, ta, car, rk⟩) (hN : OpC w bn on ⟨nk, nd, nfb, nfa, ntb, nta, nc, nr⟩) (hA : nk = 9) (hB : nc ≠ car) :
    Calls Tryz.prog 30 #[.pointer (some ⟨p, 0, none⟩), .pointer (some ⟨bo, oi, none⟩), .pointer (some ⟨bn, on, none⟩)] w fun e w' => e = .returned (.int .i64 0) ∧ Up w w' := by
  have o0 := hO.c0
  have o6 := hO.c6
  have n0 := hN.c0
  have n6 := hN.c6
  dsimp only at o0 o6 n0 n6
  have p1 := h.c1.1
  have hrk := hi.rack
  have HX := Lib.hid h
  have HI := Lib.hid hi
  clear h hi hO hN
  subst hA
  have t1 : (nc == car) = false := by simpa using hB
  have G0 := Lib.hid (Chg.refl Nowhere w)
  go_enter Tryz.func30, Tryz.ntmps30
  go_wp2
  have qo0 := up_cell o0
  have qo6 := up_cell o6
  have qn0 := up_cell n0
  have qn6 := up_cell n6
  have qp1 := up_cell p1
  refine wp_region_up (by kernel_rfl) (by kernel_rfl) ?_
  repeat (go_big_quiet_step (fail))
  refine wpQuiet_nil ?_
  rintro w1 ⟨u, hu⟩
  have gu := (hu ▸ u.up : Up w w1)
  have hh := cc5 gu o0 o6 n0 n6 p1
  obtain ⟨o0, o6, n0, n6, p1⟩ := hh
  have G1 := Lib.hid (Chg.trans G0.out gu)
  clear hu u gu qo0 qo6 qn0 qn6 qp1
  go_wp2
  go_ret
  exact ⟨rfl, G1.out⟩
theorem rule_in (w : World) {S : Nat → Prop} {K p : Nat} {m : MachM} {F B C L D : Value} {fs bs : List Value} (h : MachX w S K p m F B C L D fs bs) (hi : MInv m) (bo oi bn on : Nat) (d fb fa tb ta car rk nk nd nfb nfa ntb nta nc nr : Int) (hO : OpC w bo oi ⟨8, d, fb, fa, tb, ta, car, rk⟩) (hN : OpC w bn on ⟨nk, nd, nfb, nfa, ntb, nta, nc, nr⟩) (hA : nk = 9) (hB : nc = car) :
    Calls Tryz.prog 30 #[.pointer (some ⟨p, 0, none⟩), .pointer (some ⟨bo, oi, none⟩), .pointer (some ⟨bn, on, none⟩)] w fun e w' => e = .returned (.int .i64 5) ∧ Up w w' := by
  have o0 := hO.c0
  have o6 := hO.c6
  have n0 := hN.c0
  have n6 := hN.c6
  dsimp only at o0 o6 n0 n6
  have p1 := h.c1.1
  have hrk := hi.rack
  have HX := Lib.hid h
  have HI := Lib.hid hi
  clear h hi hO hN
  subst hA hB
  have G0 := Lib.hid (Chg.refl Nowhere w)
  go_enter Tryz.func30, Tryz.ntmps30
  go_wp2
  have qo0 := up_cell o0
  have qo6 := up_cell o6
  have qn0 := up_cell n0
  have qn6 := up_cell n6
  have qp1 := up_cell p1
  refine wp_region_up (by kernel_rfl) (by kernel_rfl) ?_
  repeat (go_big_quiet_step (fail))
  refine wpQuiet_nil ?_
  rintro w1 ⟨u, hu⟩
  have gu := (hu ▸ u.up : Up w w1)
  have hh := cc5 gu o0 o6 n0 n6 p1
  obtain ⟨o0, o6, n0, n6, p1⟩ := hh
  have G1 := Lib.hid (Chg.trans G0.out gu)
  clear hu u gu qo0 qo6 qn0 qn6 qp1
  go_wp2
  go_ret
  exact ⟨rfl, G1.out⟩
end Go.Proofs.YtiiodfcbpmkodaaGreat
namespace Go.Proofs.YtiiodfcbpmkodaaGreat
open Go.ChangeShapes Go.WideShapes Go.ChangeAt Go.RowKit
attribute [local go_sem ↓] Go.wp_at_zero Go.wp_at_succ
theorem rule_any (w : World) {S : Nat → Prop} {K p : Nat} {m : MachM} {F B C L D : Value} {fs bs : List Value} (h : MachX w S K p m F B C L D fs bs) (hi : MInv m) (bo oi bn on : Nat) (x y : OpM) (hx : okOp m.wd x) (hy : 0 ≤ y.fa ∧ y.fa ≤ 1000) (hO : OpC w bo oi x) (hN : OpC w bn on y) :
    Calls Tryz.prog 30 #[.pointer (some ⟨p, 0, none⟩), .pointer (some ⟨bo, oi, none⟩), .pointer (some ⟨bn, on, none⟩)] w fun e w' => e = .returned (.int .i64 (ruleM m x y)) ∧ Up w w' := by
  have hv := valid_cases hx.1
  have htw := hx.2.2
  obtain ⟨k, d, fb, fa, tb, ta, car, rk⟩ := x
  obtain ⟨nk, nd, nfb, nfa, ntb, nta, nc, nr⟩ := y
  dsimp only at hv hy htw
  rcases hv with ⟨hk, hd, hn, hc, -, -, -⟩ | ⟨rfl, hn, hn2, hbb, -, -, -⟩ | ⟨rfl, hn, hn2, hbb, hd, hc, -⟩ | ⟨rfl, hn, -⟩ | ⟨rfl, hr, -⟩ | ⟨rfl, hd, hc, -⟩ | ⟨rfl, hc, -⟩
  · rcases hk with rfl | rfl | rfl
    · exact rule_none1 w h hi bo oi bn on d fb fa tb ta car rk nk nd nfb nfa ntb nta nc nr hO hN
    · exact rule_none2 w h hi bo oi bn on d fb fa tb ta car rk nk nd nfb nfa ntb nta nc nr hO hN
    · have hfa : 0 ≤ fa ∧ fa ≤ 1000 := by omega
      cases hA : yarnB nk with
      | false =>
        have : ruleM m ⟨3, d, fb, fa, tb, ta, car, rk⟩ ⟨nk, nd, nfb, nfa, ntb, nta, nc, nr⟩ = 0 := by unfold ruleM; rw [if_neg (by show ¬ (3 : Int) = 7; decide), if_pos rfl, if_neg (by simp [hA])]
        rw [this]
        exact rule_miss_a w h hi bo oi bn on d fb fa tb ta car rk nk nd nfb nfa ntb nta nc nr hO hN hfa hy hd hA
      | true =>
        have e0 : ruleM m ⟨3, d, fb, fa, tb, ta, car, rk⟩ ⟨nk, nd, nfb, nfa, ntb, nta, nc, nr⟩ = if yarnB nk = true ∧ nc = car ∧ nd = d ∧ 0 < (placeM nfb nfa m.rack - placeM fb fa m.rack) * d then 3 else 0 := rfl
        rw [e0]
        by_cases hB : nc = car
        · by_cases hC : nd = d
          · by_cases hD : 0 < (placeM nfb nfa m.rack - placeM fb fa m.rack) * d
            · rw [if_pos ⟨hA, hB, hC, hD⟩]
              exact rule_miss w h hi bo oi bn on d fb fa tb ta car rk nk nd nfb nfa ntb nta nc nr hO hN hfa hy hd hA hB hC hD
            · rw [if_neg (fun h => hD h.2.2.2)]
              exact rule_miss_d w h hi bo oi bn on d fb fa tb ta car rk nk nd nfb nfa ntb nta nc nr hO hN hfa hy hd hA hB hC hD
          · rw [if_neg (fun h => hC h.2.2.1)]
            exact rule_miss_c w h hi bo oi bn on d fb fa tb ta car rk nk nd nfb nfa ntb nta nc nr hO hN hfa hy hd hA hB hC
        · rw [if_neg (fun h => hB h.2.1)]
          exact rule_miss_b w h hi bo oi bn on d fb fa tb ta car rk nk nd nfb nfa ntb nta nc nr hO hN hfa hy hd hA hB
  · have hnt : okN m tb ta := ⟨hn2.1, hn2.2.1, htw⟩
    have e0 : ruleM m ⟨4, d, fb, fa, tb, ta, car, rk⟩ ⟨nk, nd, nfb, nfa, ntb, nta, nc, nr⟩ = if (onM m tb ta).length = 0 ∧ nk = 4 ∧ nfb = tb ∧ nfa = ta ∧ ntb = fb ∧ nta = fa then 4 else 0 := rfl
    rw [e0]
    by_cases hq : (onM m tb ta).length = 0
    · by_cases hA : nk = 4
      · by_cases hB : nfb = tb
        · by_cases hC : nfa = ta
          · by_cases hD : ntb = fb
            · by_cases hE : nta = fa
              · rw [if_pos ⟨hq, hA, hB, hC, hD, hE⟩]
                exact rule_xfer w h hi bo oi bn on d fb fa tb ta car rk nk nd nfb nfa ntb nta nc nr hO hN hnt hq hA hB hC hD hE
              · rw [if_neg (fun h => hE h.2.2.2.2.2)]
                exact rule_xfer_f w h hi bo oi bn on d fb fa tb ta car rk nk nd nfb nfa ntb nta nc nr hO hN hnt hq hA hB hC hD hE
            · rw [if_neg (fun h => hD h.2.2.2.2.1)]
              exact rule_xfer_e w h hi bo oi bn on d fb fa tb ta car rk nk nd nfb nfa ntb nta nc nr hO hN hnt hq hA hB hC hD
          · rw [if_neg (fun h => hC h.2.2.2.1)]
            exact rule_xfer_d w h hi bo oi bn on d fb fa tb ta car rk nk nd nfb nfa ntb nta nc nr hO hN hnt hq hA hB hC
        · rw [if_neg (fun h => hB h.2.2.1)]
          exact rule_xfer_c w h hi bo oi bn on d fb fa tb ta car rk nk nd nfb nfa ntb nta nc nr hO hN hnt hq hA hB
      · rw [if_neg (fun h => hA h.2.1)]
        exact rule_xfer_b w h hi bo oi bn on d fb fa tb ta car rk nk nd nfb nfa ntb nta nc nr hO hN hnt hq hA
    · rw [if_neg (fun h => hq h.1)]
      exact rule_xfer_a w h hi bo oi bn on d fb fa tb ta car rk nk nd nfb nfa ntb nta nc nr hO hN hnt hq
  · exact rule_none5 w h hi bo oi bn on d fb fa tb ta car rk nk nd nfb nfa ntb nta nc nr hO hN
  · exact rule_none6 w h hi bo oi bn on d fb fa tb ta car rk nk nd nfb nfa ntb nta nc nr hO hN
  · have e0 : ruleM m ⟨7, d, fb, fa, tb, ta, car, rk⟩ ⟨nk, nd, nfb, nfa, ntb, nta, nc, nr⟩ = if rk = m.rack then 1 else if nk = 7 then 2 else 0 := rfl
    rw [e0]
    by_cases ht : rk = m.rack
    · rw [if_pos ht]
      exact rule_rack1 w h hi bo oi bn on d fb fa tb ta car rk nk nd nfb nfa ntb nta nc nr hO hN ht
    · rw [if_neg ht]
      by_cases hn : nk = 7
      · rw [if_pos hn]
        exact rule_rack2 w h hi bo oi bn on d fb fa tb ta car rk nk nd nfb nfa ntb nta nc nr hO hN ht hn
      · rw [if_neg hn]
        exact rule_rack0 w h hi bo oi bn on d fb fa tb ta car rk nk nd nfb nfa ntb nta nc nr hO hN ht hn
  · have e0 : ruleM m ⟨8, d, fb, fa, tb, ta, car, rk⟩ ⟨nk, nd, nfb, nfa, ntb, nta, nc, nr⟩ = if nk = 9 ∧ nc = car then 5 else 0 := rfl
    rw [e0]
    by_cases hA : nk = 9
    · by_cases hB : nc = car
      · rw [if_pos ⟨hA, hB⟩]
        exact rule_in w h hi bo oi bn on d fb fa tb ta car rk nk nd nfb nfa ntb nta nc nr hO hN hA hB
      · rw [if_neg (fun h => hB h.2)]
        exact rule_in_b w h hi bo oi bn on d fb fa tb ta car rk nk nd nfb nfa ntb nta nc nr hO hN hA hB
    · rw [if_neg (fun h => hA h.1)]
      exact rule_in_a w h hi bo oi bn on d fb fa tb ta car rk nk nd nfb nfa ntb nta nc nr hO hN hA
  · exact rule_none9 w h hi bo oi bn on d fb fa tb ta car rk nk nd nfb nfa ntb nta nc nr hO hN
/-- operations that are valid for a width -/
def okOpB (w : Int) (x : OpM) : Bool := validB x && (decide (x.fa < w) && decide (x.ta < w))
def okOpsB (w : Int) (ops : List OpM) : Bool := ops.all (okOpB w) && (inB w 1 24 && decide (ops.length ≤ 1500))
theorem okOpB_iff {w : Int} {x : OpM} : okOpB w x = true ↔ okOp w x := by
  unfold okOpB okOp
  simp [Bool.and_eq_true, decide_eq_true_eq]
theorem okOpsB_of {w : Int} {ops : List OpM} (h : okOpsB w ops = true) : (∀ x ∈ ops, okOp w x) ∧ (1 ≤ w ∧ w ≤ 24) ∧ ops.length ≤ 1500 := by
  unfold okOpsB inB at h
  simp only [Bool.and_eq_true, decide_eq_true_eq, List.all_eq_true] at h
  exact ⟨fun x hx => okOpB_iff.1 (h.1 x hx), h.2.1, h.2.2⟩
theorem OpAt.opC {w : World} {b o : Nat} {x : OpM} (h : OpAt w b o x) : OpC w b o x := by
  obtain ⟨_, h0, h1, h2, h3, h4, h5, h6, h7⟩ := h
  exact ⟨h0, h1, h2, h3, h4, h5, h6, h7⟩
theorem fits_no1 (w : World) (b i : Nat) (x : OpM) (n : Int) (h : OpC w b i x) (h1 : ¬ x.fa < n) : Calls Tryz.prog 42 #[.pointer (some ⟨b, i, none⟩), .int .i64 n] w fun e w' => e = .returned (.bool false) ∧ w = w' := by
  obtain ⟨k, d, fb, fa, tb, ta, car, rk⟩ := x
  have o3 : w.cell? ⟨b, i + 2 + 1, none⟩ = _ := h.c3
  have o5 : w.cell? ⟨b, i + 4 + 1, none⟩ = _ := h.c5
  dsimp only at o3 o5 h1
  have t1 : decide (fa < n) = false := decide_eq_false h1
  clear h
  go_enter Tryz.func42, Tryz.ntmps42
  go_wp2
  go_ret
  exact ⟨rfl, rfl⟩
theorem fits_no2 (w : World) (b i : Nat) (x : OpM) (n : Int) (h : OpC w b i x) (h1 : x.fa < n) (h2 : ¬ x.ta < n) : Calls Tryz.prog 42 #[.pointer (some ⟨b, i, none⟩), .int .i64 n] w fun e w' => e = .returned (.bool false) ∧ w = w' := by
  obtain ⟨k, d, fb, fa, tb, ta, car, rk⟩ := x
  have o3 : w.cell? ⟨b, i + 2 + 1, none⟩ = _ := h.c3
  have o5 : w.cell? ⟨b, i + 4 + 1, none⟩ = _ := h.c5
  dsimp only at o3 o5 h1 h2
  have t1 : decide (fa < n) = true := decide_eq_true h1
  have t2 : decide (ta < n) = false := decide_eq_false h2
  clear h
  go_enter Tryz.func42, Tryz.ntmps42
  go_wp2
  go_ret
  exact ⟨rfl, rfl⟩
theorem fits_yes (w : World) (b i : Nat) (x : OpM) (n : Int) (h : OpC w b i x) (h1 : x.fa < n) (h2 : x.ta < n) : Calls Tryz.prog 42 #[.pointer (some ⟨b, i, none⟩), .int .i64 n] w fun e w' => e = .returned (.bool true) ∧ w = w' := by
  obtain ⟨k, d, fb, fa, tb, ta, car, rk⟩ := x
  have o3 : w.cell? ⟨b, i + 2 + 1, none⟩ = _ := h.c3
  have o5 : w.cell? ⟨b, i + 4 + 1, none⟩ = _ := h.c5
  dsimp only at o3 o5 h1 h2
  have t1 : decide (fa < n) = true := decide_eq_true h1
  have t2 : decide (ta < n) = true := decide_eq_true h2
  clear h
  go_enter Tryz.func42, Tryz.ntmps42
  go_wp2
  go_ret
  exact ⟨rfl, rfl⟩
theorem l07Fits_any (w : World) (b i : Nat) (x : OpM) (n : Int) (h : OpC w b i x) : Calls Tryz.prog 42 #[.pointer (some ⟨b, i, none⟩), .int .i64 n] w fun e w' => e = .returned (.bool (decide (x.fa < n) && decide (x.ta < n))) ∧ w = w' := by
  by_cases h1 : x.fa < n
  · by_cases h2 : x.ta < n
    · rw [decide_eq_true h1, decide_eq_true h2]; exact fits_yes w b i x n h h1 h2
    · rw [decide_eq_true h1, decide_eq_false h2]; exact fits_no2 w b i x n h h1 h2
  · rw [decide_eq_false h1]; exact fits_no1 w b i x n h h1
theorem ops_no {n : Int} {xs : List OpM} {j : Nat} (h : j < xs.length) (hn : okOpB n xs[j] = false) : okOpsB n xs = false := by
  unfold okOpsB
  have : xs.all (okOpB n) = false := by
    rw [List.all_eq_false]
    exact ⟨xs[j], List.getElem_mem h, by rw [hn]; simp⟩
  rw [this]; rfl
theorem ops_take {n : Int} {xs : List OpM} {j : Nat} (h : j < xs.length) (ha : (xs.take j).all (okOpB n) = true) (hn : okOpB n xs[j] = true) : (xs.take (j + 1)).all (okOpB n) = true := by
  rw [List.take_succ_eq_append_getElem h, List.all_append, ha]
  simp [hn]
theorem l07Op_v (w : World) (b o : Nat) (x : OpM) (h : OpAt w b o x) {v : Bool} (hv : validB x = v) :
    Calls Tryz.prog 41 #[.pointer (some ⟨b, o, none⟩)] w fun e w' => e = .returned (.bool v) ∧ Up w w' := hv ▸ l07Op_any w b o x h
theorem l07Fits_v (w : World) (b i : Nat) (x : OpM) (n : Int) (h : OpC w b i x) {v : Bool} (hv : (decide (x.fa < n) && decide (x.ta < n)) = v) : Calls Tryz.prog 42 #[.pointer (some ⟨b, i, none⟩), .int .i64 n] w fun e w' => e = .returned (.bool v) ∧ w = w' := hv ▸ l07Fits_any w b i x n h
theorem l07Ops_any (w : World) (S : Nat → Prop) (v : Value) (xs : List OpM) (h : Ops w S v xs) (n : Int) :
    Calls Tryz.prog 28 #[.int .i64 n, v] w fun e w' => e = .returned (.bool (okOpsB n xs)) ∧ Up w w' := by
  obtain ⟨A, c, rfl, hlc, hcm, -⟩ := h.1.shape
  have H := Lib.hid h
  clear h
  go_enter Tryz.func28, Tryz.ntmps28
  go_wp2
  go_loopw [5] (fun i wr => ∃ j : Nat, j ≤ xs.length ∧ i = .int .i64 j ∧ Hid (Up w wr) ∧ Hid ((xs.take j).all (okOpB n) = true)) (fun i _ => xs.length - (intOf i).toNat)
  case atStart => exact ⟨0, by omega, rfl, Chg.refl _ _, rfl⟩
  case round =>
    obtain ⟨j, hj, rfl, hg, hva⟩ := hrel
    by_cases hlt : j < xs.length
    · obtain ⟨b, o, c', he, hS, hat⟩ := (Ops.up H.out hg.out).opAt hlt
      obtain ⟨rfl, rfl⟩ : A = some ⟨b, o, none⟩ ∧ c = c' := by simpa using he
      have HA := Lib.hid hat
      clear hat he
      cases hv1 : validB xs[j] with
      | false =>
        have HO := Lib.hid (ops_no hlt (by unfold okOpB; rw [hv1]; rfl) : okOpsB n xs = false)
        go_wp2_with fail
        refine (l07Op_v _ _ _ xs[j] HA.out hv1).mono ?_
        rintro e w2 ⟨rfl, g2⟩
        have G2 := Lib.hid (Chg.trans hg.out g2 : Up w w2)
        have HF := Lib.hid (HA.out.up g2).opC
        clear g2
        go_wp2
        go_ret
        exact ⟨ret_bool HO.out.symm, G2.out⟩
      | true =>
        cases hv2 : (decide (xs[j].fa < n) && decide (xs[j].ta < n)) with
        | false =>
          have HO := Lib.hid (ops_no hlt (by unfold okOpB; rw [hv1, hv2]; rfl) : okOpsB n xs = false)
          go_wp2_with fail
          refine (l07Op_v _ _ _ xs[j] HA.out hv1).mono ?_
          rintro e w2 ⟨rfl, g2⟩
          have G2 := Lib.hid (Chg.trans hg.out g2 : Up w w2)
          have HF := Lib.hid (HA.out.up g2).opC
          clear g2
          go_wp2_with fail
          refine (l07Fits_v _ _ _ xs[j] n HF.out hv2).mono ?_
          rintro e w' ⟨rfl, rfl⟩
          go_wp2
          go_ret
          exact ⟨ret_bool HO.out.symm, G2.out⟩
        | true =>
          have HT := Lib.hid (ops_take hlt hva.out (by unfold okOpB; rw [hv1, hv2]; rfl) : (xs.take (j + 1)).all (okOpB n) = true)
          go_wp2_with fail
          refine (l07Op_v _ _ _ xs[j] HA.out hv1).mono ?_
          rintro e w2 ⟨rfl, g2⟩
          have G2 := Lib.hid (Chg.trans hg.out g2 : Up w w2)
          have HF := Lib.hid (HA.out.up g2).opC
          clear g2
          go_wp2_with fail
          refine (l07Fits_v _ _ _ xs[j] n HF.out hv2).mono ?_
          rintro e w' ⟨rfl, rfl⟩
          go_wp2
          go_roundw
          case rel => exact ⟨j + 1, by omega, by go_num, G2.out, HT.out⟩
          case measure => first | (simp [intOf]; done) | (simp [intOf]; omega)
    · obtain rfl : j = xs.length := by omega
      have hall : xs.all (okOpB n) = true := by have := hva.out; rwa [List.take_length] at this
      have HO := Lib.hid (show okOpsB n xs = (inB n 1 24 && decide (xs.length ≤ 1500)) by unfold okOpsB; rw [hall]; rfl)
      clear hall hva
      go_wp2_with fail
      refine (l00In_any _ _ _ _).mono ?_
      rintro e w' ⟨rfl, rfl⟩
      cases hb : inB n 1 24 with
      | false =>
        rw [hb] at HO
        go_wp2
        go_ret
        exact ⟨ret_bool HO.out.symm, hg.out⟩
      | true =>
        rw [hb] at HO
        go_wp2
        go_ret
        exact ⟨ret_bool (by rw [HO.out, Bool.true_and]; exact decide_eq_decide.2 (by omega)), hg.out⟩
end Go.Proofs.YtiiodfcbpmkodaaGreat
namespace Go.Proofs.YtiiodfcbpmkodaaGreat
open Go.ChangeShapes Go.WideShapes Go.ChangeAt Go.RowKit
attribute [local go_sem ↓] Go.wp_at_zero Go.wp_at_succ
/-- the code of a program for a width, and its rules -/
def optCode (n : Int) (xs : List OpM) : Int := if okOpsB n xs = true then runM (newM n) xs else 1
def rulesOut (n : Int) (xs : List OpM) : List Int := if optCode n xs = 0 then rulesM (newM n) xs else []
theorem machV_shape {w : World} {S : Nat → Prop} {K : Nat} {m : MachM} {F B C L D : Value} {fs bs : List Value} (h : MachV w S K m F B C L D fs bs) : (∃ A c, F = .slice A fs.length c) ∧ (∃ A c, B = .slice A bs.length c) ∧ (∃ A c, C = .slice A m.cs.length c) := by
  obtain ⟨A1, d1, h1, -⟩ := ownsRow_shape h.f
  obtain ⟨A2, d2, h2, -⟩ := ownsRow_shape h.b
  obtain ⟨A3, d3, h3, -⟩ := ownsRow_shape h.c
  exact ⟨⟨_, _, h1⟩, ⟨_, _, h2⟩, ⟨_, _, h3⟩⟩
theorem rulesM_get (m : MachM) (xs : List OpM) (j : Nat) (h : j < xs.length) : (rulesM m xs).take (j + 1) = (rulesM m xs).take j ++ [ruleM (stM m xs j) (xs.getD j opZ) (xs.getD (j + 1) opZ)] := rules_take m xs j h
/-- a number is appended beside a machine: the machine is told in fewer blocks -/
theorem Mach.beside {w w1 : World} {S : Nat → Prop} {K p : Nat} {m : MachM} {v : Value} (h : Mach w S K p m) (hv : ∀ b, v.ownBlock = some b → ¬ S b) (k : Chg (fun b => v.ownBlock = some b) w w1) : Mach w1 (fun b => (S b ∧ b < w.heap.size) ∨ w1.heap.size ≤ b) K p m :=
  (h.mono (T := fun b => (S b ∧ b < w.heap.size) ∨ w1.heap.size ≤ b) fun b h1 h2 => .inl ⟨h2, h1⟩).keep k fun b h1 h2 h3 => h2.elim (fun h => hv b h3 h.1) (fun h => by have := k.size; omega)
theorem fa_ok {n : Int} {x : OpM} (h : okOp n x) : 0 ≤ x.fa ∧ x.fa ≤ 1000 := by
  rcases valid_cases h.1 with ⟨_, _, hn, _⟩ | ⟨_, hn, _⟩ | ⟨_, hn, _⟩ | ⟨_, hn, _⟩ | ⟨_, _, _, _, hf, _⟩ | ⟨_, _, _, _, hf, _⟩ | ⟨_, _, _, _, hf, _⟩ <;> omega
theorem rule_i64 (m : MachM) (x y : OpM) : I64 (ruleM m x y) := by
  unfold ruleM I64
  repeat' split
  all_goals omega
theorem l25Rules_any (w : World) (S : Nat → Prop) (v : Value) (xs : List OpM) (h : Ops w S v xs) (n : Int) :
    Calls Tryz.prog 19 #[.int .i64 n, v] w fun e w' => ∃ v', e = .returned (.tuple #[v', .int .i64 (optCode n xs)]) ∧ Ints w' (New w.heap.size w'.heap.size) v' (rulesOut n xs) ∧ Up w w' := by
  obtain ⟨A, c, rfl, hlc, hcm, -⟩ := h.1.shape
  have H := Lib.hid h
  clear h
  go_enter Tryz.func19, Tryz.ntmps19
  go_wp2_with fail
  refine (l07Ops_any _ S _ xs H.out n).mono ?_
  rintro e w1 ⟨rfl, g1⟩
  have G1 := Lib.hid g1
  have HV1 := Lib.hid (H.out.up g1)
  clear g1
  cases hok : okOpsB n xs with
  | false =>
    have HC := Lib.hid (show optCode n xs = 1 by unfold optCode; rw [hok]; rfl)
    have HR := Lib.hid (show rulesOut n xs = [] by unfold rulesOut; rw [HC.out]; rfl)
    go_wp2
    go_ret2
    exact ⟨.slice none 0 0, by rw [HC.out]; rfl, by rw [HR.out]; exact Ints.nil _ _ 0 none (by omega), G1.out⟩
  | true =>
    obtain ⟨hall, hn, hlen⟩ := okOpsB_of hok
    obtain ⟨nn, rfl⟩ : ∃ nn : Nat, n = nn := ⟨n.toNat, by omega⟩
    have HC := Lib.hid (show optCode nn xs = runM (newM nn) xs by unfold optCode; rw [hok]; rfl)
    have HAL := Lib.hid hall
    have HI0 := Lib.hid (newM_inv hn)
    clear hall hok
    go_wp2_with fail
    refine (l07New_any _ nn ⟨by omega, by omega⟩).mono ?_
    rintro e w2 ⟨F, B, C, fs, bs, rfl, mv, g2⟩
    obtain ⟨⟨A1, d1, rfl⟩, ⟨A2, d2, rfl⟩, ⟨A3, d3, rfl⟩⟩ := machV_shape mv
    have MV := Lib.hid mv
    have G2 := Lib.hid (Chg.trans G1.out g2)
    have hz1 := G1.out.size
    have hz2 := G2.out.size
    clear mv g2
    unfold machVal
    go_wp2
    go_loopw [7, 8] (fun v i wr => ∃ j : Nat, j ≤ xs.length ∧ i = .int .i64 j ∧ Hid (OwnI wr w.heap.size v ((rulesM (newM nn) xs).take j)) ∧ Hid (∃ S : Nat → Prop, Mach wr S (4 * j) w2.heap.size (stM (newM nn) xs j) ∧ NewIn S wr ∧ (∀ b, S b → w.heap.size ≤ b) ∧ (∀ b, v.ownBlock = some b → ¬ S b)) ∧ Hid (Up w wr) ∧ Hid (okTo (newM nn) xs j)) (fun _ i _ => xs.length - (intOf i).toNat)
    case atStart =>
      have hx := ((MV.out.mono (T := fun b => w.heap.size ≤ b) (fun b _ h => by have h : w1.heap.size < b := h; omega)).box (fun b hb => by show w.heap.size ≤ b; omega) 60)
      have hx2 := (hx.mono (T := (fun b => (w.heap.size ≤ b ∧ b ≤ w2.heap.size) ∨ w2.heap.size + 2 ≤ b)) (fun b h1 h2 => by simp at h1; have h2 : w.heap.size ≤ b := h2; show (w.heap.size ≤ b ∧ b ≤ w2.heap.size) ∨ w2.heap.size + 2 ≤ b; omega)).up ((Chg.refl Nowhere _).alloc (.cells #[] 2))
      have HO0 := OwnI.lower (b2 := w.heap.size) (OwnI.made (w2.alloc (.cells #[.int .i64 (newM nn).wd, .int .i64 (newM nn).rack, .slice A1 fs.length d1, .slice A2 bs.length d2, .slice A3 (newM nn).cs.length d3, .slice none 0 0, .slice none 0 0] 60)) _ (Nat.le_refl _)) (by simp; omega)
      rw [show (w2.alloc (.cells #[.int .i64 (newM nn).wd, .int .i64 (newM nn).rack, .slice A1 fs.length d1, .slice A2 bs.length d2, .slice A3 (newM nn).cs.length d3, .slice none 0 0, .slice none 0 0] 60)).heap.size = w2.heap.size + 1 by simp] at HO0
      refine ⟨0, by omega, rfl, HO0, ⟨(fun b => (w.heap.size ≤ b ∧ b ≤ w2.heap.size) ∨ w2.heap.size + 2 ≤ b), by rw [stM_zero]; exact hx2.mach, fun b hb => ?_, fun b hb => ?_, fun b hb => ?_⟩, ((G2.out.alloc _).alloc _), okTo_zero _ _⟩
      · simp at hb; show (w.heap.size ≤ b ∧ b ≤ w2.heap.size) ∨ w2.heap.size + 2 ≤ b; omega
      · have hb : (w.heap.size ≤ b ∧ b ≤ w2.heap.size) ∨ w2.heap.size + 2 ≤ b := hb; omega
      · simp [Value.ownBlock] at hb; show ¬ ((w.heap.size ≤ b ∧ b ≤ w2.heap.size) ∨ w2.heap.size + 2 ≤ b); omega
    case round =>
      obtain ⟨j, hj, rfl, ho, hm, hg, hk⟩ := hrel
      obtain ⟨S1, hM, hN, hSw, hSo⟩ := hm.out
      clear hm
      by_cases hlt : j < xs.length
      rotate_left
      · obtain rfl : j = xs.length := by omega
        have HR := Lib.hid (run_good _ _ hk.out)
        have HC2 := Lib.hid (HC.out.trans HR.out)
        have HO := Lib.hid (show rulesOut nn xs = (rulesM (newM nn) xs).take xs.length by unfold rulesOut; rw [HC2.out, rules_all]; rfl)
        go_wp2
        go_ret2
        exact ⟨_, by rw [HC2.out]; rfl, by rw [HO.out]; exact ho.out.rd.mono fun b _ h => h.2, hg.out⟩
      obtain ⟨b0, o0, c0, he0, hS0, hat0⟩ := H.out.opAt hlt
      obtain ⟨rfl, rfl⟩ : A = some ⟨b0, o0, none⟩ ∧ c = c0 := by simpa using he0
      have hb0 : b0 < w.heap.size := hat0.1
      have HA := Lib.hid hat0
      clear hat0 he0
      have HX : Hid (okOp nn xs[j]) := Lib.hid (HAL.out _ (List.getElem_mem hlt))
      have hgd : xs.getD j opZ = xs[j] := by rw [List.getD_eq_getElem?_getD, List.getElem?_eq_getElem hlt]; rfl
      have HGD := Lib.hid hgd
      have HIj : Hid (MInv (stM (newM nn) xs j)) := Lib.hid (HI0.out.st (by exact HAL.out) j (by omega) hk.out)
      have HWD : Hid ((stM (newM nn) xs j).wd = nn) := Lib.hid (stM_wd _ _ _)
      have HM := Lib.hid hM
      have HN := Lib.hid hN
      have HSW := Lib.hid hSw
      have HSO := Lib.hid hSo
      clear hgd hM hN hSw hSo
      obtain ⟨j1, HJ1⟩ : ∃ j1 : Nat, Hid (j1 = j + 1) := ⟨_, rfl⟩
      have y1 : IntKind.i64.wrap ((j : Int) + 1) = (j1 : Int) := (IntWalk.i64_in _ (by omega)).trans (by have := HJ1.out; omega)
      obtain ⟨L, HL⟩ : ∃ L : List Int, Hid (L = (rulesM (newM nn) xs).take j) := ⟨_, Lib.hid rfl⟩
      rw [← HL.out] at ho
      have hLl : L.length ≤ 1500 := by rw [HL.out, List.length_take]; omega
      obtain ⟨Ao, co, rfl, -⟩ := ho.out.ints.shape
      by_cases hl2 : j1 < xs.length
      · have t1 : decide ((j1 : Int) < (xs.length : Int)) = true := decide_eq_true (by omega)
        obtain ⟨b9, o9, c9, he9, hS9, hat9⟩ := (Ops.up H.out hg.out).opAt hl2
        obtain ⟨rfl, rfl, rfl⟩ : b0 = b9 ∧ o0 = o9 ∧ c = c9 := by (simp at he9; omega)
        have hop := (hat9.up ((Chg.refl Nowhere wr).alloc (.cells #[.int .i64 0, .int .i64 0, .int .i64 0, .int .i64 0, .int .i64 0, .int .i64 0, .int .i64 0, .int .i64 0] 44))).opC
        have hyb0 : 0 ≤ (xs[j1]).fa ∧ (xs[j1]).fa ≤ 1000 := fa_ok (HAL.out _ (List.getElem_mem hl2))
        have hye0 : xs.getD (j + 1) opZ = xs[j1] := by rw [← HJ1.out, List.getD_eq_getElem?_getD, List.getElem?_eq_getElem hl2]; rfl
        generalize xs[j1] = y at hop hyb0 hye0
        obtain ⟨nk, nd, nfb, nfa, ntb, nta, nc, nr⟩ := y
        have HYB := Lib.hid hyb0
        have HYE := Lib.hid hye0
        clear hat9 he9 hyb0 hye0
        have e0 := hop.c0
        have e1 := hop.c1
        have e2 := hop.c2
        have e3 := hop.c3
        have e4 := hop.c4
        have e5 := hop.c5
        have e6 := hop.c6
        have e7 := hop.c7
        dsimp only at e0 e1 e2 e3 e4 e5 e6 e7
        clear hop
        go_wp2_with fail
        clear e0 e1 e2 e3 e4 e5 e6 e7
        have upY : Up wr (wr.alloc (.cells #[.int .i64 nk, .int .i64 nd, .int .i64 nfb, .int .i64 nfa, .int .i64 ntb, .int .i64 nta, .int .i64 nc, .int .i64 nr] 44)) := (Chg.refl Nowhere wr).alloc _
        obtain ⟨F1, B1, C1, L1, D1, fs1, bs1, hx1⟩ := HM.out
        have HXY := Lib.hid (hx1.up upY)
        have HAY := Lib.hid ((HA.out.up hg.out).up upY).opC
        have HNY : Hid (OpC (wr.alloc (.cells #[.int .i64 nk, .int .i64 nd, .int .i64 nfb, .int .i64 nfa, .int .i64 ntb, .int .i64 nta, .int .i64 nc, .int .i64 nr] 44)) wr.heap.size 0 ⟨nk, nd, nfb, nfa, ntb, nta, nc, nr⟩) := Lib.hid ⟨cell_new _ _ _ _, cell_new _ _ _ _, cell_new _ _ _ _, cell_new _ _ _ _, cell_new _ _ _ _, cell_new _ _ _ _, cell_new _ _ _ _, cell_new _ _ _ _⟩
        clear hx1 upY
        have hxw : okOp (stM (newM nn) xs j).wd xs[j] := by rw [HWD.out]; exact HX.out
        refine (rule_any _ HXY.out HIj.out b0 (o0 + j * 8) wr.heap.size 0 xs[j] ⟨nk, nd, nfb, nfa, ntb, nta, nc, nr⟩ hxw HYB.out HAY.out HNY.out).mono ?_
        rintro e w3 ⟨rfl, g3⟩
        obtain ⟨r, HRE⟩ : ∃ r, Hid (ruleM (stM (newM nn) xs j) xs[j] ⟨nk, nd, nfb, nfa, ntb, nta, nc, nr⟩ = r) := ⟨_, Lib.hid rfl⟩
        rw [HRE.out]
        have HRI : Hid (I64 r) := Lib.hid (by rw [← HRE.out]; exact rule_i64 _ _ _)
        have GY := Lib.hid (Chg.trans ((Chg.refl Nowhere wr).alloc _) g3 : Up wr w3)
        have hzy := GY.out.size
        have hzw := hg.out.size
        have HO3 := Lib.hid (ho.out.up GY.out)
        have HM3 := Lib.hid (HM.out.up GY.out)
        clear g3
        go_wp2_with (first | (at_builtin; refine wp_append_int2 rfl _ _ rfl w.heap.size _ L rfl (HO3.out.up ((Chg.refl Nowhere w3).alloc _)) _ r rfl (cell_new _ _ _ _) HRI.out (by omega) ?_ ?_; (simp; omega); intro v' w4 ho1 hg1 hb1 hg2; generalize he1 : (L ++ [r]) = L2 at ho1; have HL2 : Hid (L2 = L ++ [r]) := Lib.hid he1.symm; clear he1; obtain ⟨Ap, cp, rfl, -⟩ := ho1.ints.shape; have HO4 := Lib.hid ho1; have HM4 := Lib.hid (Mach.beside (HM3.out.up ((Chg.refl Nowhere w3).alloc _)) (fun b hb => HSO.out b hb) hg1); have HB4 := Lib.hid hb1; have GN := Lib.hid hg2; have hz4 := GN.out.size; clear ho1 hg1 hb1 hg2))
        have hza : (w3.alloc (.cells #[.int .i64 r] 2)).heap.size = w3.heap.size + 1 := by simp
        have U4 := Lib.hid (Chg.new (Chg.trans (Chg.trans hg.out GY.out) ((Chg.refl Nowhere w3).alloc _)) GN.out (fun i hi => Nat.not_le.2 hi) : Up w w4)
        have hz5 := U4.out.size
        have hT : ∀ b, (fun b => (S1 b ∧ b < (w3.alloc (.cells #[.int .i64 r] 2)).heap.size) ∨ w4.heap.size ≤ b) b → w.heap.size ≤ b := fun b hb => hb.elim (fun h => HSW.out b h.1) (fun h => by omega)
        have hbT : ¬ (fun b => (S1 b ∧ b < (w3.alloc (.cells #[.int .i64 r] 2)).heap.size) ∨ w4.heap.size ≤ b) b0 := fun h => by have := hT b0 h; omega
        have hNT : NewIn (fun b => (S1 b ∧ b < (w3.alloc (.cells #[.int .i64 r] 2)).heap.size) ∨ w4.heap.size ≤ b) w4 := fun b hb => .inr hb
        have hoT : ∀ b, (Value.slice Ap L2.length cp).ownBlock = some b → ¬ (fun b => (S1 b ∧ b < (w3.alloc (.cells #[.int .i64 r] 2)).heap.size) ∨ w4.heap.size ≤ b) b := fun b hb ht => by
          have h1 := (HO4.out.1.lt b hb).2
          rcases HB4.out b hb with h2 | h2
          · rcases ht with h3 | h3
            · exact HSO.out b h2 h3.1
            · omega
          · rcases ht with h3 | h3
            · omega
            · omega
        have HT := Lib.hid hT
        have HOT := Lib.hid hoT
        have HA4 := Lib.hid (HA.out.up U4.out).opC
        clear hT hoT hza
        refine (do_any _ HM4.out hNT HIj.out b0 (o0 + j * 8) xs[j] hxw HA4.out hbT (by omega)).mono ?_
        rintro e w5 ⟨rfl, x5, g5⟩
        have U5 := Lib.hid (Chg.new U4.out g5 (fun i hi h => by have := HT.out i h; omega) : Up w w5)
        obtain ⟨cd, HCD⟩ : ∃ cd, Hid (codeM (stM (newM nn) xs j) xs[j] = cd) := ⟨_, Lib.hid rfl⟩
        rw [HCD.out] at x5
        rw [HCD.out]
        by_cases hcd : cd = 0
        rotate_left
        · have t2 : (cd == 0) = false := by simpa using hcd
          have t3 : (cd != 0) = true := by simpa using hcd
          have HRB := Lib.hid (run_bad (newM nn) xs j hlt hk.out (by rw [HGD.out, HCD.out]; exact hcd))
          have HC2 := Lib.hid (show optCode nn xs = cd by rw [HC.out, HRB.out, HGD.out, HCD.out])
          have HRO := Lib.hid (show rulesOut nn xs = [] by unfold rulesOut; rw [HC2.out, if_neg hcd])
          clear x5 g5
          go_wp2
          go_ret2
          exact ⟨.slice none 0 0, by rw [HC2.out]; rfl, by rw [HRO.out]; exact Ints.nil _ _ 0 none (by omega), U5.out⟩
        subst hcd
        have M5 := Lib.hid (x5 rfl)
        have HO5 := Lib.hid (HO4.out.kept g5 HOT.out)
        have HN5 : Hid (NewIn (fun b => (S1 b ∧ b < (w3.alloc (.cells #[.int .i64 r] 2)).heap.size) ∨ w4.heap.size ≤ b) w5) := Lib.hid (hNT.up g5)
        clear x5 g5
        have HST : Hid (stM (newM nn) xs (j + 1) = execM (stM (newM nn) xs j) xs[j]) := Lib.hid (by rw [stM_succ _ _ _ hlt, HGD.out])
        have HTK : Hid ((rulesM (newM nn) xs).take (j + 1) = L2) := Lib.hid (by rw [rulesM_get _ _ _ hlt, HGD.out, HYE.out, HRE.out, HL2.out, HL.out])
        have HOK := Lib.hid (okTo_succ hk.out (by rw [HGD.out]; exact HCD.out))
        go_wp2
        go_roundw
        case rel => exact ⟨j + 1, by omega, by rw [HJ1.out], by rw [HTK.out]; exact HO5.out, ⟨_, by rw [HST.out, show 4 * (j + 1) = 4 * j + 4 by omega]; exact M5.out, HN5.out, HT.out, HOT.out⟩, U5.out, HOK.out⟩
        case measure => have hjj := HJ1.out; first | (simp [intOf]; done) | (simp [intOf]; omega)
      · have t1 : decide ((j1 : Int) < (xs.length : Int)) = false := decide_eq_false (by omega)
        have HYB : Hid ((0 : Int) ≤ opZ.fa ∧ opZ.fa ≤ 1000) := Lib.hid (by decide)
        have HYE : Hid (xs.getD (j + 1) opZ = ⟨0, 0, 0, 0, 0, 0, 0, 0⟩) := Lib.hid (by rw [← HJ1.out, List.getD_eq_getElem?_getD, List.getElem?_eq_none (by omega)]; rfl)
        go_wp2_with fail
        have upY : Up wr (wr.alloc (.cells #[.int .i64 0, .int .i64 0, .int .i64 0, .int .i64 0, .int .i64 0, .int .i64 0, .int .i64 0, .int .i64 0] 44)) := (Chg.refl Nowhere wr).alloc _
        obtain ⟨F1, B1, C1, L1, D1, fs1, bs1, hx1⟩ := HM.out
        have HXY := Lib.hid (hx1.up upY)
        have HAY := Lib.hid ((HA.out.up hg.out).up upY).opC
        have HNY : Hid (OpC (wr.alloc (.cells #[.int .i64 0, .int .i64 0, .int .i64 0, .int .i64 0, .int .i64 0, .int .i64 0, .int .i64 0, .int .i64 0] 44)) wr.heap.size 0 ⟨0, 0, 0, 0, 0, 0, 0, 0⟩) := Lib.hid ⟨cell_new _ _ _ _, cell_new _ _ _ _, cell_new _ _ _ _, cell_new _ _ _ _, cell_new _ _ _ _, cell_new _ _ _ _, cell_new _ _ _ _, cell_new _ _ _ _⟩
        clear hx1 upY
        have hxw : okOp (stM (newM nn) xs j).wd xs[j] := by rw [HWD.out]; exact HX.out
        refine (rule_any _ HXY.out HIj.out b0 (o0 + j * 8) wr.heap.size 0 xs[j] ⟨0, 0, 0, 0, 0, 0, 0, 0⟩ hxw HYB.out HAY.out HNY.out).mono ?_
        rintro e w3 ⟨rfl, g3⟩
        obtain ⟨r, HRE⟩ : ∃ r, Hid (ruleM (stM (newM nn) xs j) xs[j] ⟨0, 0, 0, 0, 0, 0, 0, 0⟩ = r) := ⟨_, Lib.hid rfl⟩
        rw [HRE.out]
        have HRI : Hid (I64 r) := Lib.hid (by rw [← HRE.out]; exact rule_i64 _ _ _)
        have GY := Lib.hid (Chg.trans ((Chg.refl Nowhere wr).alloc _) g3 : Up wr w3)
        have hzy := GY.out.size
        have hzw := hg.out.size
        have HO3 := Lib.hid (ho.out.up GY.out)
        have HM3 := Lib.hid (HM.out.up GY.out)
        clear g3
        go_wp2_with (first | (at_builtin; refine wp_append_int2 rfl _ _ rfl w.heap.size _ L rfl (HO3.out.up ((Chg.refl Nowhere w3).alloc _)) _ r rfl (cell_new _ _ _ _) HRI.out (by omega) ?_ ?_; (simp; omega); intro v' w4 ho1 hg1 hb1 hg2; generalize he1 : (L ++ [r]) = L2 at ho1; have HL2 : Hid (L2 = L ++ [r]) := Lib.hid he1.symm; clear he1; obtain ⟨Ap, cp, rfl, -⟩ := ho1.ints.shape; have HO4 := Lib.hid ho1; have HM4 := Lib.hid (Mach.beside (HM3.out.up ((Chg.refl Nowhere w3).alloc _)) (fun b hb => HSO.out b hb) hg1); have HB4 := Lib.hid hb1; have GN := Lib.hid hg2; have hz4 := GN.out.size; clear ho1 hg1 hb1 hg2))
        have hza : (w3.alloc (.cells #[.int .i64 r] 2)).heap.size = w3.heap.size + 1 := by simp
        have U4 := Lib.hid (Chg.new (Chg.trans (Chg.trans hg.out GY.out) ((Chg.refl Nowhere w3).alloc _)) GN.out (fun i hi => Nat.not_le.2 hi) : Up w w4)
        have hz5 := U4.out.size
        have hT : ∀ b, (fun b => (S1 b ∧ b < (w3.alloc (.cells #[.int .i64 r] 2)).heap.size) ∨ w4.heap.size ≤ b) b → w.heap.size ≤ b := fun b hb => hb.elim (fun h => HSW.out b h.1) (fun h => by omega)
        have hbT : ¬ (fun b => (S1 b ∧ b < (w3.alloc (.cells #[.int .i64 r] 2)).heap.size) ∨ w4.heap.size ≤ b) b0 := fun h => by have := hT b0 h; omega
        have hNT : NewIn (fun b => (S1 b ∧ b < (w3.alloc (.cells #[.int .i64 r] 2)).heap.size) ∨ w4.heap.size ≤ b) w4 := fun b hb => .inr hb
        have hoT : ∀ b, (Value.slice Ap L2.length cp).ownBlock = some b → ¬ (fun b => (S1 b ∧ b < (w3.alloc (.cells #[.int .i64 r] 2)).heap.size) ∨ w4.heap.size ≤ b) b := fun b hb ht => by
          have h1 := (HO4.out.1.lt b hb).2
          rcases HB4.out b hb with h2 | h2
          · rcases ht with h3 | h3
            · exact HSO.out b h2 h3.1
            · omega
          · rcases ht with h3 | h3
            · omega
            · omega
        have HT := Lib.hid hT
        have HOT := Lib.hid hoT
        have HA4 := Lib.hid (HA.out.up U4.out).opC
        clear hT hoT hza
        refine (do_any _ HM4.out hNT HIj.out b0 (o0 + j * 8) xs[j] hxw HA4.out hbT (by omega)).mono ?_
        rintro e w5 ⟨rfl, x5, g5⟩
        have U5 := Lib.hid (Chg.new U4.out g5 (fun i hi h => by have := HT.out i h; omega) : Up w w5)
        obtain ⟨cd, HCD⟩ : ∃ cd, Hid (codeM (stM (newM nn) xs j) xs[j] = cd) := ⟨_, Lib.hid rfl⟩
        rw [HCD.out] at x5
        rw [HCD.out]
        by_cases hcd : cd = 0
        rotate_left
        · have t2 : (cd == 0) = false := by simpa using hcd
          have t3 : (cd != 0) = true := by simpa using hcd
          have HRB := Lib.hid (run_bad (newM nn) xs j hlt hk.out (by rw [HGD.out, HCD.out]; exact hcd))
          have HC2 := Lib.hid (show optCode nn xs = cd by rw [HC.out, HRB.out, HGD.out, HCD.out])
          have HRO := Lib.hid (show rulesOut nn xs = [] by unfold rulesOut; rw [HC2.out, if_neg hcd])
          clear x5 g5
          go_wp2
          go_ret2
          exact ⟨.slice none 0 0, by rw [HC2.out]; rfl, by rw [HRO.out]; exact Ints.nil _ _ 0 none (by omega), U5.out⟩
        subst hcd
        have M5 := Lib.hid (x5 rfl)
        have HO5 := Lib.hid (HO4.out.kept g5 HOT.out)
        have HN5 : Hid (NewIn (fun b => (S1 b ∧ b < (w3.alloc (.cells #[.int .i64 r] 2)).heap.size) ∨ w4.heap.size ≤ b) w5) := Lib.hid (hNT.up g5)
        clear x5 g5
        have HST : Hid (stM (newM nn) xs (j + 1) = execM (stM (newM nn) xs j) xs[j]) := Lib.hid (by rw [stM_succ _ _ _ hlt, HGD.out])
        have HTK : Hid ((rulesM (newM nn) xs).take (j + 1) = L2) := Lib.hid (by rw [rulesM_get _ _ _ hlt, HGD.out, HYE.out, HRE.out, HL2.out, HL.out])
        have HOK := Lib.hid (okTo_succ hk.out (by rw [HGD.out]; exact HCD.out))
        go_wp2
        go_roundw
        case rel => exact ⟨j + 1, by omega, by rw [HJ1.out], by rw [HTK.out]; exact HO5.out, ⟨_, by rw [HST.out, show 4 * (j + 1) = 4 * j + 4 by omega]; exact M5.out, HN5.out, HT.out, HOT.out⟩, U5.out, HOK.out⟩
        case measure => have hjj := HJ1.out; first | (simp [intOf]; done) | (simp [intOf]; omega)
end Go.Proofs.YtiiodfcbpmkodaaGreat
namespace Go.Proofs.YtiiodfcbpmkodaaGreat
open Go.ChangeShapes Go.WideShapes Go.ChangeAt Go.RowKit
attribute [local go_sem ↓] Go.wp_at_zero Go.wp_at_succ
theorem passKind_any (w : World) (k : Int) : Calls Tryz.prog 86 #[.int .i64 k] w fun e w' => e = .returned (.int .i64 (passM k)) ∧ w = w' := by
  by_cases h1 : k = 1
  · subst h1
    go_enter Tryz.func86, Tryz.ntmps86
    go_wp2
    go_ret
    exact ⟨rfl, rfl⟩
  by_cases h2 : k = 2
  · subst h2
    go_enter Tryz.func86, Tryz.ntmps86
    go_wp2
    go_ret
    exact ⟨rfl, rfl⟩
  by_cases h3 : k = 3
  · subst h3
    go_enter Tryz.func86, Tryz.ntmps86
    go_wp2
    go_ret
    exact ⟨rfl, rfl⟩
  by_cases h5 : k = 5
  · subst h5
    go_enter Tryz.func86, Tryz.ntmps86
    go_wp2
    go_ret
    exact ⟨rfl, rfl⟩
  by_cases h4 : k = 4
  · subst h4
    go_enter Tryz.func86, Tryz.ntmps86
    go_wp2
    go_ret
    exact ⟨rfl, rfl⟩
  by_cases h6 : k = 6
  · subst h6
    go_enter Tryz.func86, Tryz.ntmps86
    go_wp2
    go_ret
    exact ⟨rfl, rfl⟩
  have t1 : (k == 1) = false := by simpa using h1
  have t2 : (k == 2) = false := by simpa using h2
  have t3 : (k == 3) = false := by simpa using h3
  have t5 : (k == 5) = false := by simpa using h5
  have t4 : (k == 4) = false := by simpa using h4
  have t6 : (k == 6) = false := by simpa using h6
  have hp : passM k = 0 := by unfold passM; rw [if_neg (by omega), if_neg h4, if_neg h6]
  rw [hp]
  clear hp h1 h2 h3 h5 h4 h6
  go_enter Tryz.func86, Tryz.ntmps86
  go_wp2
  go_ret
  exact ⟨rfl, rfl⟩
theorem place_x (w : World) (b a r x : Int) (ha : -1000 ≤ a ∧ a ≤ 1000) (hr : -1000 ≤ r ∧ r ≤ 1000) (hx : placeM b a r = x) :
    Calls Tryz.prog 85 #[.agg #[.int .i64 b, .int .i64 a], .int .i64 r] w fun e w' => e = .returned (.int .i64 x) ∧ Up w w' := hx ▸ place_any w b a r ha hr
theorem passKind_v (w : World) (k : Int) {c : Int} (h : passM k = c) : Calls Tryz.prog 86 #[.int .i64 k] w fun e w' => e = .returned (.int .i64 c) ∧ w = w' := h ▸ passKind_any w k
theorem rf_rack1 (w : World) {S : Nat → Prop} {K p : Nat} {m : MachM} {F B C L D : Value} {fs bs : List Value} (h : MachX w S K p m F B C L D fs bs) (hi : MInv m) (d fb fa tb ta car rk nk nd nfb nfa ntb nta nc nr : Int) (ht : rk = m.rack) :
    Calls Tryz.prog 70 #[.pointer (some ⟨p, 0, none⟩), .agg #[.int .i64 7, .int .i64 d, .int .i64 fb, .int .i64 fa, .int .i64 tb, .int .i64 ta, .int .i64 car, .int .i64 rk], .agg #[.int .i64 nk, .int .i64 nd, .int .i64 nfb, .int .i64 nfa, .int .i64 ntb, .int .i64 nta, .int .i64 nc, .int .i64 nr]] w fun e w' => e = .returned (.int .i64 1) ∧ Up w w' := by
  subst ht
  obtain ⟨⟨o0, o1, o2, o3, o4, o5, o6, o7⟩, ⟨n0, n1, n2, n3, n4, n5, n6, n7⟩, hG0⟩ := box88 w (.int .i64 7) (.int .i64 d) (.int .i64 fb) (.int .i64 fa) (.int .i64 tb) (.int .i64 ta) (.int .i64 car) (.int .i64 m.rack) (.int .i64 nk) (.int .i64 nd) (.int .i64 nfb) (.int .i64 nfa) (.int .i64 ntb) (.int .i64 nta) (.int .i64 nc) (.int .i64 nr) 44
  have G0 := Lib.hid hG0
  clear hG0 o1 o2 o3 o4 o5 o6 n1 n2 n3 n4 n5 n6 n7
  have p1 := Chg.cell G0.out h.c1.1 id
  have hrk := hi.rack
  clear h hi
  go_enter Tryz.func70, Tryz.ntmps70
  go_wp2
  have qo0 := up_cell o0
  have qo7 := up_cell o7
  have qn0 := up_cell n0
  have qp1 := up_cell p1
  have Ho0 := Lib.hid o0
  have Ho7 := Lib.hid o7
  have Hn0 := Lib.hid n0
  have Hp1 := Lib.hid p1
  clear o0 o7 n0 p1
  refine wp_region_up (by kernel_rfl) (by kernel_rfl) ?_
  repeat (go_big_quiet_step (fail))
  refine wpQuiet_nil ?_
  rintro w1 ⟨u, hu⟩
  have gu := (hu ▸ u.up : Up ((w.alloc (.cells #[.int .i64 7, .int .i64 d, .int .i64 fb, .int .i64 fa, .int .i64 tb, .int .i64 ta, .int .i64 car, .int .i64 m.rack] 44)).alloc (.cells #[.int .i64 nk, .int .i64 nd, .int .i64 nfb, .int .i64 nfa, .int .i64 ntb, .int .i64 nta, .int .i64 nc, .int .i64 nr] 44)) w1)
  have o0 := Chg.cell gu Ho0.out id
  have o7 := Chg.cell gu Ho7.out id
  have n0 := Chg.cell gu Hn0.out id
  have p1 := Chg.cell gu Hp1.out id
  have G1 := Lib.hid (Chg.trans G0.out gu)
  clear hu u gu qo0 qo7 qn0 qp1
  go_wp2
  go_ret
  exact ⟨rfl, G1.out⟩
theorem rf_rack2 (w : World) {S : Nat → Prop} {K p : Nat} {m : MachM} {F B C L D : Value} {fs bs : List Value} (h : MachX w S K p m F B C L D fs bs) (hi : MInv m) (d fb fa tb ta car rk nk nd nfb nfa ntb nta nc nr : Int) (ht : rk ≠ m.rack) (hn : nk = 7) :
    Calls Tryz.prog 70 #[.pointer (some ⟨p, 0, none⟩), .agg #[.int .i64 7, .int .i64 d, .int .i64 fb, .int .i64 fa, .int .i64 tb, .int .i64 ta, .int .i64 car, .int .i64 rk], .agg #[.int .i64 nk, .int .i64 nd, .int .i64 nfb, .int .i64 nfa, .int .i64 ntb, .int .i64 nta, .int .i64 nc, .int .i64 nr]] w fun e w' => e = .returned (.int .i64 2) ∧ Up w w' := by
  subst hn
  obtain ⟨⟨o0, o1, o2, o3, o4, o5, o6, o7⟩, ⟨n0, n1, n2, n3, n4, n5, n6, n7⟩, hG0⟩ := box88 w (.int .i64 7) (.int .i64 d) (.int .i64 fb) (.int .i64 fa) (.int .i64 tb) (.int .i64 ta) (.int .i64 car) (.int .i64 rk) (.int .i64 7) (.int .i64 nd) (.int .i64 nfb) (.int .i64 nfa) (.int .i64 ntb) (.int .i64 nta) (.int .i64 nc) (.int .i64 nr) 44
  have G0 := Lib.hid hG0
  clear hG0 o1 o2 o3 o4 o5 o6 n1 n2 n3 n4 n5 n6 n7
  have p1 := Chg.cell G0.out h.c1.1 id
  have hrk := hi.rack
  clear h hi
  have t1 : (rk == m.rack) = false := by simpa using ht
  go_enter Tryz.func70, Tryz.ntmps70
  go_wp2
  have qo0 := up_cell o0
  have qo7 := up_cell o7
  have qn0 := up_cell n0
  have qp1 := up_cell p1
  have Ho0 := Lib.hid o0
  have Ho7 := Lib.hid o7
  have Hn0 := Lib.hid n0
  have Hp1 := Lib.hid p1
  clear o0 o7 n0 p1
  refine wp_region_up (by kernel_rfl) (by kernel_rfl) ?_
  repeat (go_big_quiet_step (fail))
  refine wpQuiet_nil ?_
  rintro w1 ⟨u, hu⟩
  have gu := (hu ▸ u.up : Up ((w.alloc (.cells #[.int .i64 7, .int .i64 d, .int .i64 fb, .int .i64 fa, .int .i64 tb, .int .i64 ta, .int .i64 car, .int .i64 rk] 44)).alloc (.cells #[.int .i64 7, .int .i64 nd, .int .i64 nfb, .int .i64 nfa, .int .i64 ntb, .int .i64 nta, .int .i64 nc, .int .i64 nr] 44)) w1)
  have o0 := Chg.cell gu Ho0.out id
  have o7 := Chg.cell gu Ho7.out id
  have n0 := Chg.cell gu Hn0.out id
  have p1 := Chg.cell gu Hp1.out id
  have G1 := Lib.hid (Chg.trans G0.out gu)
  clear hu u gu qo0 qo7 qn0 qp1
  go_wp2
  go_ret
  exact ⟨rfl, G1.out⟩
theorem rf_rack0 (w : World) {S : Nat → Prop} {K p : Nat} {m : MachM} {F B C L D : Value} {fs bs : List Value} (h : MachX w S K p m F B C L D fs bs) (hi : MInv m) (d fb fa tb ta car rk nk nd nfb nfa ntb nta nc nr : Int) (ht : rk ≠ m.rack) (hn : nk ≠ 7) :
    Calls Tryz.prog 70 #[.pointer (some ⟨p, 0, none⟩), .agg #[.int .i64 7, .int .i64 d, .int .i64 fb, .int .i64 fa, .int .i64 tb, .int .i64 ta, .int .i64 car, .int .i64 rk], .agg #[.int .i64 nk, .int .i64 nd, .int .i64 nfb, .int .i64 nfa, .int .i64 ntb, .int .i64 nta, .int .i64 nc, .int .i64 nr]] w fun e w' => e = .returned (.int .i64 0) ∧ Up w w' := by
  obtain ⟨⟨o0, o1, o2, o3, o4, o5, o6, o7⟩, ⟨n0, n1, n2, n3, n4, n5, n6, n7⟩, hG0⟩ := box88 w (.int .i64 7) (.int .i64 d) (.int .i64 fb) (.int .i64 fa) (.int .i64 tb) (.int .i64 ta) (.int .i64 car) (.int .i64 rk) (.int .i64 nk) (.int .i64 nd) (.int .i64 nfb) (.int .i64 nfa) (.int .i64 ntb) (.int .i64 nta) (.int .i64 nc) (.int .i64 nr) 44
  have G0 := Lib.hid hG0
  clear hG0 o1 o2 o3 o4 o5 o6 n1 n2 n3 n4 n5 n6 n7
  have p1 := Chg.cell G0.out h.c1.1 id
  have hrk := hi.rack
  clear h hi
  have t1 : (rk == m.rack) = false := by simpa using ht
  have t2 : (nk == 7) = false := by simpa using hn
  go_enter Tryz.func70, Tryz.ntmps70
  go_wp2
  have qo0 := up_cell o0
  have qo7 := up_cell o7
  have qn0 := up_cell n0
  have qp1 := up_cell p1
  have Ho0 := Lib.hid o0
  have Ho7 := Lib.hid o7
  have Hn0 := Lib.hid n0
  have Hp1 := Lib.hid p1
  clear o0 o7 n0 p1
  refine wp_region_up (by kernel_rfl) (by kernel_rfl) ?_
  repeat (go_big_quiet_step (fail))
  refine wpQuiet_nil ?_
  rintro w1 ⟨u, hu⟩
  have gu := (hu ▸ u.up : Up ((w.alloc (.cells #[.int .i64 7, .int .i64 d, .int .i64 fb, .int .i64 fa, .int .i64 tb, .int .i64 ta, .int .i64 car, .int .i64 rk] 44)).alloc (.cells #[.int .i64 nk, .int .i64 nd, .int .i64 nfb, .int .i64 nfa, .int .i64 ntb, .int .i64 nta, .int .i64 nc, .int .i64 nr] 44)) w1)
  have o0 := Chg.cell gu Ho0.out id
  have o7 := Chg.cell gu Ho7.out id
  have n0 := Chg.cell gu Hn0.out id
  have p1 := Chg.cell gu Hp1.out id
  have G1 := Lib.hid (Chg.trans G0.out gu)
  clear hu u gu qo0 qo7 qn0 qp1
  go_wp2
  go_ret
  exact ⟨rfl, G1.out⟩
theorem rf_none1 (w : World) {S : Nat → Prop} {K p : Nat} {m : MachM} {F B C L D : Value} {fs bs : List Value} (h : MachX w S K p m F B C L D fs bs) (hi : MInv m) (d fb fa tb ta car rk nk nd nfb nfa ntb nta nc nr : Int) :
    Calls Tryz.prog 70 #[.pointer (some ⟨p, 0, none⟩), .agg #[.int .i64 1, .int .i64 d, .int .i64 fb, .int .i64 fa, .int .i64 tb, .int .i64 ta, .int .i64 car, .int .i64 rk], .agg #[.int .i64 nk, .int .i64 nd, .int .i64 nfb, .int .i64 nfa, .int .i64 ntb, .int .i64 nta, .int .i64 nc, .int .i64 nr]] w fun e w' => e = .returned (.int .i64 0) ∧ Up w w' := by
  obtain ⟨⟨o0, o1, o2, o3, o4, o5, o6, o7⟩, ⟨n0, n1, n2, n3, n4, n5, n6, n7⟩, hG0⟩ := box88 w (.int .i64 1) (.int .i64 d) (.int .i64 fb) (.int .i64 fa) (.int .i64 tb) (.int .i64 ta) (.int .i64 car) (.int .i64 rk) (.int .i64 nk) (.int .i64 nd) (.int .i64 nfb) (.int .i64 nfa) (.int .i64 ntb) (.int .i64 nta) (.int .i64 nc) (.int .i64 nr) 44
  have G0 := Lib.hid hG0
  clear hG0 o1 o2 o3 o4 o5 o6 o7 n0 n1 n2 n3 n4 n5 n6 n7
  have p1 := Chg.cell G0.out h.c1.1 id
  have hrk := hi.rack
  clear h hi
  go_enter Tryz.func70, Tryz.ntmps70
  go_wp2
  go_ret
  exact ⟨rfl, G0.out⟩
theorem rf_none2 (w : World) {S : Nat → Prop} {K p : Nat} {m : MachM} {F B C L D : Value} {fs bs : List Value} (h : MachX w S K p m F B C L D fs bs) (hi : MInv m) (d fb fa tb ta car rk nk nd nfb nfa ntb nta nc nr : Int) :
    Calls Tryz.prog 70 #[.pointer (some ⟨p, 0, none⟩), .agg #[.int .i64 2, .int .i64 d, .int .i64 fb, .int .i64 fa, .int .i64 tb, .int .i64 ta, .int .i64 car, .int .i64 rk], .agg #[.int .i64 nk, .int .i64 nd, .int .i64 nfb, .int .i64 nfa, .int .i64 ntb, .int .i64 nta, .int .i64 nc, .int .i64 nr]] w fun e w' => e = .returned (.int .i64 0) ∧ Up w w' := by
  obtain ⟨⟨o0, o1, o2, o3, o4, o5, o6, o7⟩, ⟨n0, n1, n2, n3, n4, n5, n6, n7⟩, hG0⟩ := box88 w (.int .i64 2) (.int .i64 d) (.int .i64 fb) (.int .i64 fa) (.int .i64 tb) (.int .i64 ta) (.int .i64 car) (.int .i64 rk) (.int .i64 nk) (.int .i64 nd) (.int .i64 nfb) (.int .i64 nfa) (.int .i64 ntb) (.int .i64 nta) (.int .i64 nc) (.int .i64 nr) 44
  have G0 := Lib.hid hG0
  clear hG0 o1 o2 o3 o4 o5 o6 o7 n0 n1 n2 n3 n4 n5 n6 n7
  have p1 := Chg.cell G0.out h.c1.1 id
  have hrk := hi.rack
  clear h hi
  go_enter Tryz.func70, Tryz.ntmps70
  go_wp2
  go_ret
  exact ⟨rfl, G0.out⟩
theorem rf_none5 (w : World) {S : Nat → Prop} {K p : Nat} {m : MachM} {F B C L D : Value} {fs bs : List Value} (h : MachX w S K p m F B C L D fs bs) (hi : MInv m) (d fb fa tb ta car rk nk nd nfb nfa ntb nta nc nr : Int) :
    Calls Tryz.prog 70 #[.pointer (some ⟨p, 0, none⟩), .agg #[.int .i64 5, .int .i64 d, .int .i64 fb, .int .i64 fa, .int .i64 tb, .int .i64 ta, .int .i64 car, .int .i64 rk], .agg #[.int .i64 nk, .int .i64 nd, .int .i64 nfb, .int .i64 nfa, .int .i64 ntb, .int .i64 nta, .int .i64 nc, .int .i64 nr]] w fun e w' => e = .returned (.int .i64 0) ∧ Up w w' := by
  obtain ⟨⟨o0, o1, o2, o3, o4, o5, o6, o7⟩, ⟨n0, n1, n2, n3, n4, n5, n6, n7⟩, hG0⟩ := box88 w (.int .i64 5) (.int .i64 d) (.int .i64 fb) (.int .i64 fa) (.int .i64 tb) (.int .i64 ta) (.int .i64 car) (.int .i64 rk) (.int .i64 nk) (.int .i64 nd) (.int .i64 nfb) (.int .i64 nfa) (.int .i64 ntb) (.int .i64 nta) (.int .i64 nc) (.int .i64 nr) 44
  have G0 := Lib.hid hG0
  clear hG0 o1 o2 o3 o4 o5 o6 o7 n0 n1 n2 n3 n4 n5 n6 n7
  have p1 := Chg.cell G0.out h.c1.1 id
  have hrk := hi.rack
  clear h hi
  go_enter Tryz.func70, Tryz.ntmps70
  go_wp2
  go_ret
  exact ⟨rfl, G0.out⟩
theorem rf_none6 (w : World) {S : Nat → Prop} {K p : Nat} {m : MachM} {F B C L D : Value} {fs bs : List Value} (h : MachX w S K p m F B C L D fs bs) (hi : MInv m) (d fb fa tb ta car rk nk nd nfb nfa ntb nta nc nr : Int) :
    Calls Tryz.prog 70 #[.pointer (some ⟨p, 0, none⟩), .agg #[.int .i64 6, .int .i64 d, .int .i64 fb, .int .i64 fa, .int .i64 tb, .int .i64 ta, .int .i64 car, .int .i64 rk], .agg #[.int .i64 nk, .int .i64 nd, .int .i64 nfb, .int .i64 nfa, .int .i64 ntb, .int .i64 nta, .int .i64 nc, .int .i64 nr]] w fun e w' => e = .returned (.int .i64 0) ∧ Up w w' := by
  obtain ⟨⟨o0, o1, o2, o3, o4, o5, o6, o7⟩, ⟨n0, n1, n2, n3, n4, n5, n6, n7⟩, hG0⟩ := box88 w (.int .i64 6) (.int .i64 d) (.int .i64 fb) (.int .i64 fa) (.int .i64 tb) (.int .i64 ta) (.int .i64 car) (.int .i64 rk) (.int .i64 nk) (.int .i64 nd) (.int .i64 nfb) (.int .i64 nfa) (.int .i64 ntb) (.int .i64 nta) (.int .i64 nc) (.int .i64 nr) 44
  have G0 := Lib.hid hG0
  clear hG0 o1 o2 o3 o4 o5 o6 o7 n0 n1 n2 n3 n4 n5 n6 n7
  have p1 := Chg.cell G0.out h.c1.1 id
  have hrk := hi.rack
  clear h hi
  go_enter Tryz.func70, Tryz.ntmps70
  go_wp2
  go_ret
  exact ⟨rfl, G0.out⟩
theorem rf_none9 (w : World) {S : Nat → Prop} {K p : Nat} {m : MachM} {F B C L D : Value} {fs bs : List Value} (h : MachX w S K p m F B C L D fs bs) (hi : MInv m) (d fb fa tb ta car rk nk nd nfb nfa ntb nta nc nr : Int) :
    Calls Tryz.prog 70 #[.pointer (some ⟨p, 0, none⟩), .agg #[.int .i64 9, .int .i64 d, .int .i64 fb, .int .i64 fa, .int .i64 tb, .int .i64 ta, .int .i64 car, .int .i64 rk], .agg #[.int .i64 nk, .int .i64 nd, .int .i64 nfb, .int .i64 nfa, .int .i64 ntb, .int .i64 nta, .int .i64 nc, .int .i64 nr]] w fun e w' => e = .returned (.int .i64 0) ∧ Up w w' := by
  obtain ⟨⟨o0, o1, o2, o3, o4, o5, o6, o7⟩, ⟨n0, n1, n2, n3, n4, n5, n6, n7⟩, hG0⟩ := box88 w (.int .i64 9) (.int .i64 d) (.int .i64 fb) (.int .i64 fa) (.int .i64 tb) (.int .i64 ta) (.int .i64 car) (.int .i64 rk) (.int .i64 nk) (.int .i64 nd) (.int .i64 nfb) (.int .i64 nfa) (.int .i64 ntb) (.int .i64 nta) (.int .i64 nc) (.int .i64 nr) 44
  have G0 := Lib.hid hG0
  clear hG0 o1 o2 o3 o4 o5 o6 o7 n0 n1 n2 n3 n4 n5 n6 n7
  have p1 := Chg.cell G0.out h.c1.1 id
  have hrk := hi.rack
  clear h hi
  go_enter Tryz.func70, Tryz.ntmps70
  go_wp2
  go_ret
  exact ⟨rfl, G0.out⟩
theorem rf_miss_a (w : World) {S : Nat → Prop} {K p : Nat} {m : MachM} {F B C L D : Value} {fs bs : List Value} (h : MachX w S K p m F B C L D fs bs) (hi : MInv m) (d fb fa tb ta car rk nk nd nfb nfa ntb nta nc nr : Int) (hfa : 0 ≤ fa ∧ fa ≤ 1000) (hna : 0 ≤ nfa ∧ nfa ≤ 1000) (hd : d = 1 ∨ d = -1) (hA : yarnB nk = false) :
    Calls Tryz.prog 70 #[.pointer (some ⟨p, 0, none⟩), .agg #[.int .i64 3, .int .i64 d, .int .i64 fb, .int .i64 fa, .int .i64 tb, .int .i64 ta, .int .i64 car, .int .i64 rk], .agg #[.int .i64 nk, .int .i64 nd, .int .i64 nfb, .int .i64 nfa, .int .i64 ntb, .int .i64 nta, .int .i64 nc, .int .i64 nr]] w fun e w' => e = .returned (.int .i64 0) ∧ Up w w' := by
  obtain ⟨⟨o0, o1, o2, o3, o4, o5, o6, o7⟩, ⟨n0, n1, n2, n3, n4, n5, n6, n7⟩, hG0⟩ := box88 w (.int .i64 3) (.int .i64 d) (.int .i64 fb) (.int .i64 fa) (.int .i64 tb) (.int .i64 ta) (.int .i64 car) (.int .i64 rk) (.int .i64 nk) (.int .i64 nd) (.int .i64 nfb) (.int .i64 nfa) (.int .i64 ntb) (.int .i64 nta) (.int .i64 nc) (.int .i64 nr) 44
  have G0 := Lib.hid hG0
  clear hG0 o4 o5 o7 n4 n5 n7
  have p1 := Chg.cell G0.out h.c1.1 id
  have hrk := hi.rack
  clear h hi
  obtain ⟨x, Hx⟩ : ∃ x, Hid (placeM fb fa m.rack = x) := ⟨_, rfl⟩
  obtain ⟨y, Hy⟩ : ∃ y, Hid (placeM nfb nfa m.rack = y) := ⟨_, rfl⟩
  have hxb : -3 ≤ x ∧ x ≤ 1003 := by rw [← Hx.out]; unfold placeM; split <;> omega
  have hyb : -3 ≤ y ∧ y ≤ 1003 := by rw [← Hy.out]; unfold placeM; split <;> omega
  have w1 : IntKind.i64.wrap (y - x) = y - x := IntWalk.i64_in _ (by omega)
  obtain ⟨z, Hz⟩ : ∃ z, Hid ((y - x) * d = z) := ⟨_, rfl⟩
  have w2 : IntKind.i64.wrap ((y - x) * d) = z := (IntWalk.i64_in _ (by rcases hd with rfl | rfl <;> omega)).trans Hz.out
  obtain ⟨cP, HPK⟩ : ∃ cP, Hid (passM nk = cP) := ⟨_, Lib.hid rfl⟩
  have tA : (cP == 1) = false := by rw [← HPK.out, pass_yarn]; exact hA
  go_enter Tryz.func70, Tryz.ntmps70
  go_wp2
  have qo0 := up_cell o0
  have qo1 := up_cell o1
  have qo2 := up_cell o2
  have qo3 := up_cell o3
  have qo6 := up_cell o6
  have qn0 := up_cell n0
  have qn1 := up_cell n1
  have qn2 := up_cell n2
  have qn3 := up_cell n3
  have qn6 := up_cell n6
  have qp1 := up_cell p1
  have Ho0 := Lib.hid o0
  have Ho1 := Lib.hid o1
  have Ho2 := Lib.hid o2
  have Ho3 := Lib.hid o3
  have Ho6 := Lib.hid o6
  have Hn0 := Lib.hid n0
  have Hn1 := Lib.hid n1
  have Hn2 := Lib.hid n2
  have Hn3 := Lib.hid n3
  have Hn6 := Lib.hid n6
  have Hp1 := Lib.hid p1
  clear o0 o1 o2 o3 o6 n0 n1 n2 n3 n6 p1
  refine wp_region_up (by kernel_rfl) (by kernel_rfl) ?_
  repeat (go_big_quiet_step (first | (go_at_call 86; exact calls_up_same (passKind_v _ nk HPK.out)) | (with_reducible exact calls_up (place_x _ fb _ _ _ (by omega) (by omega) Hx.out)) | (with_reducible exact calls_up (place_x _ nfb _ _ _ (by omega) (by omega) Hy.out))))
  refine wpQuiet_nil ?_
  rintro w1 ⟨u, hu⟩
  have gu := (hu ▸ u.up : Up ((w.alloc (.cells #[.int .i64 3, .int .i64 d, .int .i64 fb, .int .i64 fa, .int .i64 tb, .int .i64 ta, .int .i64 car, .int .i64 rk] 44)).alloc (.cells #[.int .i64 nk, .int .i64 nd, .int .i64 nfb, .int .i64 nfa, .int .i64 ntb, .int .i64 nta, .int .i64 nc, .int .i64 nr] 44)) w1)
  have o0 := Chg.cell gu Ho0.out id
  have o1 := Chg.cell gu Ho1.out id
  have o2 := Chg.cell gu Ho2.out id
  have o3 := Chg.cell gu Ho3.out id
  have o6 := Chg.cell gu Ho6.out id
  have n0 := Chg.cell gu Hn0.out id
  have n1 := Chg.cell gu Hn1.out id
  have n2 := Chg.cell gu Hn2.out id
  have n3 := Chg.cell gu Hn3.out id
  have n6 := Chg.cell gu Hn6.out id
  have p1 := Chg.cell gu Hp1.out id
  have G1 := Lib.hid (Chg.trans G0.out gu)
  clear hu u gu qo0 qo1 qo2 qo3 qo6 qn0 qn1 qn2 qn3 qn6 qp1
  go_wp2
  go_ret
  exact ⟨rfl, G1.out⟩
theorem rf_miss_b (w : World) {S : Nat → Prop} {K p : Nat} {m : MachM} {F B C L D : Value} {fs bs : List Value} (h : MachX w S K p m F B C L D fs bs) (hi : MInv m) (d fb fa tb ta car rk nk nd nfb nfa ntb nta nc nr : Int) (hfa : 0 ≤ fa ∧ fa ≤ 1000) (hna : 0 ≤ nfa ∧ nfa ≤ 1000) (hd : d = 1 ∨ d = -1) (hA : yarnB nk = true) (hB : nc ≠ car) :
    Calls Tryz.prog 70 #[.pointer (some ⟨p, 0, none⟩), .agg #[.int .i64 3, .int .i64 d, .int .i64 fb, .int .i64 fa, .int .i64 tb, .int .i64 ta, .int .i64 car, .int .i64 rk], .agg #[.int .i64 nk, .int .i64 nd, .int .i64 nfb, .int .i64 nfa, .int .i64 ntb, .int .i64 nta, .int .i64 nc, .int .i64 nr]] w fun e w' => e = .returned (.int .i64 0) ∧ Up w w' := by
  obtain ⟨⟨o0, o1, o2, o3, o4, o5, o6, o7⟩, ⟨n0, n1, n2, n3, n4, n5, n6, n7⟩, hG0⟩ := box88 w (.int .i64 3) (.int .i64 d) (.int .i64 fb) (.int .i64 fa) (.int .i64 tb) (.int .i64 ta) (.int .i64 car) (.int .i64 rk) (.int .i64 nk) (.int .i64 nd) (.int .i64 nfb) (.int .i64 nfa) (.int .i64 ntb) (.int .i64 nta) (.int .i64 nc) (.int .i64 nr) 44
  have G0 := Lib.hid hG0
  clear hG0 o4 o5 o7 n4 n5 n7
  have p1 := Chg.cell G0.out h.c1.1 id
  have hrk := hi.rack
  clear h hi
  obtain ⟨x, Hx⟩ : ∃ x, Hid (placeM fb fa m.rack = x) := ⟨_, rfl⟩
  obtain ⟨y, Hy⟩ : ∃ y, Hid (placeM nfb nfa m.rack = y) := ⟨_, rfl⟩
  have hxb : -3 ≤ x ∧ x ≤ 1003 := by rw [← Hx.out]; unfold placeM; split <;> omega
  have hyb : -3 ≤ y ∧ y ≤ 1003 := by rw [← Hy.out]; unfold placeM; split <;> omega
  have w1 : IntKind.i64.wrap (y - x) = y - x := IntWalk.i64_in _ (by omega)
  obtain ⟨z, Hz⟩ : ∃ z, Hid ((y - x) * d = z) := ⟨_, rfl⟩
  have w2 : IntKind.i64.wrap ((y - x) * d) = z := (IntWalk.i64_in _ (by rcases hd with rfl | rfl <;> omega)).trans Hz.out
  obtain ⟨cP, HPK⟩ : ∃ cP, Hid (passM nk = cP) := ⟨_, Lib.hid rfl⟩
  have tA : (cP == 1) = true := by rw [← HPK.out, pass_yarn]; exact hA
  have tB : (nc == car) = false := by simpa using hB
  go_enter Tryz.func70, Tryz.ntmps70
  go_wp2
  have qo0 := up_cell o0
  have qo1 := up_cell o1
  have qo2 := up_cell o2
  have qo3 := up_cell o3
  have qo6 := up_cell o6
  have qn0 := up_cell n0
  have qn1 := up_cell n1
  have qn2 := up_cell n2
  have qn3 := up_cell n3
  have qn6 := up_cell n6
  have qp1 := up_cell p1
  have Ho0 := Lib.hid o0
  have Ho1 := Lib.hid o1
  have Ho2 := Lib.hid o2
  have Ho3 := Lib.hid o3
  have Ho6 := Lib.hid o6
  have Hn0 := Lib.hid n0
  have Hn1 := Lib.hid n1
  have Hn2 := Lib.hid n2
  have Hn3 := Lib.hid n3
  have Hn6 := Lib.hid n6
  have Hp1 := Lib.hid p1
  clear o0 o1 o2 o3 o6 n0 n1 n2 n3 n6 p1
  refine wp_region_up (by kernel_rfl) (by kernel_rfl) ?_
  repeat (go_big_quiet_step (first | (go_at_call 86; exact calls_up_same (passKind_v _ nk HPK.out)) | (with_reducible exact calls_up (place_x _ fb _ _ _ (by omega) (by omega) Hx.out)) | (with_reducible exact calls_up (place_x _ nfb _ _ _ (by omega) (by omega) Hy.out))))
  refine wpQuiet_nil ?_
  rintro w1 ⟨u, hu⟩
  have gu := (hu ▸ u.up : Up ((w.alloc (.cells #[.int .i64 3, .int .i64 d, .int .i64 fb, .int .i64 fa, .int .i64 tb, .int .i64 ta, .int .i64 car, .int .i64 rk] 44)).alloc (.cells #[.int .i64 nk, .int .i64 nd, .int .i64 nfb, .int .i64 nfa, .int .i64 ntb, .int .i64 nta, .int .i64 nc, .int .i64 nr] 44)) w1)
  have o0 := Chg.cell gu Ho0.out id
  have o1 := Chg.cell gu Ho1.out id
  have o2 := Chg.cell gu Ho2.out id
  have o3 := Chg.cell gu Ho3.out id
  have o6 := Chg.cell gu Ho6.out id
  have n0 := Chg.cell gu Hn0.out id
  have n1 := Chg.cell gu Hn1.out id
  have n2 := Chg.cell gu Hn2.out id
  have n3 := Chg.cell gu Hn3.out id
  have n6 := Chg.cell gu Hn6.out id
  have p1 := Chg.cell gu Hp1.out id
  have G1 := Lib.hid (Chg.trans G0.out gu)
  clear hu u gu qo0 qo1 qo2 qo3 qo6 qn0 qn1 qn2 qn3 qn6 qp1
  go_wp2
  go_ret
  exact ⟨rfl, G1.out⟩
theorem rf_miss_c (w : World) {S : Nat → Prop} {K p : Nat} {m : MachM} {F B C L D : Value} {fs bs : List Value} (h : MachX w S K p m F B C L D fs bs) (hi : MInv m) (d fb fa tb ta car rk nk nd nfb nfa ntb nta nc nr : Int) (hfa : 0 ≤ fa ∧ fa ≤ 1000) (hna : 0 ≤ nfa ∧ nfa ≤ 1000) (hd : d = 1 ∨ d = -1) (hA : yarnB nk = true) (hB : nc = car) (hC : nd ≠ d) :
    Calls Tryz.prog 70 #[.pointer (some ⟨p, 0, none⟩), .agg #[.int .i64 3, .int .i64 d, .int .i64 fb, .int .i64 fa, .int .i64 tb, .int .i64 ta, .int .i64 car, .int .i64 rk], .agg #[.int .i64 nk, .int .i64 nd, .int .i64 nfb, .int .i64 nfa, .int .i64 ntb, .int .i64 nta, .int .i64 nc, .int .i64 nr]] w fun e w' => e = .returned (.int .i64 0) ∧ Up w w' := by
  subst hB
  obtain ⟨⟨o0, o1, o2, o3, o4, o5, o6, o7⟩, ⟨n0, n1, n2, n3, n4, n5, n6, n7⟩, hG0⟩ := box88 w (.int .i64 3) (.int .i64 d) (.int .i64 fb) (.int .i64 fa) (.int .i64 tb) (.int .i64 ta) (.int .i64 nc) (.int .i64 rk) (.int .i64 nk) (.int .i64 nd) (.int .i64 nfb) (.int .i64 nfa) (.int .i64 ntb) (.int .i64 nta) (.int .i64 nc) (.int .i64 nr) 44
  have G0 := Lib.hid hG0
  clear hG0 o4 o5 o7 n4 n5 n7
  have p1 := Chg.cell G0.out h.c1.1 id
  have hrk := hi.rack
  clear h hi
  obtain ⟨x, Hx⟩ : ∃ x, Hid (placeM fb fa m.rack = x) := ⟨_, rfl⟩
  obtain ⟨y, Hy⟩ : ∃ y, Hid (placeM nfb nfa m.rack = y) := ⟨_, rfl⟩
  have hxb : -3 ≤ x ∧ x ≤ 1003 := by rw [← Hx.out]; unfold placeM; split <;> omega
  have hyb : -3 ≤ y ∧ y ≤ 1003 := by rw [← Hy.out]; unfold placeM; split <;> omega
  have w1 : IntKind.i64.wrap (y - x) = y - x := IntWalk.i64_in _ (by omega)
  obtain ⟨z, Hz⟩ : ∃ z, Hid ((y - x) * d = z) := ⟨_, rfl⟩
  have w2 : IntKind.i64.wrap ((y - x) * d) = z := (IntWalk.i64_in _ (by rcases hd with rfl | rfl <;> omega)).trans Hz.out
  obtain ⟨cP, HPK⟩ : ∃ cP, Hid (passM nk = cP) := ⟨_, Lib.hid rfl⟩
  have tA : (cP == 1) = true := by rw [← HPK.out, pass_yarn]; exact hA
  have tC : (nd == d) = false := by simpa using hC
  go_enter Tryz.func70, Tryz.ntmps70
  go_wp2
  have qo0 := up_cell o0
  have qo1 := up_cell o1
  have qo2 := up_cell o2
  have qo3 := up_cell o3
  have qo6 := up_cell o6
  have qn0 := up_cell n0
  have qn1 := up_cell n1
  have qn2 := up_cell n2
  have qn3 := up_cell n3
  have qn6 := up_cell n6
  have qp1 := up_cell p1
  have Ho0 := Lib.hid o0
  have Ho1 := Lib.hid o1
  have Ho2 := Lib.hid o2
  have Ho3 := Lib.hid o3
  have Ho6 := Lib.hid o6
  have Hn0 := Lib.hid n0
  have Hn1 := Lib.hid n1
  have Hn2 := Lib.hid n2
  have Hn3 := Lib.hid n3
  have Hn6 := Lib.hid n6
  have Hp1 := Lib.hid p1
  clear o0 o1 o2 o3 o6 n0 n1 n2 n3 n6 p1
  refine wp_region_up (by kernel_rfl) (by kernel_rfl) ?_
  repeat (go_big_quiet_step (first | (go_at_call 86; exact calls_up_same (passKind_v _ nk HPK.out)) | (with_reducible exact calls_up (place_x _ fb _ _ _ (by omega) (by omega) Hx.out)) | (with_reducible exact calls_up (place_x _ nfb _ _ _ (by omega) (by omega) Hy.out))))
  refine wpQuiet_nil ?_
  rintro w1 ⟨u, hu⟩
  have gu := (hu ▸ u.up : Up ((w.alloc (.cells #[.int .i64 3, .int .i64 d, .int .i64 fb, .int .i64 fa, .int .i64 tb, .int .i64 ta, .int .i64 nc, .int .i64 rk] 44)).alloc (.cells #[.int .i64 nk, .int .i64 nd, .int .i64 nfb, .int .i64 nfa, .int .i64 ntb, .int .i64 nta, .int .i64 nc, .int .i64 nr] 44)) w1)
  have o0 := Chg.cell gu Ho0.out id
  have o1 := Chg.cell gu Ho1.out id
  have o2 := Chg.cell gu Ho2.out id
  have o3 := Chg.cell gu Ho3.out id
  have o6 := Chg.cell gu Ho6.out id
  have n0 := Chg.cell gu Hn0.out id
  have n1 := Chg.cell gu Hn1.out id
  have n2 := Chg.cell gu Hn2.out id
  have n3 := Chg.cell gu Hn3.out id
  have n6 := Chg.cell gu Hn6.out id
  have p1 := Chg.cell gu Hp1.out id
  have G1 := Lib.hid (Chg.trans G0.out gu)
  clear hu u gu qo0 qo1 qo2 qo3 qo6 qn0 qn1 qn2 qn3 qn6 qp1
  go_wp2
  go_ret
  exact ⟨rfl, G1.out⟩
theorem rf_miss_d (w : World) {S : Nat → Prop} {K p : Nat} {m : MachM} {F B C L D : Value} {fs bs : List Value} (h : MachX w S K p m F B C L D fs bs) (hi : MInv m) (d fb fa tb ta car rk nk nd nfb nfa ntb nta nc nr : Int) (hfa : 0 ≤ fa ∧ fa ≤ 1000) (hna : 0 ≤ nfa ∧ nfa ≤ 1000) (hd : d = 1 ∨ d = -1) (hA : yarnB nk = true) (hB : nc = car) (hC : nd = d) (hD : ¬ 0 < (placeM nfb nfa m.rack - placeM fb fa m.rack) * d) :
    Calls Tryz.prog 70 #[.pointer (some ⟨p, 0, none⟩), .agg #[.int .i64 3, .int .i64 d, .int .i64 fb, .int .i64 fa, .int .i64 tb, .int .i64 ta, .int .i64 car, .int .i64 rk], .agg #[.int .i64 nk, .int .i64 nd, .int .i64 nfb, .int .i64 nfa, .int .i64 ntb, .int .i64 nta, .int .i64 nc, .int .i64 nr]] w fun e w' => e = .returned (.int .i64 0) ∧ Up w w' := by
  subst hB
  subst hC
  obtain ⟨⟨o0, o1, o2, o3, o4, o5, o6, o7⟩, ⟨n0, n1, n2, n3, n4, n5, n6, n7⟩, hG0⟩ := box88 w (.int .i64 3) (.int .i64 nd) (.int .i64 fb) (.int .i64 fa) (.int .i64 tb) (.int .i64 ta) (.int .i64 nc) (.int .i64 rk) (.int .i64 nk) (.int .i64 nd) (.int .i64 nfb) (.int .i64 nfa) (.int .i64 ntb) (.int .i64 nta) (.int .i64 nc) (.int .i64 nr) 44
  have G0 := Lib.hid hG0
  clear hG0 o4 o5 o7 n4 n5 n7
  have p1 := Chg.cell G0.out h.c1.1 id
  have hrk := hi.rack
  clear h hi
  obtain ⟨x, Hx⟩ : ∃ x, Hid (placeM fb fa m.rack = x) := ⟨_, rfl⟩
  obtain ⟨y, Hy⟩ : ∃ y, Hid (placeM nfb nfa m.rack = y) := ⟨_, rfl⟩
  have hxb : -3 ≤ x ∧ x ≤ 1003 := by rw [← Hx.out]; unfold placeM; split <;> omega
  have hyb : -3 ≤ y ∧ y ≤ 1003 := by rw [← Hy.out]; unfold placeM; split <;> omega
  have w1 : IntKind.i64.wrap (y - x) = y - x := IntWalk.i64_in _ (by omega)
  obtain ⟨z, Hz⟩ : ∃ z, Hid ((y - x) * nd = z) := ⟨_, rfl⟩
  have w2 : IntKind.i64.wrap ((y - x) * nd) = z := (IntWalk.i64_in _ (by rcases hd with rfl | rfl <;> omega)).trans Hz.out
  obtain ⟨cP, HPK⟩ : ∃ cP, Hid (passM nk = cP) := ⟨_, Lib.hid rfl⟩
  have tA : (cP == 1) = true := by rw [← HPK.out, pass_yarn]; exact hA
  have tD : decide (0 < z) = false := decide_eq_false (by rw [← Hz.out, ← Hx.out, ← Hy.out]; exact hD)
  go_enter Tryz.func70, Tryz.ntmps70
  go_wp2
  have qo0 := up_cell o0
  have qo1 := up_cell o1
  have qo2 := up_cell o2
  have qo3 := up_cell o3
  have qo6 := up_cell o6
  have qn0 := up_cell n0
  have qn1 := up_cell n1
  have qn2 := up_cell n2
  have qn3 := up_cell n3
  have qn6 := up_cell n6
  have qp1 := up_cell p1
  have Ho0 := Lib.hid o0
  have Ho1 := Lib.hid o1
  have Ho2 := Lib.hid o2
  have Ho3 := Lib.hid o3
  have Ho6 := Lib.hid o6
  have Hn0 := Lib.hid n0
  have Hn1 := Lib.hid n1
  have Hn2 := Lib.hid n2
  have Hn3 := Lib.hid n3
  have Hn6 := Lib.hid n6
  have Hp1 := Lib.hid p1
  clear o0 o1 o2 o3 o6 n0 n1 n2 n3 n6 p1
  refine wp_region_up (by kernel_rfl) (by kernel_rfl) ?_
  repeat (go_big_quiet_step (first | (go_at_call 86; exact calls_up_same (passKind_v _ nk HPK.out)) | (with_reducible exact calls_up (place_x _ fb _ _ _ (by omega) (by omega) Hx.out)) | (with_reducible exact calls_up (place_x _ nfb _ _ _ (by omega) (by omega) Hy.out))))
  refine wpQuiet_nil ?_
  rintro w1 ⟨u, hu⟩
  have gu := (hu ▸ u.up : Up ((w.alloc (.cells #[.int .i64 3, .int .i64 nd, .int .i64 fb, .int .i64 fa, .int .i64 tb, .int .i64 ta, .int .i64 nc, .int .i64 rk] 44)).alloc (.cells #[.int .i64 nk, .int .i64 nd, .int .i64 nfb, .int .i64 nfa, .int .i64 ntb, .int .i64 nta, .int .i64 nc, .int .i64 nr] 44)) w1)
  have o0 := Chg.cell gu Ho0.out id
  have o1 := Chg.cell gu Ho1.out id
  have o2 := Chg.cell gu Ho2.out id
  have o3 := Chg.cell gu Ho3.out id
  have o6 := Chg.cell gu Ho6.out id
  have n0 := Chg.cell gu Hn0.out id
  have n1 := Chg.cell gu Hn1.out id
  have n2 := Chg.cell gu Hn2.out id
  have n3 := Chg.cell gu Hn3.out id
  have n6 := Chg.cell gu Hn6.out id
  have p1 := Chg.cell gu Hp1.out id
  have G1 := Lib.hid (Chg.trans G0.out gu)
  clear hu u gu qo0 qo1 qo2 qo3 qo6 qn0 qn1 qn2 qn3 qn6 qp1
  go_wp2
  go_ret
  exact ⟨rfl, G1.out⟩
theorem rf_miss (w : World) {S : Nat → Prop} {K p : Nat} {m : MachM} {F B C L D : Value} {fs bs : List Value} (h : MachX w S K p m F B C L D fs bs) (hi : MInv m) (d fb fa tb ta car rk nk nd nfb nfa ntb nta nc nr : Int) (hfa : 0 ≤ fa ∧ fa ≤ 1000) (hna : 0 ≤ nfa ∧ nfa ≤ 1000) (hd : d = 1 ∨ d = -1) (hA : yarnB nk = true) (hB : nc = car) (hC : nd = d) (hD : 0 < (placeM nfb nfa m.rack - placeM fb fa m.rack) * d) :
    Calls Tryz.prog 70 #[.pointer (some ⟨p, 0, none⟩), .agg #[.int .i64 3, .int .i64 d, .int .i64 fb, .int .i64 fa, .int .i64 tb, .int .i64 ta, .int .i64 car, .int .i64 rk], .agg #[.int .i64 nk, .int .i64 nd, .int .i64 nfb, .int .i64 nfa, .int .i64 ntb, .int .i64 nta, .int .i64 nc, .int .i64 nr]] w fun e w' => e = .returned (.int .i64 3) ∧ Up w w' := by
  subst hB
  subst hC
  obtain ⟨⟨o0, o1, o2, o3, o4, o5, o6, o7⟩, ⟨n0, n1, n2, n3, n4, n5, n6, n7⟩, hG0⟩ := box88 w (.int .i64 3) (.int .i64 nd) (.int .i64 fb) (.int .i64 fa) (.int .i64 tb) (.int .i64 ta) (.int .i64 nc) (.int .i64 rk) (.int .i64 nk) (.int .i64 nd) (.int .i64 nfb) (.int .i64 nfa) (.int .i64 ntb) (.int .i64 nta) (.int .i64 nc) (.int .i64 nr) 44
  have G0 := Lib.hid hG0
  clear hG0 o4 o5 o7 n4 n5 n7
  have p1 := Chg.cell G0.out h.c1.1 id
  have hrk := hi.rack
  clear h hi
  obtain ⟨x, Hx⟩ : ∃ x, Hid (placeM fb fa m.rack = x) := ⟨_, rfl⟩
  obtain ⟨y, Hy⟩ : ∃ y, Hid (placeM nfb nfa m.rack = y) := ⟨_, rfl⟩
  have hxb : -3 ≤ x ∧ x ≤ 1003 := by rw [← Hx.out]; unfold placeM; split <;> omega
  have hyb : -3 ≤ y ∧ y ≤ 1003 := by rw [← Hy.out]; unfold placeM; split <;> omega
  have w1 : IntKind.i64.wrap (y - x) = y - x := IntWalk.i64_in _ (by omega)
  obtain ⟨z, Hz⟩ : ∃ z, Hid ((y - x) * nd = z) := ⟨_, rfl⟩
  have w2 : IntKind.i64.wrap ((y - x) * nd) = z := (IntWalk.i64_in _ (by rcases hd with rfl | rfl <;> omega)).trans Hz.out
  obtain ⟨cP, HPK⟩ : ∃ cP, Hid (passM nk = cP) := ⟨_, Lib.hid rfl⟩
  have tA : (cP == 1) = true := by rw [← HPK.out, pass_yarn]; exact hA
  have tD : decide (0 < z) = true := decide_eq_true (by rw [← Hz.out, ← Hx.out, ← Hy.out]; exact hD)
  go_enter Tryz.func70, Tryz.ntmps70
  go_wp2
  have qo0 := up_cell o0
  have qo1 := up_cell o1
  have qo2 := up_cell o2
  have qo3 := up_cell o3
  have qo6 := up_cell o6
  have qn0 := up_cell n0
  have qn1 := up_cell n1
  have qn2 := up_cell n2
  have qn3 := up_cell n3
  have qn6 := up_cell n6
  have qp1 := up_cell p1
  have Ho0 := Lib.hid o0
  have Ho1 := Lib.hid o1
  have Ho2 := Lib.hid o2
  have Ho3 := Lib.hid o3
  have Ho6 := Lib.hid o6
  have Hn0 := Lib.hid n0
  have Hn1 := Lib.hid n1
  have Hn2 := Lib.hid n2
  have Hn3 := Lib.hid n3
  have Hn6 := Lib.hid n6
  have Hp1 := Lib.hid p1
  clear o0 o1 o2 o3 o6 n0 n1 n2 n3 n6 p1
  refine wp_region_up (by kernel_rfl) (by kernel_rfl) ?_
  repeat (go_big_quiet_step (first | (go_at_call 86; exact calls_up_same (passKind_v _ nk HPK.out)) | (with_reducible exact calls_up (place_x _ fb _ _ _ (by omega) (by omega) Hx.out)) | (with_reducible exact calls_up (place_x _ nfb _ _ _ (by omega) (by omega) Hy.out))))
  refine wpQuiet_nil ?_
  rintro w1 ⟨u, hu⟩
  have gu := (hu ▸ u.up : Up ((w.alloc (.cells #[.int .i64 3, .int .i64 nd, .int .i64 fb, .int .i64 fa, .int .i64 tb, .int .i64 ta, .int .i64 nc, .int .i64 rk] 44)).alloc (.cells #[.int .i64 nk, .int .i64 nd, .int .i64 nfb, .int .i64 nfa, .int .i64 ntb, .int .i64 nta, .int .i64 nc, .int .i64 nr] 44)) w1)
  have o0 := Chg.cell gu Ho0.out id
  have o1 := Chg.cell gu Ho1.out id
  have o2 := Chg.cell gu Ho2.out id
  have o3 := Chg.cell gu Ho3.out id
  have o6 := Chg.cell gu Ho6.out id
  have n0 := Chg.cell gu Hn0.out id
  have n1 := Chg.cell gu Hn1.out id
  have n2 := Chg.cell gu Hn2.out id
  have n3 := Chg.cell gu Hn3.out id
  have n6 := Chg.cell gu Hn6.out id
  have p1 := Chg.cell gu Hp1.out id
  have G1 := Lib.hid (Chg.trans G0.out gu)
  clear hu u gu qo0 qo1 qo2 qo3 qo6 qn0 qn1 qn2 qn3 qn6 qp1
  go_wp2
  go_ret
  exact ⟨rfl, G1.out⟩
theorem rf_xfer_a (w : World) {S : Nat → Prop} {K p : Nat} {m : MachM} {F B C L D : Value} {fs bs : List Value} (h : MachX w S K p m F B C L D fs bs) (hi : MInv m) (d fb fa tb ta car rk nk nd nfb nfa ntb nta nc nr : Int) (hnt : okN m tb ta) (hq : (onM m tb ta).length ≠ 0) :
    Calls Tryz.prog 70 #[.pointer (some ⟨p, 0, none⟩), .agg #[.int .i64 4, .int .i64 d, .int .i64 fb, .int .i64 fa, .int .i64 tb, .int .i64 ta, .int .i64 car, .int .i64 rk], .agg #[.int .i64 nk, .int .i64 nd, .int .i64 nfb, .int .i64 nfa, .int .i64 ntb, .int .i64 nta, .int .i64 nc, .int .i64 nr]] w fun e w' => e = .returned (.int .i64 0) ∧ Up w w' := by
  obtain ⟨g1, u1, hH1, -⟩ := h.hold hi (b := tb) (a := ta) hnt
  obtain ⟨A1, c1, rfl, hl1, hc1, -⟩ := hH1.own.ints.shape
  obtain ⟨l1, HL1⟩ : ∃ l1 : List Int, Hid (l1 = onM m tb ta) := ⟨_, rfl⟩
  rw [← HL1.out] at hH1 hl1 hq
  obtain ⟨⟨o0, o1, o2, o3, o4, o5, o6, o7⟩, ⟨n0, n1, n2, n3, n4, n5, n6, n7⟩, hG0⟩ := box88 w (.int .i64 4) (.int .i64 d) (.int .i64 fb) (.int .i64 fa) (.int .i64 tb) (.int .i64 ta) (.int .i64 car) (.int .i64 rk) (.int .i64 nk) (.int .i64 nd) (.int .i64 nfb) (.int .i64 nfa) (.int .i64 ntb) (.int .i64 nta) (.int .i64 nc) (.int .i64 nr) 44
  have G0 := Lib.hid hG0
  clear hG0 o1 o6 o7 n1 n6 n7
  have p1 := Chg.cell G0.out h.c1.1 id
  have hrk := hi.rack
  have H1 := Lib.hid (hH1.up G0.out)
  have hcl := H1.out.cell.1
  clear hH1
  clear h hi
  have t0 : ((l1.length : Int) == 0) = false := by simp; exact fun e => hq (by simp [e])
  go_enter Tryz.func70, Tryz.ntmps70
  go_wp2_with fail
  refine (on_any _ p tb ta g1 _ _ H1.out).mono ?_
  rintro e w1 ⟨rfl, gu⟩
  have hh := cc8 gu o0 o2 o3 o4 o5 n0 n2 n3
  obtain ⟨o0, o2, o3, o4, o5, n0, n2, n3⟩ := hh
  have hh := cc4 gu n4 n5 p1 hcl
  obtain ⟨n4, n5, p1, hcl⟩ := hh
  have G1 := Lib.hid (Chg.trans G0.out gu)
  clear gu
  go_wp2
  go_ret
  exact ⟨rfl, G1.out⟩
theorem rf_xfer_b (w : World) {S : Nat → Prop} {K p : Nat} {m : MachM} {F B C L D : Value} {fs bs : List Value} (h : MachX w S K p m F B C L D fs bs) (hi : MInv m) (d fb fa tb ta car rk nk nd nfb nfa ntb nta nc nr : Int) (hnt : okN m tb ta) (hq : (onM m tb ta).length = 0) (hA : nk ≠ 4) :
    Calls Tryz.prog 70 #[.pointer (some ⟨p, 0, none⟩), .agg #[.int .i64 4, .int .i64 d, .int .i64 fb, .int .i64 fa, .int .i64 tb, .int .i64 ta, .int .i64 car, .int .i64 rk], .agg #[.int .i64 nk, .int .i64 nd, .int .i64 nfb, .int .i64 nfa, .int .i64 ntb, .int .i64 nta, .int .i64 nc, .int .i64 nr]] w fun e w' => e = .returned (.int .i64 0) ∧ Up w w' := by
  obtain ⟨g1, u1, hH1, -⟩ := h.hold hi (b := tb) (a := ta) hnt
  obtain ⟨A1, c1, rfl, hl1, hc1, -⟩ := hH1.own.ints.shape
  obtain ⟨l1, HL1⟩ : ∃ l1 : List Int, Hid (l1 = onM m tb ta) := ⟨_, rfl⟩
  rw [← HL1.out] at hH1 hl1 hq
  obtain ⟨⟨o0, o1, o2, o3, o4, o5, o6, o7⟩, ⟨n0, n1, n2, n3, n4, n5, n6, n7⟩, hG0⟩ := box88 w (.int .i64 4) (.int .i64 d) (.int .i64 fb) (.int .i64 fa) (.int .i64 tb) (.int .i64 ta) (.int .i64 car) (.int .i64 rk) (.int .i64 nk) (.int .i64 nd) (.int .i64 nfb) (.int .i64 nfa) (.int .i64 ntb) (.int .i64 nta) (.int .i64 nc) (.int .i64 nr) 44
  have G0 := Lib.hid hG0
  clear hG0 o1 o6 o7 n1 n6 n7
  have p1 := Chg.cell G0.out h.c1.1 id
  have hrk := hi.rack
  have H1 := Lib.hid (hH1.up G0.out)
  have hcl := H1.out.cell.1
  clear hH1
  clear h hi
  have t0 : ((l1.length : Int) == 0) = true := by simpa using hq
  have t1 : (nk == 4) = false := by simpa using hA
  go_enter Tryz.func70, Tryz.ntmps70
  go_wp2_with fail
  refine (on_any _ p tb ta g1 _ _ H1.out).mono ?_
  rintro e w1 ⟨rfl, gu⟩
  have hh := cc8 gu o0 o2 o3 o4 o5 n0 n2 n3
  obtain ⟨o0, o2, o3, o4, o5, n0, n2, n3⟩ := hh
  have hh := cc4 gu n4 n5 p1 hcl
  obtain ⟨n4, n5, p1, hcl⟩ := hh
  have G1 := Lib.hid (Chg.trans G0.out gu)
  clear gu
  go_wp2
  go_ret
  exact ⟨rfl, G1.out⟩
theorem rf_xfer_c (w : World) {S : Nat → Prop} {K p : Nat} {m : MachM} {F B C L D : Value} {fs bs : List Value} (h : MachX w S K p m F B C L D fs bs) (hi : MInv m) (d fb fa tb ta car rk nk nd nfb nfa ntb nta nc nr : Int) (hnt : okN m tb ta) (hq : (onM m tb ta).length = 0) (hA : nk = 4) (hB : nfb ≠ tb) :
    Calls Tryz.prog 70 #[.pointer (some ⟨p, 0, none⟩), .agg #[.int .i64 4, .int .i64 d, .int .i64 fb, .int .i64 fa, .int .i64 tb, .int .i64 ta, .int .i64 car, .int .i64 rk], .agg #[.int .i64 nk, .int .i64 nd, .int .i64 nfb, .int .i64 nfa, .int .i64 ntb, .int .i64 nta, .int .i64 nc, .int .i64 nr]] w fun e w' => e = .returned (.int .i64 0) ∧ Up w w' := by
  subst hA
  obtain ⟨g1, u1, hH1, -⟩ := h.hold hi (b := tb) (a := ta) hnt
  obtain ⟨A1, c1, rfl, hl1, hc1, -⟩ := hH1.own.ints.shape
  obtain ⟨l1, HL1⟩ : ∃ l1 : List Int, Hid (l1 = onM m tb ta) := ⟨_, rfl⟩
  rw [← HL1.out] at hH1 hl1 hq
  obtain ⟨⟨o0, o1, o2, o3, o4, o5, o6, o7⟩, ⟨n0, n1, n2, n3, n4, n5, n6, n7⟩, hG0⟩ := box88 w (.int .i64 4) (.int .i64 d) (.int .i64 fb) (.int .i64 fa) (.int .i64 tb) (.int .i64 ta) (.int .i64 car) (.int .i64 rk) (.int .i64 4) (.int .i64 nd) (.int .i64 nfb) (.int .i64 nfa) (.int .i64 ntb) (.int .i64 nta) (.int .i64 nc) (.int .i64 nr) 44
  have G0 := Lib.hid hG0
  clear hG0 o1 o6 o7 n1 n6 n7
  have p1 := Chg.cell G0.out h.c1.1 id
  have hrk := hi.rack
  have H1 := Lib.hid (hH1.up G0.out)
  have hcl := H1.out.cell.1
  clear hH1
  clear h hi
  have t0 : ((l1.length : Int) == 0) = true := by simpa using hq
  have t1 : (nfb == tb) = false := by simpa using hB
  go_enter Tryz.func70, Tryz.ntmps70
  go_wp2_with fail
  refine (on_any _ p tb ta g1 _ _ H1.out).mono ?_
  rintro e w1 ⟨rfl, gu⟩
  have hh := cc8 gu o0 o2 o3 o4 o5 n0 n2 n3
  obtain ⟨o0, o2, o3, o4, o5, n0, n2, n3⟩ := hh
  have hh := cc4 gu n4 n5 p1 hcl
  obtain ⟨n4, n5, p1, hcl⟩ := hh
  have G1 := Lib.hid (Chg.trans G0.out gu)
  clear gu
  go_wp2
  go_ret
  exact ⟨rfl, G1.out⟩
theorem rf_xfer_d (w : World) {S : Nat → Prop} {K p : Nat} {m : MachM} {F B C L D : Value} {fs bs : List Value} (h : MachX w S K p m F B C L D fs bs) (hi : MInv m) (d fb fa tb ta car rk nk nd nfb nfa ntb nta nc nr : Int) (hnt : okN m tb ta) (hq : (onM m tb ta).length = 0) (hA : nk = 4) (hB : nfb = tb) (hC : nfa ≠ ta) :
    Calls Tryz.prog 70 #[.pointer (some ⟨p, 0, none⟩), .agg #[.int .i64 4, .int .i64 d, .int .i64 fb, .int .i64 fa, .int .i64 tb, .int .i64 ta, .int .i64 car, .int .i64 rk], .agg #[.int .i64 nk, .int .i64 nd, .int .i64 nfb, .int .i64 nfa, .int .i64 ntb, .int .i64 nta, .int .i64 nc, .int .i64 nr]] w fun e w' => e = .returned (.int .i64 0) ∧ Up w w' := by
  subst hA
  subst hB
  obtain ⟨g1, u1, hH1, -⟩ := h.hold hi (b := nfb) (a := ta) hnt
  obtain ⟨A1, c1, rfl, hl1, hc1, -⟩ := hH1.own.ints.shape
  obtain ⟨l1, HL1⟩ : ∃ l1 : List Int, Hid (l1 = onM m nfb ta) := ⟨_, rfl⟩
  rw [← HL1.out] at hH1 hl1 hq
  obtain ⟨⟨o0, o1, o2, o3, o4, o5, o6, o7⟩, ⟨n0, n1, n2, n3, n4, n5, n6, n7⟩, hG0⟩ := box88 w (.int .i64 4) (.int .i64 d) (.int .i64 fb) (.int .i64 fa) (.int .i64 nfb) (.int .i64 ta) (.int .i64 car) (.int .i64 rk) (.int .i64 4) (.int .i64 nd) (.int .i64 nfb) (.int .i64 nfa) (.int .i64 ntb) (.int .i64 nta) (.int .i64 nc) (.int .i64 nr) 44
  have G0 := Lib.hid hG0
  clear hG0 o1 o6 o7 n1 n6 n7
  have p1 := Chg.cell G0.out h.c1.1 id
  have hrk := hi.rack
  have H1 := Lib.hid (hH1.up G0.out)
  have hcl := H1.out.cell.1
  clear hH1
  clear h hi
  have t0 : ((l1.length : Int) == 0) = true := by simpa using hq
  have t1 : (nfa == ta) = false := by simpa using hC
  go_enter Tryz.func70, Tryz.ntmps70
  go_wp2_with fail
  refine (on_any _ p nfb ta g1 _ _ H1.out).mono ?_
  rintro e w1 ⟨rfl, gu⟩
  have hh := cc8 gu o0 o2 o3 o4 o5 n0 n2 n3
  obtain ⟨o0, o2, o3, o4, o5, n0, n2, n3⟩ := hh
  have hh := cc4 gu n4 n5 p1 hcl
  obtain ⟨n4, n5, p1, hcl⟩ := hh
  have G1 := Lib.hid (Chg.trans G0.out gu)
  clear gu
  go_wp2
  go_ret
  exact ⟨rfl, G1.out⟩
theorem rf_xfer_e (w : World) {S : Nat → Prop} {K p : Nat} {m : MachM} {F B C L D : Value} {fs bs : List Value} (h : MachX w S K p m F B C L D fs bs) (hi : MInv m) (d fb fa tb ta car rk nk nd nfb nfa ntb nta nc nr : Int) (hnt : okN m tb ta) (hq : (onM m tb ta).length = 0) (hA : nk = 4) (hB : nfb = tb) (hC : nfa = ta) (hD : ntb ≠ fb) :
    Calls Tryz.prog 70 #[.pointer (some ⟨p, 0, none⟩), .agg #[.int .i64 4, .int .i64 d, .int .i64 fb, .int .i64 fa, .int .i64 tb, .int .i64 ta, .int .i64 car, .int .i64 rk], .agg #[.int .i64 nk, .int .i64 nd, .int .i64 nfb, .int .i64 nfa, .int .i64 ntb, .int .i64 nta, .int .i64 nc, .int .i64 nr]] w fun e w' => e = .returned (.int .i64 0) ∧ Up w w' := by
  subst hA
  subst hB
  subst hC
  obtain ⟨g1, u1, hH1, -⟩ := h.hold hi (b := nfb) (a := nfa) hnt
  obtain ⟨A1, c1, rfl, hl1, hc1, -⟩ := hH1.own.ints.shape
  obtain ⟨l1, HL1⟩ : ∃ l1 : List Int, Hid (l1 = onM m nfb nfa) := ⟨_, rfl⟩
  rw [← HL1.out] at hH1 hl1 hq
  obtain ⟨⟨o0, o1, o2, o3, o4, o5, o6, o7⟩, ⟨n0, n1, n2, n3, n4, n5, n6, n7⟩, hG0⟩ := box88 w (.int .i64 4) (.int .i64 d) (.int .i64 fb) (.int .i64 fa) (.int .i64 nfb) (.int .i64 nfa) (.int .i64 car) (.int .i64 rk) (.int .i64 4) (.int .i64 nd) (.int .i64 nfb) (.int .i64 nfa) (.int .i64 ntb) (.int .i64 nta) (.int .i64 nc) (.int .i64 nr) 44
  have G0 := Lib.hid hG0
  clear hG0 o1 o6 o7 n1 n6 n7
  have p1 := Chg.cell G0.out h.c1.1 id
  have hrk := hi.rack
  have H1 := Lib.hid (hH1.up G0.out)
  have hcl := H1.out.cell.1
  clear hH1
  clear h hi
  have t0 : ((l1.length : Int) == 0) = true := by simpa using hq
  have t1 : (ntb == fb) = false := by simpa using hD
  go_enter Tryz.func70, Tryz.ntmps70
  go_wp2_with fail
  refine (on_any _ p nfb nfa g1 _ _ H1.out).mono ?_
  rintro e w1 ⟨rfl, gu⟩
  have hh := cc8 gu o0 o2 o3 o4 o5 n0 n2 n3
  obtain ⟨o0, o2, o3, o4, o5, n0, n2, n3⟩ := hh
  have hh := cc4 gu n4 n5 p1 hcl
  obtain ⟨n4, n5, p1, hcl⟩ := hh
  have G1 := Lib.hid (Chg.trans G0.out gu)
  clear gu
  go_wp2
  go_ret
  exact ⟨rfl, G1.out⟩
theorem rf_xfer_f (w : World) {S : Nat → Prop} {K p : Nat} {m : MachM} {F B C L D : Value} {fs bs : List Value} (h : MachX w S K p m F B C L D fs bs) (hi : MInv m) (d fb fa tb ta car rk nk nd nfb nfa ntb nta nc nr : Int) (hnt : okN m tb ta) (hq : (onM m tb ta).length = 0) (hA : nk = 4) (hB : nfb = tb) (hC : nfa = ta) (hD : ntb = fb) (hE : nta ≠ fa) :
    Calls Tryz.prog 70 #[.pointer (some ⟨p, 0, none⟩), .agg #[.int .i64 4, .int .i64 d, .int .i64 fb, .int .i64 fa, .int .i64 tb, .int .i64 ta, .int .i64 car, .int .i64 rk], .agg #[.int .i64 nk, .int .i64 nd, .int .i64 nfb, .int .i64 nfa, .int .i64 ntb, .int .i64 nta, .int .i64 nc, .int .i64 nr]] w fun e w' => e = .returned (.int .i64 0) ∧ Up w w' := by
  subst hA
  subst hB
  subst hC
  subst hD
  obtain ⟨g1, u1, hH1, -⟩ := h.hold hi (b := nfb) (a := nfa) hnt
  obtain ⟨A1, c1, rfl, hl1, hc1, -⟩ := hH1.own.ints.shape
  obtain ⟨l1, HL1⟩ : ∃ l1 : List Int, Hid (l1 = onM m nfb nfa) := ⟨_, rfl⟩
  rw [← HL1.out] at hH1 hl1 hq
  obtain ⟨⟨o0, o1, o2, o3, o4, o5, o6, o7⟩, ⟨n0, n1, n2, n3, n4, n5, n6, n7⟩, hG0⟩ := box88 w (.int .i64 4) (.int .i64 d) (.int .i64 ntb) (.int .i64 fa) (.int .i64 nfb) (.int .i64 nfa) (.int .i64 car) (.int .i64 rk) (.int .i64 4) (.int .i64 nd) (.int .i64 nfb) (.int .i64 nfa) (.int .i64 ntb) (.int .i64 nta) (.int .i64 nc) (.int .i64 nr) 44
  have G0 := Lib.hid hG0
  clear hG0 o1 o6 o7 n1 n6 n7
  have p1 := Chg.cell G0.out h.c1.1 id
  have hrk := hi.rack
  have H1 := Lib.hid (hH1.up G0.out)
  have hcl := H1.out.cell.1
  clear hH1
  clear h hi
  have t0 : ((l1.length : Int) == 0) = true := by simpa using hq
  have t1 : (nta == fa) = false := by simpa using hE
  go_enter Tryz.func70, Tryz.ntmps70
  go_wp2_with fail
  refine (on_any _ p nfb nfa g1 _ _ H1.out).mono ?_
  rintro e w1 ⟨rfl, gu⟩
  have hh := cc8 gu o0 o2 o3 o4 o5 n0 n2 n3
  obtain ⟨o0, o2, o3, o4, o5, n0, n2, n3⟩ := hh
  have hh := cc4 gu n4 n5 p1 hcl
  obtain ⟨n4, n5, p1, hcl⟩ := hh
  have G1 := Lib.hid (Chg.trans G0.out gu)
  clear gu
  go_wp2
  go_ret
  exact ⟨rfl, G1.out⟩
theorem rf_xfer (w : World) {S : Nat → Prop} {K p : Nat} {m : MachM} {F B C L D : Value} {fs bs : List Value} (h : MachX w S K p m F B C L D fs bs) (hi : MInv m) (d fb fa tb ta car rk nk nd nfb nfa ntb nta nc nr : Int) (hnt : okN m tb ta) (hq : (onM m tb ta).length = 0) (hA : nk = 4) (hB : nfb = tb) (hC : nfa = ta) (hD : ntb = fb) (hE : nta = fa) :
    Calls Tryz.prog 70 #[.pointer (some ⟨p, 0, none⟩), .agg #[.int .i64 4, .int .i64 d, .int .i64 fb, .int .i64 fa, .int .i64 tb, .int .i64 ta, .int .i64 car, .int .i64 rk], .agg #[.int .i64 nk, .int .i64 nd, .int .i64 nfb, .int .i64 nfa, .int .i64 ntb, .int .i64 nta, .int .i64 nc, .int .i64 nr]] w fun e w' => e = .returned (.int .i64 4) ∧ Up w w' := by
  subst hA
  subst hB
  subst hC
  subst hD
  subst hE
  obtain ⟨g1, u1, hH1, -⟩ := h.hold hi (b := nfb) (a := nfa) hnt
  obtain ⟨A1, c1, rfl, hl1, hc1, -⟩ := hH1.own.ints.shape
  obtain ⟨l1, HL1⟩ : ∃ l1 : List Int, Hid (l1 = onM m nfb nfa) := ⟨_, rfl⟩
  rw [← HL1.out] at hH1 hl1 hq
  obtain ⟨⟨o0, o1, o2, o3, o4, o5, o6, o7⟩, ⟨n0, n1, n2, n3, n4, n5, n6, n7⟩, hG0⟩ := box88 w (.int .i64 4) (.int .i64 d) (.int .i64 ntb) (.int .i64 nta) (.int .i64 nfb) (.int .i64 nfa) (.int .i64 car) (.int .i64 rk) (.int .i64 4) (.int .i64 nd) (.int .i64 nfb) (.int .i64 nfa) (.int .i64 ntb) (.int .i64 nta) (.int .i64 nc) (.int .i64 nr) 44
  have G0 := Lib.hid hG0
  clear hG0 o1 o6 o7 n1 n6 n7
  have p1 := Chg.cell G0.out h.c1.1 id
  have hrk := hi.rack
  have H1 := Lib.hid (hH1.up G0.out)
  have hcl := H1.out.cell.1
  clear hH1
  clear h hi
  have t0 : ((l1.length : Int) == 0) = true := by simpa using hq
  go_enter Tryz.func70, Tryz.ntmps70
  go_wp2_with fail
  refine (on_any _ p nfb nfa g1 _ _ H1.out).mono ?_
  rintro e w1 ⟨rfl, gu⟩
  have hh := cc8 gu o0 o2 o3 o4 o5 n0 n2 n3
  obtain ⟨o0, o2, o3, o4, o5, n0, n2, n3⟩ := hh
  have hh := cc4 gu n4 n5 p1 hcl
  obtain ⟨n4, n5, p1, hcl⟩ := hh
  have G1 := Lib.hid (Chg.trans G0.out gu)
  clear gu
  go_wp2
  go_ret
  exact ⟨rfl, G1.out⟩
theorem rf_in_a (w : World) {S : Nat → Prop} {K p : Nat} {m : MachM} {F B C L D : Value} {fs bs : List Value} (h : MachX w S K p m F B C L D fs bs) (hi : MInv m) (d fb fa tb ta car rk nk nd nfb nfa ntb nta nc nr : Int) (hA : nk ≠ 9) :
    Calls Tryz.prog 70 #[.pointer (some ⟨p, 0, none⟩), .agg #[.int .i64 8, .int .i64 d, .int .i64 fb, .int .i64 fa, .int .i64 tb, .int .i64 ta, .int .i64 car, .int .i64 rk], .agg #[.int .i64 nk, .int .i64 nd, .int .i64 nfb, .int .i64 nfa, .int .i64 ntb, .int .i64 nta, .int .i64 nc, .int .i64 nr]] w fun e w' => e = .returned (.int .i64 0) ∧ Up w w' := by
  obtain ⟨⟨o0, o1, o2, o3, o4, o5, o6, o7⟩, ⟨n0, n1, n2, n3, n4, n5, n6, n7⟩, hG0⟩ := box88 w (.int .i64 8) (.int .i64 d) (.int .i64 fb) (.int .i64 fa) (.int .i64 tb) (.int .i64 ta) (.int .i64 car) (.int .i64 rk) (.int .i64 nk) (.int .i64 nd) (.int .i64 nfb) (.int .i64 nfa) (.int .i64 ntb) (.int .i64 nta) (.int .i64 nc) (.int .i64 nr) 44
  have G0 := Lib.hid hG0
  clear hG0 o1 o2 o3 o4 o5 o7 n1 n2 n3 n4 n5 n7
  have p1 := Chg.cell G0.out h.c1.1 id
  have hrk := hi.rack
  clear h hi
  have t1 : (nk == 9) = false := by simpa using hA
  go_enter Tryz.func70, Tryz.ntmps70
  go_wp2
  go_ret
  exact ⟨rfl, G0.out⟩
theorem rf_in_b (w : World) {S : Nat → Prop} {K p : Nat} {m : MachM} {F B C L D : Value} {fs bs : List Value} (h : MachX w S K p m F B C L D fs bs) (hi : MInv m) (d fb fa tb ta car rk nk nd nfb nfa ntb nta nc nr : Int) (hA : nk = 9) (hB : nc ≠ car) :
    Calls Tryz.prog 70 #[.pointer (some ⟨p, 0, none⟩), .agg #[.int .i64 8, .int .i64 d, .int .i64 fb, .int .i64 fa, .int .i64 tb, .int .i64 ta, .int .i64 car, .int .i64 rk], .agg #[.int .i64 nk, .int .i64 nd, .int .i64 nfb, .int .i64 nfa, .int .i64 ntb, .int .i64 nta, .int .i64 nc, .int .i64 nr]] w fun e w' => e = .returned (.int .i64 0) ∧ Up w w' := by
  subst hA
  obtain ⟨⟨o0, o1, o2, o3, o4, o5, o6, o7⟩, ⟨n0, n1, n2, n3, n4, n5, n6, n7⟩, hG0⟩ := box88 w (.int .i64 8) (.int .i64 d) (.int .i64 fb) (.int .i64 fa) (.int .i64 tb) (.int .i64 ta) (.int .i64 car) (.int .i64 rk) (.int .i64 9) (.int .i64 nd) (.int .i64 nfb) (.int .i64 nfa) (.int .i64 ntb) (.int .i64 nta) (.int .i64 nc) (.int .i64 nr) 44
  have G0 := Lib.hid hG0
  clear hG0 o1 o2 o3 o4 o5 o7 n1 n2 n3 n4 n5 n7
  have p1 := Chg.cell G0.out h.c1.1 id
  have hrk := hi.rack
  clear h hi
  have t1 : (nc == car) = false := by simpa using hB
  go_enter Tryz.func70, Tryz.ntmps70
  go_wp2
  go_ret
  exact ⟨rfl, G0.out⟩
theorem rf_in (w : World) {S : Nat → Prop} {K p : Nat} {m : MachM} {F B C L D : Value} {fs bs : List Value} (h : MachX w S K p m F B C L D fs bs) (hi : MInv m) (d fb fa tb ta car rk nk nd nfb nfa ntb nta nc nr : Int) (hA : nk = 9) (hB : nc = car) :
    Calls Tryz.prog 70 #[.pointer (some ⟨p, 0, none⟩), .agg #[.int .i64 8, .int .i64 d, .int .i64 fb, .int .i64 fa, .int .i64 tb, .int .i64 ta, .int .i64 car, .int .i64 rk], .agg #[.int .i64 nk, .int .i64 nd, .int .i64 nfb, .int .i64 nfa, .int .i64 ntb, .int .i64 nta, .int .i64 nc, .int .i64 nr]] w fun e w' => e = .returned (.int .i64 5) ∧ Up w w' := by
  subst hA
  subst hB
  obtain ⟨⟨o0, o1, o2, o3, o4, o5, o6, o7⟩, ⟨n0, n1, n2, n3, n4, n5, n6, n7⟩, hG0⟩ := box88 w (.int .i64 8) (.int .i64 d) (.int .i64 fb) (.int .i64 fa) (.int .i64 tb) (.int .i64 ta) (.int .i64 nc) (.int .i64 rk) (.int .i64 9) (.int .i64 nd) (.int .i64 nfb) (.int .i64 nfa) (.int .i64 ntb) (.int .i64 nta) (.int .i64 nc) (.int .i64 nr) 44
  have G0 := Lib.hid hG0
  clear hG0 o1 o2 o3 o4 o5 o7 n1 n2 n3 n4 n5 n7
  have p1 := Chg.cell G0.out h.c1.1 id
  have hrk := hi.rack
  clear h hi
  go_enter Tryz.func70, Tryz.ntmps70
  go_wp2
  go_ret
  exact ⟨rfl, G0.out⟩
theorem ruleFor_any (w : World) {S : Nat → Prop} {K p : Nat} {m : MachM} {F B C L D : Value} {fs bs : List Value} (h : MachX w S K p m F B C L D fs bs) (hi : MInv m) (x y : OpM) (hx : okOp m.wd x) (hy : 0 ≤ y.fa ∧ y.fa ≤ 1000) :
    Calls Tryz.prog 70 #[.pointer (some ⟨p, 0, none⟩), x.val, y.val] w fun e w' => e = .returned (.int .i64 (ruleM m x y)) ∧ Up w w' := by
  have hv := valid_cases hx.1
  have htw := hx.2.2
  obtain ⟨k, d, fb, fa, tb, ta, car, rk⟩ := x
  obtain ⟨nk, nd, nfb, nfa, ntb, nta, nc, nr⟩ := y
  dsimp only at hv hy htw
  rcases hv with ⟨hk, hd, hn, hc, -, -, -⟩ | ⟨rfl, hn, hn2, hbb, -, -, -⟩ | ⟨rfl, hn, hn2, hbb, hd, hc, -⟩ | ⟨rfl, hn, -⟩ | ⟨rfl, hr, -⟩ | ⟨rfl, hd, hc, -⟩ | ⟨rfl, hc, -⟩
  · rcases hk with rfl | rfl | rfl
    · exact rf_none1 w h hi d fb fa tb ta car rk nk nd nfb nfa ntb nta nc nr
    · exact rf_none2 w h hi d fb fa tb ta car rk nk nd nfb nfa ntb nta nc nr
    · have hfa : 0 ≤ fa ∧ fa ≤ 1000 := by omega
      cases hA : yarnB nk with
      | false =>
        have : ruleM m ⟨3, d, fb, fa, tb, ta, car, rk⟩ ⟨nk, nd, nfb, nfa, ntb, nta, nc, nr⟩ = 0 := by unfold ruleM; rw [if_neg (by show ¬ (3 : Int) = 7; decide), if_pos rfl, if_neg (by simp [hA])]
        rw [this]
        exact rf_miss_a w h hi d fb fa tb ta car rk nk nd nfb nfa ntb nta nc nr hfa hy hd hA
      | true =>
        have e0 : ruleM m ⟨3, d, fb, fa, tb, ta, car, rk⟩ ⟨nk, nd, nfb, nfa, ntb, nta, nc, nr⟩ = if yarnB nk = true ∧ nc = car ∧ nd = d ∧ 0 < (placeM nfb nfa m.rack - placeM fb fa m.rack) * d then 3 else 0 := rfl
        rw [e0]
        by_cases hB : nc = car
        · by_cases hC : nd = d
          · by_cases hD : 0 < (placeM nfb nfa m.rack - placeM fb fa m.rack) * d
            · rw [if_pos ⟨hA, hB, hC, hD⟩]
              exact rf_miss w h hi d fb fa tb ta car rk nk nd nfb nfa ntb nta nc nr hfa hy hd hA hB hC hD
            · rw [if_neg (fun h => hD h.2.2.2)]
              exact rf_miss_d w h hi d fb fa tb ta car rk nk nd nfb nfa ntb nta nc nr hfa hy hd hA hB hC hD
          · rw [if_neg (fun h => hC h.2.2.1)]
            exact rf_miss_c w h hi d fb fa tb ta car rk nk nd nfb nfa ntb nta nc nr hfa hy hd hA hB hC
        · rw [if_neg (fun h => hB h.2.1)]
          exact rf_miss_b w h hi d fb fa tb ta car rk nk nd nfb nfa ntb nta nc nr hfa hy hd hA hB
  · have hnt : okN m tb ta := ⟨hn2.1, hn2.2.1, htw⟩
    have e0 : ruleM m ⟨4, d, fb, fa, tb, ta, car, rk⟩ ⟨nk, nd, nfb, nfa, ntb, nta, nc, nr⟩ = if (onM m tb ta).length = 0 ∧ nk = 4 ∧ nfb = tb ∧ nfa = ta ∧ ntb = fb ∧ nta = fa then 4 else 0 := rfl
    rw [e0]
    by_cases hq : (onM m tb ta).length = 0
    · by_cases hA : nk = 4
      · by_cases hB : nfb = tb
        · by_cases hC : nfa = ta
          · by_cases hD : ntb = fb
            · by_cases hE : nta = fa
              · rw [if_pos ⟨hq, hA, hB, hC, hD, hE⟩]
                exact rf_xfer w h hi d fb fa tb ta car rk nk nd nfb nfa ntb nta nc nr hnt hq hA hB hC hD hE
              · rw [if_neg (fun h => hE h.2.2.2.2.2)]
                exact rf_xfer_f w h hi d fb fa tb ta car rk nk nd nfb nfa ntb nta nc nr hnt hq hA hB hC hD hE
            · rw [if_neg (fun h => hD h.2.2.2.2.1)]
              exact rf_xfer_e w h hi d fb fa tb ta car rk nk nd nfb nfa ntb nta nc nr hnt hq hA hB hC hD
          · rw [if_neg (fun h => hC h.2.2.2.1)]
            exact rf_xfer_d w h hi d fb fa tb ta car rk nk nd nfb nfa ntb nta nc nr hnt hq hA hB hC
        · rw [if_neg (fun h => hB h.2.2.1)]
          exact rf_xfer_c w h hi d fb fa tb ta car rk nk nd nfb nfa ntb nta nc nr hnt hq hA hB
      · rw [if_neg (fun h => hA h.2.1)]
        exact rf_xfer_b w h hi d fb fa tb ta car rk nk nd nfb nfa ntb nta nc nr hnt hq hA
    · rw [if_neg (fun h => hq h.1)]
      exact rf_xfer_a w h hi d fb fa tb ta car rk nk nd nfb nfa ntb nta nc nr hnt hq
  · exact rf_none5 w h hi d fb fa tb ta car rk nk nd nfb nfa ntb nta nc nr
  · exact rf_none6 w h hi d fb fa tb ta car rk nk nd nfb nfa ntb nta nc nr
  · have e0 : ruleM m ⟨7, d, fb, fa, tb, ta, car, rk⟩ ⟨nk, nd, nfb, nfa, ntb, nta, nc, nr⟩ = if rk = m.rack then 1 else if nk = 7 then 2 else 0 := rfl
    rw [e0]
    by_cases ht : rk = m.rack
    · rw [if_pos ht]
      exact rf_rack1 w h hi d fb fa tb ta car rk nk nd nfb nfa ntb nta nc nr ht
    · rw [if_neg ht]
      by_cases hn : nk = 7
      · rw [if_pos hn]
        exact rf_rack2 w h hi d fb fa tb ta car rk nk nd nfb nfa ntb nta nc nr ht hn
      · rw [if_neg hn]
        exact rf_rack0 w h hi d fb fa tb ta car rk nk nd nfb nfa ntb nta nc nr ht hn
  · have e0 : ruleM m ⟨8, d, fb, fa, tb, ta, car, rk⟩ ⟨nk, nd, nfb, nfa, ntb, nta, nc, nr⟩ = if nk = 9 ∧ nc = car then 5 else 0 := rfl
    rw [e0]
    by_cases hA : nk = 9
    · by_cases hB : nc = car
      · rw [if_pos ⟨hA, hB⟩]
        exact rf_in w h hi d fb fa tb ta car rk nk nd nfb nfa ntb nta nc nr hA hB
      · rw [if_neg (fun h => hB h.2)]
        exact rf_in_b w h hi d fb fa tb ta car rk nk nd nfb nfa ntb nta nc nr hA hB
    · rw [if_neg (fun h => hA h.1)]
      exact rf_in_a w h hi d fb fa tb ta car rk nk nd nfb nfa ntb nta nc nr hA
  · exact rf_none9 w h hi d fb fa tb ta car rk nk nd nfb nfa ntb nta nc nr
end Go.Proofs.YtiiodfcbpmkodaaGreat
