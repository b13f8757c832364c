/- The reference makes a loop. No condition. The reference brings a carrier in or out. No condition. The reference puts a number among rising ones: the memory that it returns. No condition. The reference carries out an operation. No condition but room. The reference carries out an operation: dropped loops; the whole contract. No condition but room. The reference's rule at an operation. No condition. Operations carried out one after the other: the machine ahead of each. No condition. -/
import Derived.Test.YtplabnjdhkmmkaaPF15
import Derived.Test.YtplabnjdhkmmkaaPF11
section
set_option linter.unusedSimpArgs false
set_option linter.unusedVariables false
set_option maxRecDepth 100000
set_option maxHeartbeats 8000000
namespace Go.Proofs.Ytplabnjdhkmmkaa
open Go.ChangeShapes Go.WideShapes Go.ChangeAt Go.RowKit
attribute [local go_sem ↓] Go.wp_at_zero Go.wp_at_succ
theorem l07SetB (b : Int) (hb12 : b = 1 ∨ b = 2) (w0 w : World) (k0 : Up w0 w) {S : Nat → Prop} {K p : Nat} {m : MachM} {F B C L D : Value} {fs bs : List Value} (h : MachX w0 S K p m F B C L D fs bs) (hS : NewIn S w0) {a : Int} {g : Nat} {v : Value} {l0 : List Int} (hv : AtN F B fs bs b a g v) (hH : Hold w0 p b a g v l0) {A' : Option Addr} {c' : Nat} {l' : List Int} (ho : OwnI w 0 (.slice A' l'.length c') l') (hb : ∀ x, (Value.slice A' l'.length c').ownBlock = some x → v.ownBlock = some x ∨ w0.heap.size ≤ x) :
    Calls Try.prog 69 #[.pointer (some ⟨p, 0, none⟩), .agg #[.int .i64 b, .int .i64 a], .slice A' l'.length c'] w fun e w' => e = .returned (.tuple #[]) ∧ Mach w' S K p (setM m b a l') ∧ Chg S w0 w' := by
  rcases hb12 with rfl | rfl
  · exact (l07Set_1 w0 w k0 h hS hv hH ho hb).mono fun e w' ⟨a, b, c⟩ => ⟨a, b.mach, c⟩
  · exact (l07Set_2 w0 w k0 h hS hv hH ho hb).mono fun e w' ⟨a, b, c⟩ => ⟨a, b.mach, c⟩
theorem l07PutB (b : Int) (hb12 : b = 1 ∨ b = 2) (w0 w : World) (k0 : Up w0 w) {S : Nat → Prop} {K p : Nat} {m : MachM} {F B C L D : Value} {fs bs : List Value} (h : MachX w0 S K p m F B C L D fs bs) {a : Int} {g : Nat} {v : Value} {l0 : List Int} (hv : AtN F B fs bs b a g v) (hH : Hold w0 p b a g v l0) {A' : Option Addr} {c' : Nat} {l' : List Int} (ho : OwnI w 0 (.slice A' l'.length c') l') (hb : ∀ x, (Value.slice A' l'.length c').ownBlock = some x → v.ownBlock = some x ∨ ¬ (S x ∧ x < w0.heap.size)) :
    Calls Try.prog 69 #[.pointer (some ⟨p, 0, none⟩), .agg #[.int .i64 b, .int .i64 a], .slice A' l'.length c'] w fun e w' => e = .returned (.tuple #[]) ∧ Mach w' (fun x => S x ∨ (Value.slice A' l'.length c').ownBlock = some x) K p (setM m b a l') ∧ Chg S w0 w' := by
  rcases hb12 with rfl | rfl
  · exact (l07Put_1 w0 w k0 h hv hH ho hb).mono fun e w' ⟨a, b, c⟩ => ⟨a, b.mach, c⟩
  · exact (l07Put_2 w0 w k0 h hv hH ho hb).mono fun e w' ⟨a, b, c⟩ => ⟨a, b.mach, c⟩
theorem form_no (w : World) {S : Nat → Prop} {K p : Nat} {m : MachM} {F B C L D : Value} {fs bs : List Value} (h : MachX w S K p m F B C L D fs bs) (hS : NewIn S w) (hi : MInv m) (bo oi : Nat) (k d fb fa tb ta car rk : Int) (hd : d = 1 ∨ d = -1) (hca : 1 ≤ car ∧ car ≤ 4) (hO : OpC w bo oi ⟨k, d, fb, fa, tb, ta, car, rk⟩) (hb : ¬ S bo) (hfb : fb = 1 ∨ fb = 2) (hfa : 0 ≤ fa ∧ fa ≤ 23) (hfw : fa < m.wd) (hr : rideB m ⟨k, d, fb, fa, tb, ta, car, rk⟩ = false) :
    Calls Try.prog 65 #[.pointer (some ⟨p, 0, none⟩), .pointer (some ⟨bo, oi, none⟩)] w fun e w' => e = .returned (.int .i64 9) ∧ Chg S w w' := by
  have HR := Lib.hid hr
  clear hr
  have o0 := hO.c0
  have o2 := hO.c2
  have o3 : w.cell? ⟨bo, oi + 2 + 1, none⟩ = _ := hO.c3
  dsimp only at o0 o2 o3
  have HX := Lib.hid h
  have HI := Lib.hid hi
  have HS := Lib.hid hS
  have HO := Lib.hid hO
  clear h hi hS hO
  go_enter Try.func65, Try.ntmps65
  go_wp2_with fail
  refine (carry_any _ HX.out HI.out bo oi ⟨k, d, fb, fa, tb, ta, car, rk⟩ hd hca HO.out hb hfa).mono ?_
  rintro e w1 ⟨rfl, x1, g1⟩
  rw [HR.out]
  have o0 := Chg.cell g1 o0 hb
  have o2 := Chg.cell g1 o2 hb
  have o3 := Chg.cell g1 o3 hb
  have G1 := Lib.hid g1
  clear g1 x1
  go_wp2
  go_ret
  exact ⟨rfl, G1.out⟩
theorem form_full (w : World) {S : Nat → Prop} {K p : Nat} {m : MachM} {F B C L D : Value} {fs bs : List Value} (h : MachX w S K p m F B C L D fs bs) (hS : NewIn S w) (hi : MInv m) (bo oi : Nat) (k d fb fa tb ta car rk : Int) (hd : d = 1 ∨ d = -1) (hca : 1 ≤ car ∧ car ≤ 4) (hO : OpC w bo oi ⟨k, d, fb, fa, tb, ta, car, rk⟩) (hb : ¬ S bo) (hfb : fb = 1 ∨ fb = 2) (hfa : 0 ≤ fa ∧ fa ≤ 23) (hfw : fa < m.wd) (hr : rideB m ⟨k, d, fb, fa, tb, ta, car, rk⟩ = true) (hf : 300 ≤ m.nl) :
    Calls Try.prog 65 #[.pointer (some ⟨p, 0, none⟩), .pointer (some ⟨bo, oi, none⟩)] w fun e w' => e = .returned (.int .i64 5) ∧ Chg S w w' := by
  have hin := ride_in hr
  have HI1 : Hid (MInv (ridM m ⟨k, d, fb, fa, tb, ta, car, rk⟩)) := Lib.hid (hi.rid hfa hin)
  obtain ⟨csL, hL⟩ := h.l
  obtain ⟨A5, c5, rfl, hl5, hc5, -⟩ := ownsRow_shape hL
  clear hL
  have HR := Lib.hid hr
  clear hr
  have o0 := hO.c0
  have o2 := hO.c2
  have o3 : w.cell? ⟨bo, oi + 2 + 1, none⟩ = _ := hO.c3
  dsimp only at o0 o2 o3
  have HX := Lib.hid h
  have HI := Lib.hid hi
  have HS := Lib.hid hS
  have HO := Lib.hid hO
  clear h hi hS hO
  go_enter Try.func65, Try.ntmps65
  go_wp2_with fail
  refine (carry_any _ HX.out HI.out bo oi ⟨k, d, fb, fa, tb, ta, car, rk⟩ hd hca HO.out hb hfa).mono ?_
  rintro e w1 ⟨rfl, x1, g1⟩
  rw [HR.out]
  have o0 := Chg.cell g1 o0 hb
  have o2 := Chg.cell g1 o2 hb
  have o3 := Chg.cell g1 o3 hb
  have X1 := Lib.hid (x1 HR.out)
  have G1 := Lib.hid g1
  clear x1 g1
  have C5 : w1.cell? ⟨p, 5, none⟩ = some (.slice A5 m.nl c5) := X1.out.c5.1
  have O1 := Lib.hid (HO.out.keep G1.out hb)
  have HS1 := Lib.hid (HS.out.up G1.out)
  have t1 : decide ((300 : Int) ≤ (m.nl : Int)) = true := decide_eq_true (by omega)
  go_wp2
  go_ret
  exact ⟨rfl, G1.out⟩
theorem form_knit (w : World) {S : Nat → Prop} {K p : Nat} {m : MachM} {F B C L D : Value} {fs bs : List Value} (h : MachX w S K p m F B C L D fs bs) (hS : NewIn S w) (hi : MInv m) (bo oi : Nat) (d fb fa tb ta car rk : Int) (hd : d = 1 ∨ d = -1) (hca : 1 ≤ car ∧ car ≤ 4) (hO : OpC w bo oi ⟨1, d, fb, fa, tb, ta, car, rk⟩) (hb : ¬ S bo) (hfb : fb = 1 ∨ fb = 2) (hfa : 0 ≤ fa ∧ fa ≤ 23) (hfw : fa < m.wd) (hr : rideB m ⟨1, d, fb, fa, tb, ta, car, rk⟩ = true) (hf : m.nl < 300) :
    Calls Try.prog 65 #[.pointer (some ⟨p, 0, none⟩), .pointer (some ⟨bo, oi, none⟩)] w fun e w' => e = .returned (.int .i64 0) ∧ Mach w' S K p (execM m ⟨1, d, fb, fa, tb, ta, car, rk⟩) ∧ Chg S w w' := by
  have hin := ride_in hr
  have HI1 : Hid (MInv (ridM m ⟨1, d, fb, fa, tb, ta, car, rk⟩)) := Lib.hid (hi.rid hfa hin)
  obtain ⟨csL, hL⟩ := h.l
  obtain ⟨A5, c5, rfl, hl5, hc5, -⟩ := ownsRow_shape hL
  clear hL
  have HR := Lib.hid hr
  clear hr
  have o0 := hO.c0
  have o2 := hO.c2
  have o3 : w.cell? ⟨bo, oi + 2 + 1, none⟩ = _ := hO.c3
  dsimp only at o0 o2 o3
  have HX := Lib.hid h
  have HI := Lib.hid hi
  have HS := Lib.hid hS
  have HO := Lib.hid hO
  clear h hi hS hO
  go_enter Try.func65, Try.ntmps65
  go_wp2_with fail
  refine (carry_any _ HX.out HI.out bo oi ⟨1, d, fb, fa, tb, ta, car, rk⟩ hd hca HO.out hb hfa).mono ?_
  rintro e w1 ⟨rfl, x1, g1⟩
  rw [HR.out]
  have o0 := Chg.cell g1 o0 hb
  have o2 := Chg.cell g1 o2 hb
  have o3 := Chg.cell g1 o3 hb
  have X1 := Lib.hid (x1 HR.out)
  have G1 := Lib.hid g1
  clear x1 g1
  have C5 : w1.cell? ⟨p, 5, none⟩ = some (.slice A5 m.nl c5) := X1.out.c5.1
  have O1 := Lib.hid (HO.out.keep G1.out hb)
  have HS1 := Lib.hid (HS.out.up G1.out)
  have t1 : decide ((300 : Int) ≤ (m.nl : Int)) = false := decide_eq_false (by omega)
  have hnf : okN (ridM m ⟨1, d, fb, fa, tb, ta, car, rk⟩) fb fa := ⟨hfb, hfa.1, hfw⟩
  obtain ⟨g1, u1, hH1, hV1⟩ := X1.out.hold HI1.out (b := fb) (a := fa) hnf
  clear hV1 hnf
  obtain ⟨A1, c1, rfl, hl1, hc1, -⟩ := hH1.own.ints.shape
  rw [rid_on] at hH1 hl1
  have hb1 := (HI.out.on_ fb fa).1
  obtain ⟨l1, HL1⟩ : ∃ l1 : List Int, Hid (l1 = onM m fb fa) := ⟨_, rfl⟩
  rw [← HL1.out] at hH1
  rw [← HL1.out] at hl1 hb1
  have H1 := Lib.hid hH1
  clear hH1
  go_wp2_with fail
  refine (l07On_any _ _ _ _ _ _ _ _ H1.out).mono ?_
  rintro e w2 ⟨rfl, g2⟩
  have hh := cc3 g2 o0 o2 o3
  obtain ⟨o0, o2, o3⟩ := hh
  have G2 := Lib.hid g2
  clear g2
  have HN2 := Lib.hid ((H1.out.up G2.out).own.intsOwn)
  go_wp2_with fail
  refine (ownI_any _ _ _ l1 HN2.out (by omega)).mono ?_
  rintro e w3 ⟨v5, rfl, k5, g3⟩
  obtain ⟨A6, c6, rfl, hl6, hc6, -⟩ := k5.ints.shape
  have hh := cc3 g3 o0 o2 o3
  obtain ⟨o0, o2, o3⟩ := hh
  have G3 := Lib.hid (Chg.trans G2.out g3)
  have hz2 := G2.out.size
  have hz3 := g3.size
  have K5 := Lib.hid k5
  have hbl : ∀ b, (Value.slice A6 l1.length c6).ownBlock = some b → w1.heap.size ≤ b ∧ b < w3.heap.size := fun b e => ⟨Nat.le_trans hz2 (k5.1.lt b e).1, (k5.1.lt b e).2⟩
  have HB5 := Lib.hid hbl
  have X3 := Lib.hid ((X1.out.mono (T := (fun b => S b ∧ (Value.slice A6 l1.length c6).ownBlock ≠ some b)) (fun b h1 h2 => ⟨h2, fun e => by have := (hbl b e).1; omega⟩)).up G3.out)
  have HS3 : Hid (NewIn (fun b => S b ∧ (Value.slice A6 l1.length c6).ownBlock ≠ some b) w3) := Lib.hid (fun b hb => ⟨HS1.out.up G3.out b hb, fun e => by have := (hbl b e).2; omega⟩)
  have O3 := Lib.hid (O1.out.up G3.out)
  have hb3 : ¬ (fun b => S b ∧ (Value.slice A6 l1.length c6).ownBlock ≠ some b) bo := fun h => hb h.1
  have HDL := Lib.hid (fun b e e2 => by have h1 := (hbl b e2).1; have h2 := X1.out.all_lt (Value.slice A5 m.nl c5) (by simp) b e; omega : ∀ b, (Value.slice A5 m.nl c5).ownBlock = some b → ¬ (Value.slice A6 l1.length c6).ownBlock = some b)
  clear g3 k5 hbl hz2 C5 G2 HN2
  have HI2 : Hid (MInv { ridM m ⟨1, d, fb, fa, tb, ta, car, rk⟩ with nl := (ridM m ⟨1, d, fb, fa, tb, ta, car, rk⟩).nl + 1 }) := Lib.hid (have h := HI1.out; ⟨h.wd, h.rack, h.fl, h.bl, h.cl, h.fs, h.bs, h.ca, by show m.nl + 1 ≤ 300; omega⟩)
  have HNI := Lib.hid (show I64 (m.nl : Int) by unfold I64; omega)
  have hfw1 : fa < (ridM m ⟨1, d, fb, fa, tb, ta, car, rk⟩).wd := hfw
  have hf4 : (ridM m ⟨1, d, fb, fa, tb, ta, car, rk⟩).nl < 300 := hf
  go_wp2
  go_region_held3 (fun w' => w'.cell? ⟨bo, oi + 2, none⟩ = some (.int .i64 fb) ∧ w'.cell? ⟨bo, oi + 2 + 1, none⟩ = some (.int .i64 fa))
    (first | (exact ⟨o2, o3⟩) | (exact ⟨Chg.cell gC3 o2 hb3, Chg.cell gC3 o3 hb3⟩) | (exact ⟨Chg.cell gA o2 hb3, Chg.cell gA o3 hb3⟩) | (exact ⟨Chg.cell gA2 o2 hb3, Chg.cell gA2 o3 hb3⟩) | (obtain ⟨q0, q1⟩ : (World.cell? _ _ = _ ∧ World.cell? _ _ = _) := (by assumption); exact ⟨Chg.cell ((Chg.refl Nowhere _).alloc _) q0 id, Chg.cell ((Chg.refl Nowhere _).alloc _) q1 id⟩))
    (first | (go_at_call 92; refine (l07Make_any _ (X3.out.up ((Chg.refl Nowhere w3).drew)) (HS3.out.up ((Chg.refl Nowhere w3).drew)) HI1.out bo oi 1 d fb fa tb ta car rk (O3.out.up ((Chg.refl Nowhere w3).drew)) hb3 hf4 _ _ l1 (K5.out.intsOwn.up ((Chg.refl Nowhere w3).drew)) (by omega) HDL.out).mono ?_; rintro e wA ⟨rfl, ⟨LA, xA⟩, gA⟩; obtain ⟨gN, vN, hN1, hN2⟩ := xA.hold HI2.out (b := fb) (a := fa) ⟨hfb, hfa.1, hfw1⟩; have VN : Hid (AtN F B fs bs fb fa gN vN) := Lib.hid hN2; have HN := Lib.hid hN1; have XA := Lib.hid xA; have gA2 : Chg (fun b => S b ∧ (Value.slice A6 l1.length c6).ownBlock ≠ some b) w3 (wA.alloc (.cells #[.int .i64 (ridM m ⟨1, d, fb, fa, tb, ta, car, rk⟩).nl] 2)) := (Chg.trans (Chg.of_up ((Chg.refl Nowhere w3).drew)) gA).alloc _; have GA : Hid (Chg (fun b => S b ∧ (Value.slice A6 l1.length c6).ownBlock ≠ some b) w3 wA) := Lib.hid (Chg.trans (Chg.of_up ((Chg.refl Nowhere w3).drew)) gA); have hzA := GA.out.size; clear xA hN1 hN2) | (go_at_call 69; refine (l07SetB fb hfb wA _ ((Chg.refl Nowhere wA).alloc _) XA.out (HS3.out.up GA.out) VN.out HN.out (l' := [((ridM m ⟨1, d, fb, fa, tb, ta, car, rk⟩).nl : Int)]) (ownI_one (heap_mk _ _) HNI.out) (fun x hx => .inr (by simp [Value.ownBlock] at hx; omega))).mono ?_; rintro e wC ⟨rfl, xC, gC⟩; have XC := Lib.hid xC; have GC := Lib.hid gC; have gC3 := Chg.trans GA.out gC; clear xC gC))
  go_wp2
  go_ret
  have XE := XC.out.mono (T := S) (fun b _ h => h.1)
  rw [set_nl] at XE
  rw [exec_knit HI.out (x := ⟨1, d, fb, fa, tb, ta, car, rk⟩) rfl ⟨hfa.1, hfw⟩]
  exact ⟨rfl, XE, Chg.trans G1.out (Chg.trans (Chg.of_up G3.out) (Chg.trans (GA.out.mono fun b _ h => h.1) (GC.out.mono fun b _ h => h.1)))⟩
theorem form_tuckfull (w : World) {S : Nat → Prop} {K p : Nat} {m : MachM} {F B C L D : Value} {fs bs : List Value} (h : MachX w S K p m F B C L D fs bs) (hS : NewIn S w) (hi : MInv m) (bo oi : Nat) (d fb fa tb ta car rk : Int) (hd : d = 1 ∨ d = -1) (hca : 1 ≤ car ∧ car ≤ 4) (hO : OpC w bo oi ⟨2, d, fb, fa, tb, ta, car, rk⟩) (hb : ¬ S bo) (hfb : fb = 1 ∨ fb = 2) (hfa : 0 ≤ fa ∧ fa ≤ 23) (hfw : fa < m.wd) (hr : rideB m ⟨2, d, fb, fa, tb, ta, car, rk⟩ = true) (hf : m.nl < 300) (hq : 4 ≤ (onM m fb fa).length) :
    Calls Try.prog 65 #[.pointer (some ⟨p, 0, none⟩), .pointer (some ⟨bo, oi, none⟩)] w fun e w' => e = .returned (.int .i64 5) ∧ Chg S w w' := by
  have hin := ride_in hr
  have HI1 : Hid (MInv (ridM m ⟨2, d, fb, fa, tb, ta, car, rk⟩)) := Lib.hid (hi.rid hfa hin)
  obtain ⟨csL, hL⟩ := h.l
  obtain ⟨A5, c5, rfl, hl5, hc5, -⟩ := ownsRow_shape hL
  clear hL
  have HR := Lib.hid hr
  clear hr
  have o0 := hO.c0
  have o2 := hO.c2
  have o3 : w.cell? ⟨bo, oi + 2 + 1, none⟩ = _ := hO.c3
  dsimp only at o0 o2 o3
  have HX := Lib.hid h
  have HI := Lib.hid hi
  have HS := Lib.hid hS
  have HO := Lib.hid hO
  clear h hi hS hO
  go_enter Try.func65, Try.ntmps65
  go_wp2_with fail
  refine (carry_any _ HX.out HI.out bo oi ⟨2, d, fb, fa, tb, ta, car, rk⟩ hd hca HO.out hb hfa).mono ?_
  rintro e w1 ⟨rfl, x1, g1⟩
  rw [HR.out]
  have o0 := Chg.cell g1 o0 hb
  have o2 := Chg.cell g1 o2 hb
  have o3 := Chg.cell g1 o3 hb
  have X1 := Lib.hid (x1 HR.out)
  have G1 := Lib.hid g1
  clear x1 g1
  have C5 : w1.cell? ⟨p, 5, none⟩ = some (.slice A5 m.nl c5) := X1.out.c5.1
  have O1 := Lib.hid (HO.out.keep G1.out hb)
  have HS1 := Lib.hid (HS.out.up G1.out)
  have t1 : decide ((300 : Int) ≤ (m.nl : Int)) = false := decide_eq_false (by omega)
  have hnf : okN (ridM m ⟨2, d, fb, fa, tb, ta, car, rk⟩) fb fa := ⟨hfb, hfa.1, hfw⟩
  obtain ⟨g1, u1, hH1, hV1⟩ := X1.out.hold HI1.out (b := fb) (a := fa) hnf
  clear hV1 hnf
  obtain ⟨A1, c1, rfl, hl1, hc1, -⟩ := hH1.own.ints.shape
  rw [rid_on] at hH1 hl1
  have hb1 := (HI.out.on_ fb fa).1
  obtain ⟨l1, HL1⟩ : ∃ l1 : List Int, Hid (l1 = onM m fb fa) := ⟨_, rfl⟩
  rw [← HL1.out] at hH1
  rw [← HL1.out] at hl1 hb1 hq
  have H1 := Lib.hid hH1
  clear hH1
  go_wp2_with fail
  refine (l07On_any _ _ _ _ _ _ _ _ H1.out).mono ?_
  rintro e w2 ⟨rfl, g2⟩
  have hh := cc3 g2 o0 o2 o3
  obtain ⟨o0, o2, o3⟩ := hh
  have G2 := Lib.hid g2
  clear g2
  have HN2 := Lib.hid ((H1.out.up G2.out).own.intsOwn)
  go_wp2_with fail
  refine (ownI_any _ _ _ l1 HN2.out (by omega)).mono ?_
  rintro e w3 ⟨v5, rfl, k5, g3⟩
  obtain ⟨A6, c6, rfl, hl6, hc6, -⟩ := k5.ints.shape
  have hh := cc3 g3 o0 o2 o3
  obtain ⟨o0, o2, o3⟩ := hh
  have G3 := Lib.hid (Chg.trans G2.out g3)
  have hz2 := G2.out.size
  have hz3 := g3.size
  have K5 := Lib.hid k5
  have hbl : ∀ b, (Value.slice A6 l1.length c6).ownBlock = some b → w1.heap.size ≤ b ∧ b < w3.heap.size := fun b e => ⟨Nat.le_trans hz2 (k5.1.lt b e).1, (k5.1.lt b e).2⟩
  have HB5 := Lib.hid hbl
  have X3 := Lib.hid ((X1.out.mono (T := (fun b => S b ∧ (Value.slice A6 l1.length c6).ownBlock ≠ some b)) (fun b h1 h2 => ⟨h2, fun e => by have := (hbl b e).1; omega⟩)).up G3.out)
  have HS3 : Hid (NewIn (fun b => S b ∧ (Value.slice A6 l1.length c6).ownBlock ≠ some b) w3) := Lib.hid (fun b hb => ⟨HS1.out.up G3.out b hb, fun e => by have := (hbl b e).2; omega⟩)
  have O3 := Lib.hid (O1.out.up G3.out)
  have hb3 : ¬ (fun b => S b ∧ (Value.slice A6 l1.length c6).ownBlock ≠ some b) bo := fun h => hb h.1
  have HDL := Lib.hid (fun b e e2 => by have h1 := (hbl b e2).1; have h2 := X1.out.all_lt (Value.slice A5 m.nl c5) (by simp) b e; omega : ∀ b, (Value.slice A5 m.nl c5).ownBlock = some b → ¬ (Value.slice A6 l1.length c6).ownBlock = some b)
  clear g3 k5 hbl hz2 C5 G2 HN2
  have t2 : decide ((4 : Int) ≤ (l1.length : Int)) = true := decide_eq_true (by omega)
  go_wp2
  go_ret
  exact ⟨rfl, Chg.trans G1.out (Chg.of_up G3.out)⟩
theorem form_tuck (w : World) {S : Nat → Prop} {K p : Nat} {m : MachM} {F B C L D : Value} {fs bs : List Value} (h : MachX w S K p m F B C L D fs bs) (hS : NewIn S w) (hi : MInv m) (bo oi : Nat) (d fb fa tb ta car rk : Int) (hd : d = 1 ∨ d = -1) (hca : 1 ≤ car ∧ car ≤ 4) (hO : OpC w bo oi ⟨2, d, fb, fa, tb, ta, car, rk⟩) (hb : ¬ S bo) (hfb : fb = 1 ∨ fb = 2) (hfa : 0 ≤ fa ∧ fa ≤ 23) (hfw : fa < m.wd) (hr : rideB m ⟨2, d, fb, fa, tb, ta, car, rk⟩ = true) (hf : m.nl < 300) (hq : (onM m fb fa).length ≤ 3) :
    Calls Try.prog 65 #[.pointer (some ⟨p, 0, none⟩), .pointer (some ⟨bo, oi, none⟩)] w fun e w' => e = .returned (.int .i64 0) ∧ Mach w' S K p (execM m ⟨2, d, fb, fa, tb, ta, car, rk⟩) ∧ Chg S w w' := by
  have hin := ride_in hr
  have HI1 : Hid (MInv (ridM m ⟨2, d, fb, fa, tb, ta, car, rk⟩)) := Lib.hid (hi.rid hfa hin)
  obtain ⟨csL, hL⟩ := h.l
  obtain ⟨A5, c5, rfl, hl5, hc5, -⟩ := ownsRow_shape hL
  clear hL
  have HR := Lib.hid hr
  clear hr
  have o0 := hO.c0
  have o2 := hO.c2
  have o3 : w.cell? ⟨bo, oi + 2 + 1, none⟩ = _ := hO.c3
  dsimp only at o0 o2 o3
  have HX := Lib.hid h
  have HI := Lib.hid hi
  have HS := Lib.hid hS
  have HO := Lib.hid hO
  clear h hi hS hO
  go_enter Try.func65, Try.ntmps65
  go_wp2_with fail
  refine (carry_any _ HX.out HI.out bo oi ⟨2, d, fb, fa, tb, ta, car, rk⟩ hd hca HO.out hb hfa).mono ?_
  rintro e w1 ⟨rfl, x1, g1⟩
  rw [HR.out]
  have o0 := Chg.cell g1 o0 hb
  have o2 := Chg.cell g1 o2 hb
  have o3 := Chg.cell g1 o3 hb
  have X1 := Lib.hid (x1 HR.out)
  have G1 := Lib.hid g1
  clear x1 g1
  have C5 : w1.cell? ⟨p, 5, none⟩ = some (.slice A5 m.nl c5) := X1.out.c5.1
  have O1 := Lib.hid (HO.out.keep G1.out hb)
  have HS1 := Lib.hid (HS.out.up G1.out)
  have t1 : decide ((300 : Int) ≤ (m.nl : Int)) = false := decide_eq_false (by omega)
  have hnf : okN (ridM m ⟨2, d, fb, fa, tb, ta, car, rk⟩) fb fa := ⟨hfb, hfa.1, hfw⟩
  obtain ⟨g1, u1, hH1, hV1⟩ := X1.out.hold HI1.out (b := fb) (a := fa) hnf
  clear hV1 hnf
  obtain ⟨A1, c1, rfl, hl1, hc1, -⟩ := hH1.own.ints.shape
  rw [rid_on] at hH1 hl1
  have hb1 := (HI.out.on_ fb fa).1
  obtain ⟨l1, HL1⟩ : ∃ l1 : List Int, Hid (l1 = onM m fb fa) := ⟨_, rfl⟩
  rw [← HL1.out] at hH1
  rw [← HL1.out] at hl1 hb1 hq
  have H1 := Lib.hid hH1
  clear hH1
  go_wp2_with fail
  refine (l07On_any _ _ _ _ _ _ _ _ H1.out).mono ?_
  rintro e w2 ⟨rfl, g2⟩
  have hh := cc3 g2 o0 o2 o3
  obtain ⟨o0, o2, o3⟩ := hh
  have G2 := Lib.hid g2
  clear g2
  have HN2 := Lib.hid ((H1.out.up G2.out).own.intsOwn)
  go_wp2_with fail
  refine (ownI_any _ _ _ l1 HN2.out (by omega)).mono ?_
  rintro e w3 ⟨v5, rfl, k5, g3⟩
  obtain ⟨A6, c6, rfl, hl6, hc6, -⟩ := k5.ints.shape
  have hh := cc3 g3 o0 o2 o3
  obtain ⟨o0, o2, o3⟩ := hh
  have G3 := Lib.hid (Chg.trans G2.out g3)
  have hz2 := G2.out.size
  have hz3 := g3.size
  have K5 := Lib.hid k5
  have hbl : ∀ b, (Value.slice A6 l1.length c6).ownBlock = some b → w1.heap.size ≤ b ∧ b < w3.heap.size := fun b e => ⟨Nat.le_trans hz2 (k5.1.lt b e).1, (k5.1.lt b e).2⟩
  have HB5 := Lib.hid hbl
  have X3 := Lib.hid ((X1.out.mono (T := (fun b => S b ∧ (Value.slice A6 l1.length c6).ownBlock ≠ some b)) (fun b h1 h2 => ⟨h2, fun e => by have := (hbl b e).1; omega⟩)).up G3.out)
  have HS3 : Hid (NewIn (fun b => S b ∧ (Value.slice A6 l1.length c6).ownBlock ≠ some b) w3) := Lib.hid (fun b hb => ⟨HS1.out.up G3.out b hb, fun e => by have := (hbl b e).2; omega⟩)
  have O3 := Lib.hid (O1.out.up G3.out)
  have hb3 : ¬ (fun b => S b ∧ (Value.slice A6 l1.length c6).ownBlock ≠ some b) bo := fun h => hb h.1
  have HDL := Lib.hid (fun b e e2 => by have h1 := (hbl b e2).1; have h2 := X1.out.all_lt (Value.slice A5 m.nl c5) (by simp) b e; omega : ∀ b, (Value.slice A5 m.nl c5).ownBlock = some b → ¬ (Value.slice A6 l1.length c6).ownBlock = some b)
  clear g3 k5 hbl hz2 C5 G2 HN2
  have t2 : decide ((4 : Int) ≤ (l1.length : Int)) = false := decide_eq_false (by omega)
  have HI2 : Hid (MInv { ridM m ⟨2, d, fb, fa, tb, ta, car, rk⟩ with nl := (ridM m ⟨2, d, fb, fa, tb, ta, car, rk⟩).nl + 1 }) := Lib.hid (have h := HI1.out; ⟨h.wd, h.rack, h.fl, h.bl, h.cl, h.fs, h.bs, h.ca, by show m.nl + 1 ≤ 300; omega⟩)
  have HNI := Lib.hid (show I64 (m.nl : Int) by unfold I64; omega)
  have hfw1 : fa < (ridM m ⟨2, d, fb, fa, tb, ta, car, rk⟩).wd := hfw
  have hf4 : (ridM m ⟨2, d, fb, fa, tb, ta, car, rk⟩).nl < 300 := hf
  obtain ⟨l3, HL3⟩ : ∃ l3 : List Int, Hid (l3 = l1 ++ [(m.nl : Int)]) := ⟨_, rfl⟩
  have hbo := World.block_lt_of_cell? _ _ (HO.out.c0)
  have hb4 : ¬ ((Value.slice A6 l1.length c6).ownBlock = some bo ∨ (S bo ∧ (Value.slice A6 l1.length c6).ownBlock ≠ some bo)) := fun h => h.elim (fun e => by have h1 := (HB5.out bo e).1; have h2 := G1.out.size; dsimp only at hbo; omega) (fun h => hb h.1)
  go_wp2
  go_region_held3 (fun w' => w'.cell? ⟨bo, oi + 2, none⟩ = some (.int .i64 fb) ∧ w'.cell? ⟨bo, oi + 2 + 1, none⟩ = some (.int .i64 fa))
    (first | (exact ⟨o2, o3⟩) | (exact ⟨Chg.cell gC3 o2 hb4, Chg.cell gC3 o3 hb4⟩) | (exact ⟨Chg.cell gB o2 hb4, Chg.cell gB o3 hb4⟩) | (exact ⟨Chg.cell gA o2 hb3, Chg.cell gA o3 hb3⟩) | (exact ⟨Chg.cell gA2 o2 hb3, Chg.cell gA2 o3 hb3⟩) | (obtain ⟨q0, q1⟩ : (World.cell? _ _ = _ ∧ World.cell? _ _ = _) := (by assumption); exact ⟨Chg.cell ((Chg.refl Nowhere _).alloc _) q0 id, Chg.cell ((Chg.refl Nowhere _).alloc _) q1 id⟩))
    (first | (go_at_call 92; refine (l07Make_any _ (X3.out.up ((Chg.refl Nowhere w3).drew)) (HS3.out.up ((Chg.refl Nowhere w3).drew)) HI1.out bo oi 2 d fb fa tb ta car rk (O3.out.up ((Chg.refl Nowhere w3).drew)) hb3 hf4 (fun _ => False) _ [] (Ints.nil _ _ _ _ (by omega)) (by simp) (fun _ _ h => h)).mono ?_; rintro e wA ⟨rfl, ⟨LA, xA⟩, gA⟩; obtain ⟨gN, vN, hN1, hN2⟩ := xA.hold HI2.out (b := fb) (a := fa) ⟨hfb, hfa.1, hfw1⟩; have VN : Hid (AtN F B fs bs fb fa gN vN) := Lib.hid hN2; have HN := Lib.hid hN1; have XA := Lib.hid xA; have gA2 : Chg (fun b => S b ∧ (Value.slice A6 l1.length c6).ownBlock ≠ some b) w3 (wA.alloc (.cells #[.int .i64 (ridM m ⟨2, d, fb, fa, tb, ta, car, rk⟩).nl] 2)) := (Chg.trans (Chg.of_up ((Chg.refl Nowhere w3).drew)) gA).alloc _; have GA : Hid (Chg (fun b => S b ∧ (Value.slice A6 l1.length c6).ownBlock ≠ some b) w3 wA) := Lib.hid (Chg.trans (Chg.of_up ((Chg.refl Nowhere w3).drew)) gA); have hzA := GA.out.size; clear xA hN1 hN2) | (refine step_app_int (by rfl) _ _ (by rfl) w2.heap.size _ l1 (by rfl) ((K5.out.kept GA.out (fun b hb h => h.2 hb)).up ((Chg.refl Nowhere wA).alloc _)) _ (ridM m ⟨2, d, fb, fa, tb, ta, car, rk⟩).nl (by rfl) (cell_new _ _ _ _) HNI.out (by omega) ?_ ?_; (simp; omega); intro v' wB ho1 hg1 hg2 hg3; replace ho1 : OwnI wB w2.heap.size v' l3 := (by rw [HL3.out]; exact ho1); obtain ⟨AB, cB, rfl, hlB, hcB, -⟩ := ho1.ints.shape; have hab : Chg (fun b => (Value.slice A6 l1.length c6).ownBlock = some b) wA wB := Chg.trans ((Chg.refl _ wA).alloc _) hg1; have xB := (XA.out.mono (T := (fun b => (fun b => S b ∧ (Value.slice A6 l1.length c6).ownBlock ≠ some b) b ∧ b < wA.heap.size)) (fun b h1 h2 => ⟨h2, h1⟩)).keep hab (fun b _ h1 h2 => h1.1.2 h2); obtain ⟨gM, vM, hM1, hM2⟩ := xB.hold HI2.out (b := fb) (a := fa) ⟨hfb, hfa.1, hfw1⟩; have VM : Hid (AtN F B fs bs fb fa gM vM) := Lib.hid hM2; have HM := Lib.hid hM1; have XB := Lib.hid xB; have HOB := Lib.hid (OwnI.lowerM ho1 (Nat.zero_le _)); have HG2 : Hid (∀ b, (Value.slice AB l3.length cB).ownBlock = some b → (Value.slice A6 l1.length c6).ownBlock = some b ∨ wA.heap.size ≤ b) := Lib.hid (fun b hb => (hg2 b hb).imp id fun h => (by simp at h; omega)); have gB : Chg (fun b => (Value.slice A6 l1.length c6).ownBlock = some b ∨ (fun b => S b ∧ (Value.slice A6 l1.length c6).ownBlock ≠ some b) b) w3 wB := Chg.trans (GA.out.mono fun b _ h => .inr h) (hab.mono fun b _ h => .inl h); have GB := Lib.hid gB; clear ho1 hg1 hg2 hg3 hab xB hM1 hM2) | (go_at_call 69; refine (l07PutB fb hfb wB _ (Chg.refl Nowhere wB) XB.out VM.out HM.out HOB.out (fun x hx => .inr (fun h => (HG2.out x hx).elim (fun e => h.1.1.2 e) (fun e => by have := h.1.2; omega)))).mono ?_; rintro e wC ⟨rfl, xC, gC⟩; have XC := Lib.hid xC; have GC := Lib.hid gC; have gC3 : Chg (fun b => (Value.slice A6 l1.length c6).ownBlock = some b ∨ (fun b => S b ∧ (Value.slice A6 l1.length c6).ownBlock ≠ some b) b) w3 wC := Chg.trans GB.out (gC.mono fun b _ h => .inr h.1); clear xC gC))
  go_wp2
  go_ret
  have hs5 : ∀ b, (Value.slice A6 l1.length c6).ownBlock = some b → S b := fun b e => HS1.out b (HB5.out b e).1
  have XE := XC.out.mono (T := S) (fun b _ h => h.elim (fun h => h.1.1) fun e => (HG2.out b e).elim (hs5 b) fun h => (HS3.out.up GA.out b h).1)
  rw [set_nl, HL3.out] at XE
  rw [exec_tuck (x := ⟨2, d, fb, fa, tb, ta, car, rk⟩) rfl]
  dsimp only
  rw [← HL1.out]
  exact ⟨rfl, XE, Chg.trans G1.out (Chg.trans (Chg.of_up G3.out) (gC3.mono fun b _ h => h.elim (hs5 b) fun h => h.1))⟩
theorem move_le {m : MachM} {x : OpM} (h : moveC m x = 0) : (onM m x.fb x.fa).length + (onM m x.tb x.ta).length ≤ 4 := by
  unfold moveC at h
  split at h
  · omega
  split at h
  · omega
  split at h
  · omega
  · omega
theorem form_split (w : World) {S : Nat → Prop} {K p : Nat} {m : MachM} {F B C L D : Value} {fs bs : List Value} (h : MachX w S K p m F B C L D fs bs) (hS : NewIn S w) (hi : MInv m) (bo oi : Nat) (d fb fa tb ta car rk : Int) (hd : d = 1 ∨ d = -1) (hca : 1 ≤ car ∧ car ≤ 4) (hO : OpC w bo oi ⟨5, d, fb, fa, tb, ta, car, rk⟩) (hb : ¬ S bo) (hfb : fb = 1 ∨ fb = 2) (hfa : 0 ≤ fa ∧ fa ≤ 23) (hfw : fa < m.wd) (hr : rideB m ⟨5, d, fb, fa, tb, ta, car, rk⟩ = true) (hf : m.nl < 300) (hft : (fb = 1 ∧ tb = 2) ∨ (fb = 2 ∧ tb = 1)) (hta : 0 ≤ ta ∧ ta ≤ 23) (htw : ta < m.wd) :
    Calls Try.prog 65 #[.pointer (some ⟨p, 0, none⟩), .pointer (some ⟨bo, oi, none⟩)] w fun e w' => e = .returned (.int .i64 (moveC m ⟨5, d, fb, fa, tb, ta, car, rk⟩)) ∧ (moveC m ⟨5, d, fb, fa, tb, ta, car, rk⟩ = 0 → Mach w' S K p (execM m ⟨5, d, fb, fa, tb, ta, car, rk⟩)) ∧ Chg S w w' := by
  have hin := ride_in hr
  have HI1 : Hid (MInv (ridM m ⟨5, d, fb, fa, tb, ta, car, rk⟩)) := Lib.hid (hi.rid hfa hin)
  obtain ⟨csL, hL⟩ := h.l
  obtain ⟨A5, c5, rfl, hl5, hc5, -⟩ := ownsRow_shape hL
  clear hL
  have HR := Lib.hid hr
  clear hr
  have o0 := hO.c0
  have o2 := hO.c2
  have o3 : w.cell? ⟨bo, oi + 2 + 1, none⟩ = _ := hO.c3
  dsimp only at o0 o2 o3
  have HX := Lib.hid h
  have HI := Lib.hid hi
  have HS := Lib.hid hS
  have HO := Lib.hid hO
  clear h hi hS hO
  go_enter Try.func65, Try.ntmps65
  go_wp2_with fail
  refine (carry_any _ HX.out HI.out bo oi ⟨5, d, fb, fa, tb, ta, car, rk⟩ hd hca HO.out hb hfa).mono ?_
  rintro e w1 ⟨rfl, x1, g1⟩
  rw [HR.out]
  have o0 := Chg.cell g1 o0 hb
  have o2 := Chg.cell g1 o2 hb
  have o3 := Chg.cell g1 o3 hb
  have X1 := Lib.hid (x1 HR.out)
  have G1 := Lib.hid g1
  clear x1 g1
  have C5 : w1.cell? ⟨p, 5, none⟩ = some (.slice A5 m.nl c5) := X1.out.c5.1
  have O1 := Lib.hid (HO.out.keep G1.out hb)
  have HS1 := Lib.hid (HS.out.up G1.out)
  have t1 : decide ((300 : Int) ≤ (m.nl : Int)) = false := decide_eq_false (by omega)
  have hnf : okN (ridM m ⟨5, d, fb, fa, tb, ta, car, rk⟩) fb fa := ⟨hfb, hfa.1, hfw⟩
  obtain ⟨g1, u1, hH1, hV1⟩ := X1.out.hold HI1.out (b := fb) (a := fa) hnf
  clear hV1 hnf
  obtain ⟨A1, c1, rfl, hl1, hc1, -⟩ := hH1.own.ints.shape
  rw [rid_on] at hH1 hl1
  have hb1 := (HI.out.on_ fb fa).1
  obtain ⟨l1, HL1⟩ : ∃ l1 : List Int, Hid (l1 = onM m fb fa) := ⟨_, rfl⟩
  rw [← HL1.out] at hH1
  rw [← HL1.out] at hl1 hb1
  have H1 := Lib.hid hH1
  clear hH1
  go_wp2_with fail
  refine (l07On_any _ _ _ _ _ _ _ _ H1.out).mono ?_
  rintro e w2 ⟨rfl, g2⟩
  have hh := cc3 g2 o0 o2 o3
  obtain ⟨o0, o2, o3⟩ := hh
  have G2 := Lib.hid g2
  clear g2
  have HN2 := Lib.hid ((H1.out.up G2.out).own.intsOwn)
  go_wp2_with fail
  refine (ownI_any _ _ _ l1 HN2.out (by omega)).mono ?_
  rintro e w3 ⟨v5, rfl, k5, g3⟩
  obtain ⟨A6, c6, rfl, hl6, hc6, -⟩ := k5.ints.shape
  have hh := cc3 g3 o0 o2 o3
  obtain ⟨o0, o2, o3⟩ := hh
  have G3 := Lib.hid (Chg.trans G2.out g3)
  have hz2 := G2.out.size
  have hz3 := g3.size
  have K5 := Lib.hid k5
  have hbl : ∀ b, (Value.slice A6 l1.length c6).ownBlock = some b → w1.heap.size ≤ b ∧ b < w3.heap.size := fun b e => ⟨Nat.le_trans hz2 (k5.1.lt b e).1, (k5.1.lt b e).2⟩
  have HB5 := Lib.hid hbl
  have X3 := Lib.hid ((X1.out.mono (T := (fun b => S b ∧ (Value.slice A6 l1.length c6).ownBlock ≠ some b)) (fun b h1 h2 => ⟨h2, fun e => by have := (hbl b e).1; omega⟩)).up G3.out)
  have HS3 : Hid (NewIn (fun b => S b ∧ (Value.slice A6 l1.length c6).ownBlock ≠ some b) w3) := Lib.hid (fun b hb => ⟨HS1.out.up G3.out b hb, fun e => by have := (hbl b e).2; omega⟩)
  have O3 := Lib.hid (O1.out.up G3.out)
  have hb3 : ¬ (fun b => S b ∧ (Value.slice A6 l1.length c6).ownBlock ≠ some b) bo := fun h => hb h.1
  have HDL := Lib.hid (fun b e e2 => by have h1 := (hbl b e2).1; have h2 := X1.out.all_lt (Value.slice A5 m.nl c5) (by simp) b e; omega : ∀ b, (Value.slice A5 m.nl c5).ownBlock = some b → ¬ (Value.slice A6 l1.length c6).ownBlock = some b)
  clear g3 k5 hbl hz2 C5 G2 HN2
  go_wp2_with fail
  refine (move_any _ X3.out.mach HS3.out HI1.out bo oi ⟨5, d, fb, fa, tb, ta, car, rk⟩ O3.out hb3 hft hfa hta hfw htw).mono ?_
  rintro e w4 ⟨rfl, x4, g4⟩
  rw [show moveC (ridM m ⟨5, d, fb, fa, tb, ta, car, rk⟩) ⟨5, d, fb, fa, tb, ta, car, rk⟩ = moveC m ⟨5, d, fb, fa, tb, ta, car, rk⟩ from rfl] at x4
  rw [show moveC (ridM m ⟨5, d, fb, fa, tb, ta, car, rk⟩) ⟨5, d, fb, fa, tb, ta, car, rk⟩ = moveC m ⟨5, d, fb, fa, tb, ta, car, rk⟩ from rfl]
  by_cases hq : moveC m ⟨5, d, fb, fa, tb, ta, car, rk⟩ = 0
  rotate_left
  · obtain ⟨c, HC⟩ : ∃ c, Hid (moveC m ⟨5, d, fb, fa, tb, ta, car, rk⟩ = c) := ⟨_, rfl⟩
    rw [HC.out] at hq
    have t3 : (c != 0) = true := by simpa using hq
    have t4 : (c == 0) = false := by simpa using hq
    have G4 := Lib.hid g4
    clear g4 x4
    rw [HC.out]
    go_wp2
    go_ret
    exact ⟨congrArg (fun z => Ending.returned (.int .i64 z)) HC.out.symm, fun h => absurd (HC.out.symm.trans h) hq, Chg.trans G1.out (Chg.trans (Chg.of_up G3.out) (G4.out.mono fun b _ h => h.1))⟩
  have hle : (onM m fb fa).length + (onM m tb ta).length ≤ 4 := move_le hq
  rw [hq]
  obtain ⟨F4, B4, C4, L4, D4, fs4, bs4, x5⟩ := x4 hq
  have X4 := Lib.hid x5
  have G4 := Lib.hid g4
  have o2 := Chg.cell g4 o2 hb3
  have o3 := Chg.cell g4 o3 hb3
  have o0 := Chg.cell g4 o0 hb3
  clear x4 x5 g4
  have HS4 := Lib.hid (HS3.out.up G4.out)
  have O4 := Lib.hid (O3.out.keep G4.out hb3)
  have K6 := Lib.hid (K5.out.kept G4.out (fun b hb h => h.2 hb))
  have HDL4 := Lib.hid (fun b e e2 => (X4.out.own L4 (by simp) b e).2 e2 : ∀ b, L4.ownBlock = some b → ¬ (Value.slice A6 l1.length c6).ownBlock = some b)
  have HI4 : Hid (MInv (shiftM (ridM m ⟨5, d, fb, fa, tb, ta, car, rk⟩) ⟨5, d, fb, fa, tb, ta, car, rk⟩)) := Lib.hid (HI1.out.shift hle)
  have hnl4 : (shiftM (ridM m ⟨5, d, fb, fa, tb, ta, car, rk⟩) ⟨5, d, fb, fa, tb, ta, car, rk⟩).nl = m.nl := by unfold shiftM; rw [(setM_same _ _ _).2.2.2, (setM_same _ _ _).2.2.2]; rfl
  have hwd4 : (shiftM (ridM m ⟨5, d, fb, fa, tb, ta, car, rk⟩) ⟨5, d, fb, fa, tb, ta, car, rk⟩).wd = m.wd := by unfold shiftM; rw [(setM_same _ _ _).1, (setM_same _ _ _).1]; rfl
  obtain ⟨m4, HM4⟩ : ∃ m4, Hid (m4 = shiftM (ridM m ⟨5, d, fb, fa, tb, ta, car, rk⟩) ⟨5, d, fb, fa, tb, ta, car, rk⟩) := ⟨_, rfl⟩
  rw [← HM4.out] at X4 HI4 hnl4 hwd4
  have HNL4 := Lib.hid hnl4
  have HI2 : Hid (MInv { m4 with nl := m4.nl + 1 }) := Lib.hid (have h := HI4.out; ⟨h.wd, h.rack, h.fl, h.bl, h.cl, h.fs, h.bs, h.ca, by show m4.nl + 1 ≤ 300; omega⟩)
  have HNI := Lib.hid (show I64 (m4.nl : Int) by unfold I64; omega)
  have hfw1 : fa < m4.wd := by omega
  have hf4 : m4.nl < 300 := by omega
  clear hnl4 hwd4
  go_wp2
  go_region_held3 (fun w' => w'.cell? ⟨bo, oi + 2, none⟩ = some (.int .i64 fb) ∧ w'.cell? ⟨bo, oi + 2 + 1, none⟩ = some (.int .i64 fa))
    (first | (exact ⟨o2, o3⟩) | (exact ⟨Chg.cell gC3 o2 hb3, Chg.cell gC3 o3 hb3⟩) | (exact ⟨Chg.cell gA o2 hb3, Chg.cell gA o3 hb3⟩) | (exact ⟨Chg.cell gA2 o2 hb3, Chg.cell gA2 o3 hb3⟩) | (obtain ⟨q0, q1⟩ : (World.cell? _ _ = _ ∧ World.cell? _ _ = _) := (by assumption); exact ⟨Chg.cell ((Chg.refl Nowhere _).alloc _) q0 id, Chg.cell ((Chg.refl Nowhere _).alloc _) q1 id⟩))
    (first | (go_at_call 92; refine (l07Make_any _ (X4.out.up ((Chg.refl Nowhere w4).drew)) (HS4.out.up ((Chg.refl Nowhere w4).drew)) HI4.out bo oi 5 d fb fa tb ta car rk (O4.out.up ((Chg.refl Nowhere w4).drew)) hb3 hf4 _ _ l1 (K6.out.intsOwn.up ((Chg.refl Nowhere w4).drew)) (by omega) HDL4.out).mono ?_; rintro e wA ⟨rfl, ⟨LA, xA⟩, gA⟩; obtain ⟨gN, vN, hN1, hN2⟩ := xA.hold HI2.out (b := fb) (a := fa) ⟨hfb, hfa.1, hfw1⟩; have VN : Hid (AtN F4 B4 fs4 bs4 fb fa gN vN) := Lib.hid hN2; have HN := Lib.hid hN1; have XA := Lib.hid xA; have gA2 : Chg (fun b => S b ∧ (Value.slice A6 l1.length c6).ownBlock ≠ some b) w4 (wA.alloc (.cells #[.int .i64 (m4).nl] 2)) := (Chg.trans (Chg.of_up ((Chg.refl Nowhere w4).drew)) gA).alloc _; have GA : Hid (Chg (fun b => S b ∧ (Value.slice A6 l1.length c6).ownBlock ≠ some b) w4 wA) := Lib.hid (Chg.trans (Chg.of_up ((Chg.refl Nowhere w4).drew)) gA); have hzA := GA.out.size; clear xA hN1 hN2) | (go_at_call 69; refine (l07SetB fb hfb wA _ ((Chg.refl Nowhere wA).alloc _) XA.out (HS4.out.up GA.out) VN.out HN.out (l' := [((m4).nl : Int)]) (ownI_one (heap_mk _ _) HNI.out) (fun x hx => .inr (by simp [Value.ownBlock] at hx; omega))).mono ?_; rintro e wC ⟨rfl, xC, gC⟩; have XC := Lib.hid xC; have GC := Lib.hid gC; have gC3 := Chg.trans GA.out gC; clear xC gC))
  go_wp2
  go_ret
  have XE := XC.out.mono (T := S) (fun b _ h => h.1)
  rw [set_nl, HM4.out] at XE
  rw [exec_split HI.out (x := ⟨5, d, fb, fa, tb, ta, car, rk⟩) rfl ⟨hfa.1, hfw⟩ hle]
  have hn5 : (shiftM (ridM m ⟨5, d, fb, fa, tb, ta, car, rk⟩) ⟨5, d, fb, fa, tb, ta, car, rk⟩).nl = m.nl := by rw [← HM4.out]; exact HNL4.out
  rw [hn5] at XE
  exact ⟨congrArg (fun z => Ending.returned (.int .i64 z)) hq.symm, fun _ => XE, Chg.trans G1.out (Chg.trans (Chg.of_up G3.out) (Chg.trans (G4.out.mono fun b _ h => h.1) (Chg.trans (GA.out.mono fun b _ h => h.1) (GC.out.mono fun b _ h => h.1))))⟩
end Go.Proofs.Ytplabnjdhkmmkaa
end
section
set_option linter.unusedSimpArgs false
set_option linter.unusedVariables false
set_option maxRecDepth 100000
set_option maxHeartbeats 8000000
namespace Go.Proofs.Ytplabnjdhkmmkaa
open Go.ChangeShapes Go.WideShapes Go.ChangeAt Go.RowKit
attribute [local go_sem ↓] Go.wp_at_zero Go.wp_at_succ
theorem sin_no (w : World) {S : Nat → Prop} {K p : Nat} {m : MachM} {F B C L D : Value} {fs bs : List Value} (h : MachX w S K p m F B C L D fs bs) (hi : MInv m) (bo oi : Nat) (d fb fa tb ta rk : Int) (j : Nat) (hj : j < 4) (hO : OpC w bo oi ⟨8, d, fb, fa, tb, ta, ((j : Int) + 1), rk⟩) (hb : ¬ S bo) (hin : (carAt m ((j : Int) + 1)).1 = true) :
    Calls Try.prog 70 #[.pointer (some ⟨p, 0, none⟩), .pointer (some ⟨bo, oi, none⟩)] w fun e w' => e = .returned (.int .i64 9) ∧ Up w w' := by
  obtain ⟨gC, jc, cC, hK, hCe⟩ := h.car hi (car := ((j : Int) + 1)) (by omega)
  obtain rfl : j = jc := by have := hK.ec; omega
  clear hj
  have hKj := hK.jl
  have hKc := hK.cc
  have hk4 := hK.hdr.1
  have hka := hK.a.1
  have hkb := hK.b
  have HKA := Lib.hid hK.a
  have hp0 := h.c0.1
  have hwd := hi.wd
  obtain ⟨pl, Hpl⟩ : ∃ pl, Hid ((carAt m ((j : Int) + 1)).2 = pl) := ⟨_, rfl⟩
  rw [Hpl.out] at hkb
  rw [hin] at hka
  have o0 := hO.c0
  have o1 := hO.c1
  have o6 := hO.c6
  dsimp only at o0 o1 o6
  have y1 : IntKind.i64.wrap ((j : Int) + 1 - 1) = j := (IntWalk.i64_in ((j : Int) + 1 - 1) (by omega)).trans (by omega)
  have y2 : IntKind.i64.wrap (j : Int) = j := IntWalk.i64_in _ (by omega)
  have y3 : IntKind.i64.wrap (m.wd + 3) = m.wd + 3 := IntWalk.i64_in _ (by omega)
  have b0 : (0 : Int) ≤ (j : Int) := by omega
  have b1 : (j : Int) < 4 := by omega
  have q0 := up_cell hk4
  have q1 := up_cell o6
  have Hi := Lib.hid hi
  have HX := Lib.hid h
  have HO := Lib.hid hO
  clear hi h hO hK
  go_enter Try.func70, Try.ntmps70
  go_wp2
  refine wp_region_up (by kernel_rfl) (by kernel_rfl) ?_
  repeat (go_big_quiet_step (fail))
  refine wpQuiet_nil ?_
  rintro w1 ⟨u, hu⟩
  have g1 := Lib.hid (hu ▸ u.up : Up w w1)
  clear hu u q0 q1
  have hh := cc4 g1.out o0 o1 hka hp0
  obtain ⟨o0, o1, hka, hp0⟩ := hh
  have q2 := up_cell hka
  have q3 := up_cell o0
  go_wp2
  refine wp_region_up (by kernel_rfl) (by kernel_rfl) ?_
  repeat (go_big_quiet_step (fail))
  refine wpQuiet_nil ?_
  rintro w2 ⟨u, hu⟩
  have g2 := Lib.hid (Chg.trans g1.out (hu ▸ u.up) : Up w w2)
  have g3 := Lib.hid (hu ▸ u.up : Up w1 w2)
  clear hu u q2 q3
  go_wp2
  go_ret
  exact ⟨rfl, g2.out⟩
theorem sout_no (w : World) {S : Nat → Prop} {K p : Nat} {m : MachM} {F B C L D : Value} {fs bs : List Value} (h : MachX w S K p m F B C L D fs bs) (hi : MInv m) (bo oi : Nat) (d fb fa tb ta rk : Int) (j : Nat) (hj : j < 4) (hO : OpC w bo oi ⟨9, d, fb, fa, tb, ta, ((j : Int) + 1), rk⟩) (hb : ¬ S bo) (hin : (carAt m ((j : Int) + 1)).1 = false) :
    Calls Try.prog 70 #[.pointer (some ⟨p, 0, none⟩), .pointer (some ⟨bo, oi, none⟩)] w fun e w' => e = .returned (.int .i64 9) ∧ Up w w' := by
  obtain ⟨gC, jc, cC, hK, hCe⟩ := h.car hi (car := ((j : Int) + 1)) (by omega)
  obtain rfl : j = jc := by have := hK.ec; omega
  clear hj
  have hKj := hK.jl
  have hKc := hK.cc
  have hk4 := hK.hdr.1
  have hka := hK.a.1
  have hkb := hK.b
  have HKA := Lib.hid hK.a
  have hp0 := h.c0.1
  have hwd := hi.wd
  obtain ⟨pl, Hpl⟩ : ∃ pl, Hid ((carAt m ((j : Int) + 1)).2 = pl) := ⟨_, rfl⟩
  rw [Hpl.out] at hkb
  rw [hin] at hka
  have o0 := hO.c0
  have o1 := hO.c1
  have o6 := hO.c6
  dsimp only at o0 o1 o6
  have y1 : IntKind.i64.wrap ((j : Int) + 1 - 1) = j := (IntWalk.i64_in ((j : Int) + 1 - 1) (by omega)).trans (by omega)
  have y2 : IntKind.i64.wrap (j : Int) = j := IntWalk.i64_in _ (by omega)
  have y3 : IntKind.i64.wrap (m.wd + 3) = m.wd + 3 := IntWalk.i64_in _ (by omega)
  have b0 : (0 : Int) ≤ (j : Int) := by omega
  have b1 : (j : Int) < 4 := by omega
  have q0 := up_cell hk4
  have q1 := up_cell o6
  have Hi := Lib.hid hi
  have HX := Lib.hid h
  have HO := Lib.hid hO
  clear hi h hO hK
  go_enter Try.func70, Try.ntmps70
  go_wp2
  refine wp_region_up (by kernel_rfl) (by kernel_rfl) ?_
  repeat (go_big_quiet_step (fail))
  refine wpQuiet_nil ?_
  rintro w1 ⟨u, hu⟩
  have g1 := Lib.hid (hu ▸ u.up : Up w w1)
  clear hu u q0 q1
  have hh := cc4 g1.out o0 o1 hka hp0
  obtain ⟨o0, o1, hka, hp0⟩ := hh
  have q2 := up_cell hka
  have q3 := up_cell o0
  go_wp2
  refine wp_region_up (by kernel_rfl) (by kernel_rfl) ?_
  repeat (go_big_quiet_step (fail))
  refine wpQuiet_nil ?_
  rintro w2 ⟨u, hu⟩
  have g2 := Lib.hid (Chg.trans g1.out (hu ▸ u.up) : Up w w2)
  have g3 := Lib.hid (hu ▸ u.up : Up w1 w2)
  clear hu u q2 q3
  go_wp2
  go_ret
  exact ⟨rfl, g2.out⟩
theorem sout (w : World) {S : Nat → Prop} {K p : Nat} {m : MachM} {F B C L D : Value} {fs bs : List Value} (h : MachX w S K p m F B C L D fs bs) (hi : MInv m) (bo oi : Nat) (d fb fa tb ta rk : Int) (j : Nat) (hj : j < 4) (hO : OpC w bo oi ⟨9, d, fb, fa, tb, ta, ((j : Int) + 1), rk⟩) (hb : ¬ S bo) (hin : (carAt m ((j : Int) + 1)).1 = true) :
    Calls Try.prog 70 #[.pointer (some ⟨p, 0, none⟩), .pointer (some ⟨bo, oi, none⟩)] w fun e w' => e = .returned (.int .i64 0) ∧ Mach w' S K p (execM m ⟨9, d, fb, fa, tb, ta, ((j : Int) + 1), rk⟩) ∧ Chg S w w' := by
  obtain ⟨gC, jc, cC, hK, hCe⟩ := h.car hi (car := ((j : Int) + 1)) (by omega)
  obtain rfl : j = jc := by have := hK.ec; omega
  clear hj
  have hKj := hK.jl
  have hKc := hK.cc
  have hk4 := hK.hdr.1
  have hka := hK.a.1
  have hkb := hK.b
  have HKA := Lib.hid hK.a
  have hp0 := h.c0.1
  have hwd := hi.wd
  obtain ⟨pl, Hpl⟩ : ∃ pl, Hid ((carAt m ((j : Int) + 1)).2 = pl) := ⟨_, rfl⟩
  rw [Hpl.out] at hkb
  rw [hin] at hka
  have o0 := hO.c0
  have o1 := hO.c1
  have o6 := hO.c6
  dsimp only at o0 o1 o6
  have y1 : IntKind.i64.wrap ((j : Int) + 1 - 1) = j := (IntWalk.i64_in ((j : Int) + 1 - 1) (by omega)).trans (by omega)
  have y2 : IntKind.i64.wrap (j : Int) = j := IntWalk.i64_in _ (by omega)
  have y3 : IntKind.i64.wrap (m.wd + 3) = m.wd + 3 := IntWalk.i64_in _ (by omega)
  have b0 : (0 : Int) ≤ (j : Int) := by omega
  have b1 : (j : Int) < 4 := by omega
  have q0 := up_cell hk4
  have q1 := up_cell o6
  have Hi := Lib.hid hi
  have HX := Lib.hid h
  have HO := Lib.hid hO
  clear hi h hO hK
  go_enter Try.func70, Try.ntmps70
  go_wp2
  refine wp_region_up (by kernel_rfl) (by kernel_rfl) ?_
  repeat (go_big_quiet_step (fail))
  refine wpQuiet_nil ?_
  rintro w1 ⟨u, hu⟩
  have g1 := Lib.hid (hu ▸ u.up : Up w w1)
  clear hu u q0 q1
  have hh := cc4 g1.out o0 o1 hka hp0
  obtain ⟨o0, o1, hka, hp0⟩ := hh
  have q2 := up_cell hka
  have q3 := up_cell o0
  go_wp2
  refine wp_region_up (by kernel_rfl) (by kernel_rfl) ?_
  repeat (go_big_quiet_step (fail))
  refine wpQuiet_nil ?_
  rintro w2 ⟨u, hu⟩
  have g2 := Lib.hid (Chg.trans g1.out (hu ▸ u.up) : Up w w2)
  have g3 := Lib.hid (hu ▸ u.up : Up w1 w2)
  clear hu u q2 q3
  have hkb := hkb.up g2.out
  have hk1 := hkb.1
  have hk2 := hkb.2
  have hk3 := Chg.cell g3.out hka id
  have hk4 : w2.frozen? ⟨gC, j * 2, none⟩ = false := (HKA.out.up g2.out).2
  have hh := cc3 g3.out o0 o1 hp0
  obtain ⟨o0, o1, hp0⟩ := hh
  clear hka
  have X1 := Lib.hid ((HX.out.up g2.out).seat Hi.out (car := ((j : Int) + 1)) rfl hKj hCe false 0)
  have hgC : gC ≠ bo := fun e => hb (e ▸ HX.out.own C (by simp) gC (by rw [hCe]; rfl))
  have hgS : S gC := HX.out.own C (by simp) gC (by rw [hCe]; rfl)
  have hgp : gC ≠ p := fun e => HX.out.off_p C (by simp) gC (by rw [hCe]; rfl) e
  have G1 := Lib.hid (Chg.setCell (S := S) (Chg.setCell (Chg.of_up g2.out) (.inl hgS) (.bool false)) (.inl hgS) (.int .i64 0) : Chg S w ((w2.setCell ⟨gC, j * 2, none⟩ (.bool false)).setCell ⟨gC, j * 2 + 1, none⟩ (.int .i64 0)))
  have s0 : ((w2.setCell ⟨gC, j * 2, none⟩ (.bool false)).setCell ⟨gC, j * 2 + 1, none⟩ (.int .i64 0)).cell? ⟨bo, oi, none⟩ = _ := keepS (keepS o0 hgC) hgC
  have s1 : ((w2.setCell ⟨gC, j * 2, none⟩ (.bool false)).setCell ⟨gC, j * 2 + 1, none⟩ (.int .i64 0)).cell? ⟨bo, oi + 1, none⟩ = _ := keepS (keepS o1 hgC) hgC
  go_wp2
  go_ret
  exact ⟨rfl, (X1.out.mono (T := S) (fun b _ hb => hb)).mach, G1.out⟩
theorem sinR (w : World) {S : Nat → Prop} {K p : Nat} {m : MachM} {F B C L D : Value} {fs bs : List Value} (h : MachX w S K p m F B C L D fs bs) (hi : MInv m) (bo oi : Nat) (fb fa tb ta rk : Int) (j : Nat) (hj : j < 4) (hO : OpC w bo oi ⟨8, 1, fb, fa, tb, ta, ((j : Int) + 1), rk⟩) (hb : ¬ S bo) (hin : (carAt m ((j : Int) + 1)).1 = false) :
    Calls Try.prog 70 #[.pointer (some ⟨p, 0, none⟩), .pointer (some ⟨bo, oi, none⟩)] w fun e w' => e = .returned (.int .i64 0) ∧ Mach w' S K p (execM m ⟨8, 1, fb, fa, tb, ta, ((j : Int) + 1), rk⟩) ∧ Chg S w w' := by
  obtain ⟨gC, jc, cC, hK, hCe⟩ := h.car hi (car := ((j : Int) + 1)) (by omega)
  obtain rfl : j = jc := by have := hK.ec; omega
  clear hj
  have hKj := hK.jl
  have hKc := hK.cc
  have hk4 := hK.hdr.1
  have hka := hK.a.1
  have hkb := hK.b
  have HKA := Lib.hid hK.a
  have hp0 := h.c0.1
  have hwd := hi.wd
  obtain ⟨pl, Hpl⟩ : ∃ pl, Hid ((carAt m ((j : Int) + 1)).2 = pl) := ⟨_, rfl⟩
  rw [Hpl.out] at hkb
  rw [hin] at hka
  have o0 := hO.c0
  have o1 := hO.c1
  have o6 := hO.c6
  dsimp only at o0 o1 o6
  have y1 : IntKind.i64.wrap ((j : Int) + 1 - 1) = j := (IntWalk.i64_in ((j : Int) + 1 - 1) (by omega)).trans (by omega)
  have y2 : IntKind.i64.wrap (j : Int) = j := IntWalk.i64_in _ (by omega)
  have y3 : IntKind.i64.wrap (m.wd + 3) = m.wd + 3 := IntWalk.i64_in _ (by omega)
  have b0 : (0 : Int) ≤ (j : Int) := by omega
  have b1 : (j : Int) < 4 := by omega
  have q0 := up_cell hk4
  have q1 := up_cell o6
  have Hi := Lib.hid hi
  have HX := Lib.hid h
  have HO := Lib.hid hO
  clear hi h hO hK
  go_enter Try.func70, Try.ntmps70
  go_wp2
  refine wp_region_up (by kernel_rfl) (by kernel_rfl) ?_
  repeat (go_big_quiet_step (fail))
  refine wpQuiet_nil ?_
  rintro w1 ⟨u, hu⟩
  have g1 := Lib.hid (hu ▸ u.up : Up w w1)
  clear hu u q0 q1
  have hh := cc4 g1.out o0 o1 hka hp0
  obtain ⟨o0, o1, hka, hp0⟩ := hh
  have q2 := up_cell hka
  have q3 := up_cell o0
  go_wp2
  refine wp_region_up (by kernel_rfl) (by kernel_rfl) ?_
  repeat (go_big_quiet_step (fail))
  refine wpQuiet_nil ?_
  rintro w2 ⟨u, hu⟩
  have g2 := Lib.hid (Chg.trans g1.out (hu ▸ u.up) : Up w w2)
  have g3 := Lib.hid (hu ▸ u.up : Up w1 w2)
  clear hu u q2 q3
  have hkb := hkb.up g2.out
  have hk1 := hkb.1
  have hk2 := hkb.2
  have hk3 := Chg.cell g3.out hka id
  have hk4 : w2.frozen? ⟨gC, j * 2, none⟩ = false := (HKA.out.up g2.out).2
  have hh := cc3 g3.out o0 o1 hp0
  obtain ⟨o0, o1, hp0⟩ := hh
  clear hka
  have X1 := Lib.hid ((HX.out.up g2.out).seat Hi.out (car := ((j : Int) + 1)) rfl hKj hCe false 0)
  have hgC : gC ≠ bo := fun e => hb (e ▸ HX.out.own C (by simp) gC (by rw [hCe]; rfl))
  have hgS : S gC := HX.out.own C (by simp) gC (by rw [hCe]; rfl)
  have hgp : gC ≠ p := fun e => HX.out.off_p C (by simp) gC (by rw [hCe]; rfl) e
  have G1 := Lib.hid (Chg.setCell (S := S) (Chg.setCell (Chg.of_up g2.out) (.inl hgS) (.bool false)) (.inl hgS) (.int .i64 0) : Chg S w ((w2.setCell ⟨gC, j * 2, none⟩ (.bool false)).setCell ⟨gC, j * 2 + 1, none⟩ (.int .i64 0)))
  have s0 : ((w2.setCell ⟨gC, j * 2, none⟩ (.bool false)).setCell ⟨gC, j * 2 + 1, none⟩ (.int .i64 0)).cell? ⟨bo, oi, none⟩ = _ := keepS (keepS o0 hgC) hgC
  have s1 : ((w2.setCell ⟨gC, j * 2, none⟩ (.bool false)).setCell ⟨gC, j * 2 + 1, none⟩ (.int .i64 0)).cell? ⟨bo, oi + 1, none⟩ = _ := keepS (keepS o1 hgC) hgC
  have HI1 : MInv (setCar m ((j : Int) + 1) (false, 0)) := Hi.out.setCar_ ((j : Int) + 1) (x := (false, 0)) ⟨by omega, by omega, fun _ => rfl⟩
  have X2 := Lib.hid (X1.out.seat HI1 (car := ((j : Int) + 1)) rfl hKj hCe true (-3))
  have G2 := Lib.hid (Chg.setCell (S := S) (Chg.setCell G1.out (.inl hgS) (.bool true)) (.inl hgS) (.int .i64 (-3)) : Chg S w ((((w2.setCell ⟨gC, j * 2, none⟩ (.bool false)).setCell ⟨gC, j * 2 + 1, none⟩ (.int .i64 0)).setCell ⟨gC, j * 2, none⟩ (.bool true)).setCell ⟨gC, j * 2 + 1, none⟩ (.int .i64 (-3))))
  clear HI1
  go_wp2
  go_ret
  have := X2.out.mach
  rw [setCar_setCar] at this
  exact ⟨rfl, this, G2.out⟩
theorem sinL (w : World) {S : Nat → Prop} {K p : Nat} {m : MachM} {F B C L D : Value} {fs bs : List Value} (h : MachX w S K p m F B C L D fs bs) (hi : MInv m) (bo oi : Nat) (fb fa tb ta rk : Int) (j : Nat) (hj : j < 4) (hO : OpC w bo oi ⟨8, (-1), fb, fa, tb, ta, ((j : Int) + 1), rk⟩) (hb : ¬ S bo) (hin : (carAt m ((j : Int) + 1)).1 = false) :
    Calls Try.prog 70 #[.pointer (some ⟨p, 0, none⟩), .pointer (some ⟨bo, oi, none⟩)] w fun e w' => e = .returned (.int .i64 0) ∧ Mach w' S K p (execM m ⟨8, (-1), fb, fa, tb, ta, ((j : Int) + 1), rk⟩) ∧ Chg S w w' := by
  obtain ⟨gC, jc, cC, hK, hCe⟩ := h.car hi (car := ((j : Int) + 1)) (by omega)
  obtain rfl : j = jc := by have := hK.ec; omega
  clear hj
  have hKj := hK.jl
  have hKc := hK.cc
  have hk4 := hK.hdr.1
  have hka := hK.a.1
  have hkb := hK.b
  have HKA := Lib.hid hK.a
  have hp0 := h.c0.1
  have hwd := hi.wd
  obtain ⟨pl, Hpl⟩ : ∃ pl, Hid ((carAt m ((j : Int) + 1)).2 = pl) := ⟨_, rfl⟩
  rw [Hpl.out] at hkb
  rw [hin] at hka
  have o0 := hO.c0
  have o1 := hO.c1
  have o6 := hO.c6
  dsimp only at o0 o1 o6
  have y1 : IntKind.i64.wrap ((j : Int) + 1 - 1) = j := (IntWalk.i64_in ((j : Int) + 1 - 1) (by omega)).trans (by omega)
  have y2 : IntKind.i64.wrap (j : Int) = j := IntWalk.i64_in _ (by omega)
  have y3 : IntKind.i64.wrap (m.wd + 3) = m.wd + 3 := IntWalk.i64_in _ (by omega)
  have b0 : (0 : Int) ≤ (j : Int) := by omega
  have b1 : (j : Int) < 4 := by omega
  have q0 := up_cell hk4
  have q1 := up_cell o6
  have Hi := Lib.hid hi
  have HX := Lib.hid h
  have HO := Lib.hid hO
  clear hi h hO hK
  go_enter Try.func70, Try.ntmps70
  go_wp2
  refine wp_region_up (by kernel_rfl) (by kernel_rfl) ?_
  repeat (go_big_quiet_step (fail))
  refine wpQuiet_nil ?_
  rintro w1 ⟨u, hu⟩
  have g1 := Lib.hid (hu ▸ u.up : Up w w1)
  clear hu u q0 q1
  have hh := cc4 g1.out o0 o1 hka hp0
  obtain ⟨o0, o1, hka, hp0⟩ := hh
  have q2 := up_cell hka
  have q3 := up_cell o0
  go_wp2
  refine wp_region_up (by kernel_rfl) (by kernel_rfl) ?_
  repeat (go_big_quiet_step (fail))
  refine wpQuiet_nil ?_
  rintro w2 ⟨u, hu⟩
  have g2 := Lib.hid (Chg.trans g1.out (hu ▸ u.up) : Up w w2)
  have g3 := Lib.hid (hu ▸ u.up : Up w1 w2)
  clear hu u q2 q3
  have hkb := hkb.up g2.out
  have hk1 := hkb.1
  have hk2 := hkb.2
  have hk3 := Chg.cell g3.out hka id
  have hk4 : w2.frozen? ⟨gC, j * 2, none⟩ = false := (HKA.out.up g2.out).2
  have hh := cc3 g3.out o0 o1 hp0
  obtain ⟨o0, o1, hp0⟩ := hh
  clear hka
  have X1 := Lib.hid ((HX.out.up g2.out).seat Hi.out (car := ((j : Int) + 1)) rfl hKj hCe false 0)
  have hgC : gC ≠ bo := fun e => hb (e ▸ HX.out.own C (by simp) gC (by rw [hCe]; rfl))
  have hgS : S gC := HX.out.own C (by simp) gC (by rw [hCe]; rfl)
  have hgp : gC ≠ p := fun e => HX.out.off_p C (by simp) gC (by rw [hCe]; rfl) e
  have G1 := Lib.hid (Chg.setCell (S := S) (Chg.setCell (Chg.of_up g2.out) (.inl hgS) (.bool false)) (.inl hgS) (.int .i64 0) : Chg S w ((w2.setCell ⟨gC, j * 2, none⟩ (.bool false)).setCell ⟨gC, j * 2 + 1, none⟩ (.int .i64 0)))
  have s0 : ((w2.setCell ⟨gC, j * 2, none⟩ (.bool false)).setCell ⟨gC, j * 2 + 1, none⟩ (.int .i64 0)).cell? ⟨bo, oi, none⟩ = _ := keepS (keepS o0 hgC) hgC
  have s1 : ((w2.setCell ⟨gC, j * 2, none⟩ (.bool false)).setCell ⟨gC, j * 2 + 1, none⟩ (.int .i64 0)).cell? ⟨bo, oi + 1, none⟩ = _ := keepS (keepS o1 hgC) hgC
  have HI1 : MInv (setCar m ((j : Int) + 1) (false, 0)) := Hi.out.setCar_ ((j : Int) + 1) (x := (false, 0)) ⟨by omega, by omega, fun _ => rfl⟩
  have X2 := Lib.hid (X1.out.seat HI1 (car := ((j : Int) + 1)) rfl hKj hCe true (-3))
  have G2 := Lib.hid (Chg.setCell (S := S) (Chg.setCell G1.out (.inl hgS) (.bool true)) (.inl hgS) (.int .i64 (-3)) : Chg S w ((((w2.setCell ⟨gC, j * 2, none⟩ (.bool false)).setCell ⟨gC, j * 2 + 1, none⟩ (.int .i64 0)).setCell ⟨gC, j * 2, none⟩ (.bool true)).setCell ⟨gC, j * 2 + 1, none⟩ (.int .i64 (-3))))
  have s2 : ((((w2.setCell ⟨gC, j * 2, none⟩ (.bool false)).setCell ⟨gC, j * 2 + 1, none⟩ (.int .i64 0)).setCell ⟨gC, j * 2, none⟩ (.bool true)).setCell ⟨gC, j * 2 + 1, none⟩ (.int .i64 (-3))).cell? ⟨p, 0, none⟩ = some (.int .i64 m.wd) := X2.out.c0.1
  have s3 : ((((w2.setCell ⟨gC, j * 2, none⟩ (.bool false)).setCell ⟨gC, j * 2 + 1, none⟩ (.int .i64 0)).setCell ⟨gC, j * 2, none⟩ (.bool true)).setCell ⟨gC, j * 2 + 1, none⟩ (.int .i64 (-3))).cell? ⟨bo, oi + 1, none⟩ = _ := keepS (keepS s1 hgC) hgC
  have s4a : (((w2.setCell ⟨gC, j * 2, none⟩ (.bool false)).setCell ⟨gC, j * 2 + 1, none⟩ (.int .i64 0)).setCell ⟨gC, j * 2, none⟩ (.bool true)).cell? ⟨gC, j * 2 + 1, none⟩ = some (.int .i64 0) := keepO (World.cell?_setCell_same _ _ _ (keepO hk1 (by omega) : (w2.setCell ⟨gC, j * 2, none⟩ (.bool false)).cell? ⟨gC, j * 2 + 1, none⟩ = _)) (by omega)
  have s4 : ((((w2.setCell ⟨gC, j * 2, none⟩ (.bool false)).setCell ⟨gC, j * 2 + 1, none⟩ (.int .i64 0)).setCell ⟨gC, j * 2, none⟩ (.bool true)).setCell ⟨gC, j * 2 + 1, none⟩ (.int .i64 (-3))).cell? ⟨gC, j * 2 + 1, none⟩ = some (.int .i64 (-3)) := World.cell?_setCell_same _ _ _ s4a
  have s5 : ((((w2.setCell ⟨gC, j * 2, none⟩ (.bool false)).setCell ⟨gC, j * 2 + 1, none⟩ (.int .i64 0)).setCell ⟨gC, j * 2, none⟩ (.bool true)).setCell ⟨gC, j * 2 + 1, none⟩ (.int .i64 (-3))).frozen? ⟨gC, j * 2 + 1, none⟩ = false := by simpa using hk2
  clear s4a
  have HI2 : MInv (setCar (setCar m ((j : Int) + 1) (false, 0)) ((j : Int) + 1) (true, -3)) := HI1.setCar_ ((j : Int) + 1) (x := (true, -3)) ⟨by omega, by omega, fun h => by cases h⟩
  have X3 := Lib.hid (X2.out.ride HI2 (car := ((j : Int) + 1)) rfl hKj hCe (m.wd + 3))
  have G3 := Lib.hid (Chg.setCell (S := S) G2.out (.inl hgS) (.int .i64 (m.wd + 3)) : Chg S w (((((w2.setCell ⟨gC, j * 2, none⟩ (.bool false)).setCell ⟨gC, j * 2 + 1, none⟩ (.int .i64 0)).setCell ⟨gC, j * 2, none⟩ (.bool true)).setCell ⟨gC, j * 2 + 1, none⟩ (.int .i64 (-3))).setCell ⟨gC, j * 2 + 1, none⟩ (.int .i64 (m.wd + 3))))
  clear HI2
  clear HI1
  go_wp2
  go_ret
  have := X3.out.mach
  rw [setCar_setCar m ((j : Int) + 1) (false, 0) (true, -3), setCar_twice m Hi.out j hKj] at this
  exact ⟨rfl, this, G3.out⟩
end Go.Proofs.Ytplabnjdhkmmkaa
end
section
set_option linter.unusedSimpArgs false
set_option linter.unusedVariables false
set_option maxRecDepth 100000
set_option maxHeartbeats 8000000
namespace Go.Proofs.Ytplabnjdhkmmkaa
open Go.ChangeShapes Go.WideShapes Go.ChangeAt Go.RowKit
attribute [local go_sem ↓] Go.wp_at_zero Go.wp_at_succ
theorem put_any (w : World) (S : Nat → Prop) (v : Value) (ds : List Int) (h : Ints w S v ds) (hl : ds.length ≤ 1000000) (n : Int) (hn : I64 n) :
    Calls Try.prog 55 #[v, .int .i64 n] w fun e w' => ∃ v' os, e = .returned v' ∧ OwnI w' w.heap.size v' os ∧ os.length ≤ ds.length + 1 ∧ Up w w' := by
  obtain ⟨A, c, rfl, hlc, hcm, -⟩ := h.shape
  have H := Lib.hid h
  have HN := Lib.hid hn
  clear h hn
  go_enter Try.func55, Try.ntmps55
  go_wp2
  go_loopw [5, 6, 7] (fun v d i wr => ∃ (j : Nat) (b : Bool) (os : List Int), j ≤ ds.length ∧ i = .int .i64 j ∧ d = .bool b ∧ os.length ≤ j + (if b then 1 else 0) ∧ Hid (OwnI wr w.heap.size v os) ∧ Hid (Up w wr)) (fun _ _ i _ => ds.length - (intOf i).toNat)
  case atStart => exact ⟨0, false, [], by omega, rfl, rfl, by simp, OwnI.made w _ (Nat.le_refl _), (Chg.refl _ _).alloc _⟩
  case round =>
    obtain ⟨j, b, os, hj, rfl, rfl, hos, ho, hg⟩ := hrel
    obtain ⟨Ao, co, rfl, hlo, hco, -⟩ := ho.out.ints.shape
    have hsz := hg.out.size
    have hol : os.length ≤ 1099511627775 := by split at hos <;> omega
    have hbs : os.length ≤ ds.length + 1 := by split at hos <;> omega
    have hbf : b = false → os.length ≤ j := fun e => by subst e; simpa using hos
    have hbt : os.length ≤ j + 1 := by split at hos <;> omega
    clear hos
    by_cases hlt : j < ds.length
    · obtain ⟨gb, go, rfl, -, hc⟩ := H.out.ixm hlt
      have hc0 := hc
      have f1 := Chg.cell hg.out (hc j hlt) id
      rw [ixm_eq hlt] at f1
      have HX : Hid (I64 ds[j]) := Lib.hid (by obtain ⟨_, _, _, _, _, h4, _⟩ := H.out; exact h4 _ (List.getElem_mem hlt))
      obtain ⟨x, HXE⟩ : ∃ x, Hid (ds[j] = x) := ⟨ds[j], Lib.hid rfl⟩
      rw [HXE.out] at f1 HX
      clear hc
      cases b with
      | true =>
        go_wp2_with (first | (at_builtin; refine wp_append_int rfl _ _ rfl w.heap.size _ os rfl (ho.out.alloc _) _ x rfl (cell_new _ _ _ _) HX.out ?_ ?_ ?_; (first | omega | (have := hp1.out; omega) | (simp; omega)); (first | omega | (simp; omega)); intro v1 w1 ho1 _ hg1; generalize he1 : (os ++ [x]) = p1 at ho1; have hp1 : Hid (p1.length = os.length + 1) := Lib.hid (by rw [← he1]; simp); clear he1; obtain ⟨A1, c1, rfl, hl1, hc1, -⟩ := ho1.ints.shape; have HO1 := Lib.hid ho1; have HG1 := Lib.hid hg1; have hz1 := HG1.out.size; simp at hz1; clear ho1 hg1))
        go_roundw
        case rel => exact ⟨j + 1, true, p1, by omega, by go_num, rfl, by simp; have h1 := hp1.out; omega, HO1.out, Chg.new (Chg.trans hg.out ((Chg.refl _ _).alloc _)) HG1.out (fun i hi => by omega)⟩
        case measure => first | (simp [intOf]; done) | (simp [intOf]; omega)
      | false =>
        have hos0 := hbf rfl
        by_cases hlt2 : n ≤ x
        rotate_left
        · have t1 : decide (n ≤ x) = false := decide_eq_false hlt2
          go_wp2_with (first | (at_builtin; refine wp_append_int rfl _ _ rfl w.heap.size _ os rfl (ho.out.alloc _) _ x rfl (cell_new _ _ _ _) HX.out ?_ ?_ ?_; (first | omega | (have := hp1.out; omega) | (simp; omega)); (first | omega | (simp; omega)); intro v1 w1 ho1 _ hg1; generalize he1 : (os ++ [x]) = p1 at ho1; have hp1 : Hid (p1.length = os.length + 1) := Lib.hid (by rw [← he1]; simp); clear he1; obtain ⟨A1, c1, rfl, hl1, hc1, -⟩ := ho1.ints.shape; have HO1 := Lib.hid ho1; have HG1 := Lib.hid hg1; have hz1 := HG1.out.size; simp at hz1; clear ho1 hg1))
          go_roundw
          case rel => exact ⟨j + 1, false, p1, by omega, by go_num, rfl, by simp; have h1 := hp1.out; omega, HO1.out, Chg.new (Chg.trans hg.out ((Chg.refl _ _).alloc _)) HG1.out (fun i hi => by omega)⟩
          case measure => first | (simp [intOf]; done) | (simp [intOf]; omega)
        have t1 : decide (n ≤ x) = true := decide_eq_true hlt2
        by_cases hlt3 : n < x
        rotate_left
        · have t2 : decide (n < x) = false := decide_eq_false hlt3
          go_wp2_with (first | (at_builtin; refine wp_append_int rfl _ _ rfl w.heap.size _ os rfl (ho.out.alloc _) _ x rfl (cell_new _ _ _ _) HX.out ?_ ?_ ?_; (first | omega | (have := hp1.out; omega) | (simp; omega)); (first | omega | (simp; omega)); intro v1 w1 ho1 _ hg1; generalize he1 : (os ++ [x]) = p1 at ho1; have hp1 : Hid (p1.length = os.length + 1) := Lib.hid (by rw [← he1]; simp); clear he1; obtain ⟨A1, c1, rfl, hl1, hc1, -⟩ := ho1.ints.shape; have HO1 := Lib.hid ho1; have HG1 := Lib.hid hg1; have hz1 := HG1.out.size; simp at hz1; clear ho1 hg1))
          go_roundw
          case rel => exact ⟨j + 1, true, p1, by omega, by go_num, rfl, by simp; have h1 := hp1.out; omega, HO1.out, Chg.new (Chg.trans hg.out ((Chg.refl _ _).alloc _)) HG1.out (fun i hi => by omega)⟩
          case measure => first | (simp [intOf]; done) | (simp [intOf]; omega)
        have t2 : decide (n < x) = true := decide_eq_true hlt3
        go_wp2_with (first | (at_builtin; refine wp_append_int rfl _ _ rfl w.heap.size _ os rfl (ho.out.alloc _) _ n rfl (cell_new _ _ _ _) HN.out ?_ ?_ ?_; (first | omega | (have := hp1.out; omega) | (simp; omega)); (first | omega | (simp; omega)); intro v1 w1 ho1 _ hg1; generalize he1 : (os ++ [n]) = p1 at ho1; have hp1 : Hid (p1.length = os.length + 1) := Lib.hid (by rw [← he1]; simp); clear he1; obtain ⟨A1, c1, rfl, hl1, hc1, -⟩ := ho1.ints.shape; have HO1 := Lib.hid ho1; have HG1 := Lib.hid hg1; have hz1 := HG1.out.size; simp at hz1; clear ho1 hg1; have hu1 : Up w w1 := Chg.new (Chg.trans hg.out ((Chg.refl _ _).alloc _)) HG1.out (fun i hi => Nat.not_le.2 hi); have f1 := Chg.cell hu1 (hc0 j hlt) id; clear hu1; rw [ixm_eq hlt, HXE.out] at f1) | (at_builtin; refine wp_append_int rfl _ _ rfl w.heap.size _ p1 rfl (HO1.out.alloc _) _ x rfl (cell_new _ _ _ _) HX.out ?_ ?_ ?_; (first | omega | (have := hp1.out; omega) | (simp; omega)); (first | omega | (simp; omega)); intro v2 w2 ho2 _ hg2; generalize he2 : (p1 ++ [x]) = p2 at ho2; have hp2 : Hid (p2.length = p1.length + 1) := Lib.hid (by rw [← he2]; simp); clear he2; obtain ⟨A2, c2, rfl, hl2, hc2, -⟩ := ho2.ints.shape; have HO2 := Lib.hid ho2; have HG2 := Lib.hid hg2; have hz2 := HG2.out.size; simp at hz2; clear ho2 hg2))
        go_roundw
        case rel => exact ⟨j + 1, true, p2, by omega, by go_num, rfl, by simp; have h1 := hp1.out; have h2 := hp2.out; omega, HO2.out, Chg.new (Chg.trans (Chg.new (Chg.trans hg.out ((Chg.refl _ _).alloc _)) HG1.out (fun i hi => by omega)) ((Chg.refl _ _).alloc _)) HG2.out (fun i hi => by omega)⟩
        case measure => first | (simp [intOf]; done) | (simp [intOf]; omega)
    · obtain rfl : j = ds.length := by omega
      cases b with
      | true =>
        go_wp2
        go_ret
        exact ⟨_, os, rfl, ho.out, hbs, hg.out⟩
      | false =>
        have hos0 := hbf rfl
        go_wp2_with (first | (at_builtin; refine wp_append_int rfl _ _ rfl w.heap.size _ os rfl (ho.out.alloc _) _ n rfl (cell_new _ _ _ _) HN.out ?_ ?_ ?_; (first | omega | (have := hp1.out; omega) | (simp; omega)); (first | omega | (simp; omega)); intro v1 w1 ho1 _ hg1; generalize he1 : (os ++ [n]) = p1 at ho1; have hp1 : Hid (p1.length = os.length + 1) := Lib.hid (by rw [← he1]; simp); clear he1; obtain ⟨A1, c1, rfl, hl1, hc1, -⟩ := ho1.ints.shape; have HO1 := Lib.hid ho1; have HG1 := Lib.hid hg1; have hz1 := HG1.out.size; simp at hz1; clear ho1 hg1))
        go_ret
        exact ⟨_, rfl, p1, HO1.out, by have := hp1.out; omega, Chg.new (Chg.trans hg.out ((Chg.refl _ _).alloc _)) HG1.out (fun i hi => by omega)⟩
end Go.Proofs.Ytplabnjdhkmmkaa
end
section
set_option linter.unusedSimpArgs false
set_option linter.unusedVariables false
set_option maxRecDepth 100000
set_option maxHeartbeats 8000000
namespace Go.Proofs.Ytplabnjdhkmmkaa
open Go.ChangeShapes Go.WideShapes Go.ChangeAt Go.RowKit
attribute [local go_sem ↓] Go.wp_at_zero Go.wp_at_succ
theorem at_hold {w : World} {S : Nat → Prop} {K p : Nat} {m : MachM} {F B C L D : Value} {fs bs : List Value} {b a : Int} {g : Nat} {v : Value} (h : MachX w S K p m F B C L D fs bs) (hi : MInv m) (hn : okN m b a) (hv : AtN F B fs bs b a g v) : Hold w p b a g v (onM m b a) := by
  obtain ⟨g', v', hH, hV⟩ := h.hold hi hn
  rcases hv with ⟨rfl, c, h1, h2, h3⟩ | ⟨rfl, c, h1, h2, h3⟩
  · rcases hV with ⟨-, c', k1, k2, k3⟩ | ⟨e, -⟩
    · rw [h1] at k1
      have hg : g = g' := by simp at k1; exact k1.1
      rw [hg, ← h2, k2]; exact hH
    · cases e
  · rcases hV with ⟨e, -⟩ | ⟨-, c', k1, k2, k3⟩
    · cases e
    · rw [h1] at k1
      have hg : g = g' := by simp at k1; exact k1.1
      rw [hg, ← h2, k2]; exact hH
theorem ixa_int (g o n c j : Nat) (h : j < n) (w : World) : (Instr.indexAt 23 (.slice (some ⟨g, o, none⟩) n c) (.int .i64 (j : Int))).run Try.prog w = .ok (.pointer (some ⟨g, o + j, none⟩)) w := by
  have h0 : (0 : Int) ≤ (j : Int) := by omega
  have h1 : (j : Int) < n := by omega
  go_simp
theorem do_no1 (w : World) {S : Nat → Prop} {K p : Nat} {m : MachM} {F B C L D : Value} {fs bs : List Value} (h : MachX w S K p m F B C L D fs bs) (hS : NewIn S w) (hi : MInv m) (bo oi : Nat) (d fb fa tb ta car rk : Int) (hO : OpC w bo oi ⟨1, d, fb, fa, tb, ta, car, rk⟩) (hb : ¬ S bo) (hd : d = 1 ∨ d = -1) (hca : 1 ≤ car ∧ car ≤ 4) (hfb : fb = 1 ∨ fb = 2) (hfa : 0 ≤ fa ∧ fa ≤ 23) (hfw : fa < m.wd) (hr : rideB m ⟨1, d, fb, fa, tb, ta, car, rk⟩ = false) :
    Calls Try.prog 36 #[.pointer (some ⟨p, 0, none⟩), .pointer (some ⟨bo, oi, none⟩)] w fun e w' => e = .returned (.int .i64 9) ∧ Chg S w w' := by
  have o0 := hO.c0
  dsimp only at o0
  have HX := Lib.hid h
  have HI := Lib.hid hi
  have HS := Lib.hid hS
  have HO := Lib.hid hO
  clear h hi hS hO
  go_enter Try.func36, Try.ntmps36
  go_wp2_with fail
  refine (form_no _ HX.out HS.out HI.out bo oi 1 d fb fa tb ta car rk hd hca HO.out hb hfb hfa hfw hr).mono ?_
  rintro e w1 ⟨rfl, g1⟩
  have G1 := Lib.hid g1
  clear g1
  go_wp2
  go_ret
  exact ⟨rfl, G1.out⟩
theorem do_full1 (w : World) {S : Nat → Prop} {K p : Nat} {m : MachM} {F B C L D : Value} {fs bs : List Value} (h : MachX w S K p m F B C L D fs bs) (hS : NewIn S w) (hi : MInv m) (bo oi : Nat) (d fb fa tb ta car rk : Int) (hO : OpC w bo oi ⟨1, d, fb, fa, tb, ta, car, rk⟩) (hb : ¬ S bo) (hd : d = 1 ∨ d = -1) (hca : 1 ≤ car ∧ car ≤ 4) (hfb : fb = 1 ∨ fb = 2) (hfa : 0 ≤ fa ∧ fa ≤ 23) (hfw : fa < m.wd) (hr : rideB m ⟨1, d, fb, fa, tb, ta, car, rk⟩ = true) (hf : 300 ≤ m.nl) :
    Calls Try.prog 36 #[.pointer (some ⟨p, 0, none⟩), .pointer (some ⟨bo, oi, none⟩)] w fun e w' => e = .returned (.int .i64 5) ∧ Chg S w w' := by
  have o0 := hO.c0
  dsimp only at o0
  have HX := Lib.hid h
  have HI := Lib.hid hi
  have HS := Lib.hid hS
  have HO := Lib.hid hO
  clear h hi hS hO
  go_enter Try.func36, Try.ntmps36
  go_wp2_with fail
  refine (form_full _ HX.out HS.out HI.out bo oi 1 d fb fa tb ta car rk hd hca HO.out hb hfb hfa hfw hr hf).mono ?_
  rintro e w1 ⟨rfl, g1⟩
  have G1 := Lib.hid g1
  clear g1
  go_wp2
  go_ret
  exact ⟨rfl, G1.out⟩
theorem do_no2 (w : World) {S : Nat → Prop} {K p : Nat} {m : MachM} {F B C L D : Value} {fs bs : List Value} (h : MachX w S K p m F B C L D fs bs) (hS : NewIn S w) (hi : MInv m) (bo oi : Nat) (d fb fa tb ta car rk : Int) (hO : OpC w bo oi ⟨2, d, fb, fa, tb, ta, car, rk⟩) (hb : ¬ S bo) (hd : d = 1 ∨ d = -1) (hca : 1 ≤ car ∧ car ≤ 4) (hfb : fb = 1 ∨ fb = 2) (hfa : 0 ≤ fa ∧ fa ≤ 23) (hfw : fa < m.wd) (hr : rideB m ⟨2, d, fb, fa, tb, ta, car, rk⟩ = false) :
    Calls Try.prog 36 #[.pointer (some ⟨p, 0, none⟩), .pointer (some ⟨bo, oi, none⟩)] w fun e w' => e = .returned (.int .i64 9) ∧ Chg S w w' := by
  have o0 := hO.c0
  dsimp only at o0
  have HX := Lib.hid h
  have HI := Lib.hid hi
  have HS := Lib.hid hS
  have HO := Lib.hid hO
  clear h hi hS hO
  go_enter Try.func36, Try.ntmps36
  go_wp2_with fail
  refine (form_no _ HX.out HS.out HI.out bo oi 2 d fb fa tb ta car rk hd hca HO.out hb hfb hfa hfw hr).mono ?_
  rintro e w1 ⟨rfl, g1⟩
  have G1 := Lib.hid g1
  clear g1
  go_wp2
  go_ret
  exact ⟨rfl, G1.out⟩
theorem do_full2 (w : World) {S : Nat → Prop} {K p : Nat} {m : MachM} {F B C L D : Value} {fs bs : List Value} (h : MachX w S K p m F B C L D fs bs) (hS : NewIn S w) (hi : MInv m) (bo oi : Nat) (d fb fa tb ta car rk : Int) (hO : OpC w bo oi ⟨2, d, fb, fa, tb, ta, car, rk⟩) (hb : ¬ S bo) (hd : d = 1 ∨ d = -1) (hca : 1 ≤ car ∧ car ≤ 4) (hfb : fb = 1 ∨ fb = 2) (hfa : 0 ≤ fa ∧ fa ≤ 23) (hfw : fa < m.wd) (hr : rideB m ⟨2, d, fb, fa, tb, ta, car, rk⟩ = true) (hf : 300 ≤ m.nl) :
    Calls Try.prog 36 #[.pointer (some ⟨p, 0, none⟩), .pointer (some ⟨bo, oi, none⟩)] w fun e w' => e = .returned (.int .i64 5) ∧ Chg S w w' := by
  have o0 := hO.c0
  dsimp only at o0
  have HX := Lib.hid h
  have HI := Lib.hid hi
  have HS := Lib.hid hS
  have HO := Lib.hid hO
  clear h hi hS hO
  go_enter Try.func36, Try.ntmps36
  go_wp2_with fail
  refine (form_full _ HX.out HS.out HI.out bo oi 2 d fb fa tb ta car rk hd hca HO.out hb hfb hfa hfw hr hf).mono ?_
  rintro e w1 ⟨rfl, g1⟩
  have G1 := Lib.hid g1
  clear g1
  go_wp2
  go_ret
  exact ⟨rfl, G1.out⟩
theorem do_no5 (w : World) {S : Nat → Prop} {K p : Nat} {m : MachM} {F B C L D : Value} {fs bs : List Value} (h : MachX w S K p m F B C L D fs bs) (hS : NewIn S w) (hi : MInv m) (bo oi : Nat) (d fb fa tb ta car rk : Int) (hO : OpC w bo oi ⟨5, d, fb, fa, tb, ta, car, rk⟩) (hb : ¬ S bo) (hd : d = 1 ∨ d = -1) (hca : 1 ≤ car ∧ car ≤ 4) (hfb : fb = 1 ∨ fb = 2) (hfa : 0 ≤ fa ∧ fa ≤ 23) (hfw : fa < m.wd) (hr : rideB m ⟨5, d, fb, fa, tb, ta, car, rk⟩ = false) :
    Calls Try.prog 36 #[.pointer (some ⟨p, 0, none⟩), .pointer (some ⟨bo, oi, none⟩)] w fun e w' => e = .returned (.int .i64 9) ∧ Chg S w w' := by
  have o0 := hO.c0
  dsimp only at o0
  have HX := Lib.hid h
  have HI := Lib.hid hi
  have HS := Lib.hid hS
  have HO := Lib.hid hO
  clear h hi hS hO
  go_enter Try.func36, Try.ntmps36
  go_wp2_with fail
  refine (form_no _ HX.out HS.out HI.out bo oi 5 d fb fa tb ta car rk hd hca HO.out hb hfb hfa hfw hr).mono ?_
  rintro e w1 ⟨rfl, g1⟩
  have G1 := Lib.hid g1
  clear g1
  go_wp2
  go_ret
  exact ⟨rfl, G1.out⟩
theorem do_full5 (w : World) {S : Nat → Prop} {K p : Nat} {m : MachM} {F B C L D : Value} {fs bs : List Value} (h : MachX w S K p m F B C L D fs bs) (hS : NewIn S w) (hi : MInv m) (bo oi : Nat) (d fb fa tb ta car rk : Int) (hO : OpC w bo oi ⟨5, d, fb, fa, tb, ta, car, rk⟩) (hb : ¬ S bo) (hd : d = 1 ∨ d = -1) (hca : 1 ≤ car ∧ car ≤ 4) (hfb : fb = 1 ∨ fb = 2) (hfa : 0 ≤ fa ∧ fa ≤ 23) (hfw : fa < m.wd) (hr : rideB m ⟨5, d, fb, fa, tb, ta, car, rk⟩ = true) (hf : 300 ≤ m.nl) :
    Calls Try.prog 36 #[.pointer (some ⟨p, 0, none⟩), .pointer (some ⟨bo, oi, none⟩)] w fun e w' => e = .returned (.int .i64 5) ∧ Chg S w w' := by
  have o0 := hO.c0
  dsimp only at o0
  have HX := Lib.hid h
  have HI := Lib.hid hi
  have HS := Lib.hid hS
  have HO := Lib.hid hO
  clear h hi hS hO
  go_enter Try.func36, Try.ntmps36
  go_wp2_with fail
  refine (form_full _ HX.out HS.out HI.out bo oi 5 d fb fa tb ta car rk hd hca HO.out hb hfb hfa hfw hr hf).mono ?_
  rintro e w1 ⟨rfl, g1⟩
  have G1 := Lib.hid g1
  clear g1
  go_wp2
  go_ret
  exact ⟨rfl, G1.out⟩
theorem do_knit (w : World) {S : Nat → Prop} {K p : Nat} {m : MachM} {F B C L D : Value} {fs bs : List Value} (h : MachX w S K p m F B C L D fs bs) (hS : NewIn S w) (hi : MInv m) (bo oi : Nat) (d fb fa tb ta car rk : Int) (hO : OpC w bo oi ⟨1, d, fb, fa, tb, ta, car, rk⟩) (hb : ¬ S bo) (hd : d = 1 ∨ d = -1) (hca : 1 ≤ car ∧ car ≤ 4) (hfb : fb = 1 ∨ fb = 2) (hfa : 0 ≤ fa ∧ fa ≤ 23) (hfw : fa < m.wd) (hr : rideB m ⟨1, d, fb, fa, tb, ta, car, rk⟩ = true) (hf : m.nl < 300) :
    Calls Try.prog 36 #[.pointer (some ⟨p, 0, none⟩), .pointer (some ⟨bo, oi, none⟩)] w fun e w' => e = .returned (.int .i64 0) ∧ Mach w' S K p (execM m ⟨1, d, fb, fa, tb, ta, car, rk⟩) ∧ Chg S w w' := by
  have o0 := hO.c0
  dsimp only at o0
  have HX := Lib.hid h
  have HI := Lib.hid hi
  have HS := Lib.hid hS
  have HO := Lib.hid hO
  clear h hi hS hO
  go_enter Try.func36, Try.ntmps36
  go_wp2_with fail
  refine (form_knit _ HX.out HS.out HI.out bo oi d fb fa tb ta car rk hd hca HO.out hb hfb hfa hfw hr hf).mono ?_
  rintro e w1 ⟨rfl, x1, g1⟩
  have X1 := Lib.hid x1
  have G1 := Lib.hid g1
  clear g1
  go_wp2
  go_ret
  exact ⟨rfl, X1.out, G1.out⟩
theorem do_tuckfull (w : World) {S : Nat → Prop} {K p : Nat} {m : MachM} {F B C L D : Value} {fs bs : List Value} (h : MachX w S K p m F B C L D fs bs) (hS : NewIn S w) (hi : MInv m) (bo oi : Nat) (d fb fa tb ta car rk : Int) (hO : OpC w bo oi ⟨2, d, fb, fa, tb, ta, car, rk⟩) (hb : ¬ S bo) (hd : d = 1 ∨ d = -1) (hca : 1 ≤ car ∧ car ≤ 4) (hfb : fb = 1 ∨ fb = 2) (hfa : 0 ≤ fa ∧ fa ≤ 23) (hfw : fa < m.wd) (hr : rideB m ⟨2, d, fb, fa, tb, ta, car, rk⟩ = true) (hf : m.nl < 300) (hq : 4 ≤ (onM m fb fa).length) :
    Calls Try.prog 36 #[.pointer (some ⟨p, 0, none⟩), .pointer (some ⟨bo, oi, none⟩)] w fun e w' => e = .returned (.int .i64 5) ∧ Chg S w w' := by
  have o0 := hO.c0
  dsimp only at o0
  have HX := Lib.hid h
  have HI := Lib.hid hi
  have HS := Lib.hid hS
  have HO := Lib.hid hO
  clear h hi hS hO
  go_enter Try.func36, Try.ntmps36
  go_wp2_with fail
  refine (form_tuckfull _ HX.out HS.out HI.out bo oi d fb fa tb ta car rk hd hca HO.out hb hfb hfa hfw hr hf hq).mono ?_
  rintro e w1 ⟨rfl, g1⟩
  have G1 := Lib.hid g1
  clear g1
  go_wp2
  go_ret
  exact ⟨rfl, G1.out⟩
theorem do_tuck (w : World) {S : Nat → Prop} {K p : Nat} {m : MachM} {F B C L D : Value} {fs bs : List Value} (h : MachX w S K p m F B C L D fs bs) (hS : NewIn S w) (hi : MInv m) (bo oi : Nat) (d fb fa tb ta car rk : Int) (hO : OpC w bo oi ⟨2, d, fb, fa, tb, ta, car, rk⟩) (hb : ¬ S bo) (hd : d = 1 ∨ d = -1) (hca : 1 ≤ car ∧ car ≤ 4) (hfb : fb = 1 ∨ fb = 2) (hfa : 0 ≤ fa ∧ fa ≤ 23) (hfw : fa < m.wd) (hr : rideB m ⟨2, d, fb, fa, tb, ta, car, rk⟩ = true) (hf : m.nl < 300) (hq : (onM m fb fa).length ≤ 3) :
    Calls Try.prog 36 #[.pointer (some ⟨p, 0, none⟩), .pointer (some ⟨bo, oi, none⟩)] w fun e w' => e = .returned (.int .i64 0) ∧ Mach w' S K p (execM m ⟨2, d, fb, fa, tb, ta, car, rk⟩) ∧ Chg S w w' := by
  have o0 := hO.c0
  dsimp only at o0
  have HX := Lib.hid h
  have HI := Lib.hid hi
  have HS := Lib.hid hS
  have HO := Lib.hid hO
  clear h hi hS hO
  go_enter Try.func36, Try.ntmps36
  go_wp2_with fail
  refine (form_tuck _ HX.out HS.out HI.out bo oi d fb fa tb ta car rk hd hca HO.out hb hfb hfa hfw hr hf hq).mono ?_
  rintro e w1 ⟨rfl, x1, g1⟩
  have X1 := Lib.hid x1
  have G1 := Lib.hid g1
  clear g1
  go_wp2
  go_ret
  exact ⟨rfl, X1.out, G1.out⟩
theorem do_split (w : World) {S : Nat → Prop} {K p : Nat} {m : MachM} {F B C L D : Value} {fs bs : List Value} (h : MachX w S K p m F B C L D fs bs) (hS : NewIn S w) (hi : MInv m) (bo oi : Nat) (d fb fa tb ta car rk : Int) (hO : OpC w bo oi ⟨5, d, fb, fa, tb, ta, car, rk⟩) (hb : ¬ S bo) (hd : d = 1 ∨ d = -1) (hca : 1 ≤ car ∧ car ≤ 4) (hfb : fb = 1 ∨ fb = 2) (hfa : 0 ≤ fa ∧ fa ≤ 23) (hfw : fa < m.wd) (hft : (fb = 1 ∧ tb = 2) ∨ (fb = 2 ∧ tb = 1)) (hta : 0 ≤ ta ∧ ta ≤ 23) (htw : ta < m.wd) (hr : rideB m ⟨5, d, fb, fa, tb, ta, car, rk⟩ = true) (hf : m.nl < 300) :
    Calls Try.prog 36 #[.pointer (some ⟨p, 0, none⟩), .pointer (some ⟨bo, oi, none⟩)] w fun e w' => e = .returned (.int .i64 (moveC m ⟨5, d, fb, fa, tb, ta, car, rk⟩)) ∧ (moveC m ⟨5, d, fb, fa, tb, ta, car, rk⟩ = 0 → Mach w' S K p (execM m ⟨5, d, fb, fa, tb, ta, car, rk⟩)) ∧ Chg S w w' := by
  have o0 := hO.c0
  dsimp only at o0
  have HX := Lib.hid h
  have HI := Lib.hid hi
  have HS := Lib.hid hS
  have HO := Lib.hid hO
  clear h hi hS hO
  go_enter Try.func36, Try.ntmps36
  go_wp2_with fail
  refine (form_split _ HX.out HS.out HI.out bo oi d fb fa tb ta car rk hd hca HO.out hb hfb hfa hfw hr hf hft hta htw).mono ?_
  rintro e w1 ⟨rfl, x1, g1⟩
  have X1 := Lib.hid x1
  have G1 := Lib.hid g1
  clear x1 g1
  go_wp2
  go_ret
  exact ⟨rfl, X1.out, G1.out⟩
theorem do_xfer (w : World) {S : Nat → Prop} {K p : Nat} {m : MachM} {F B C L D : Value} {fs bs : List Value} (h : MachX w S K p m F B C L D fs bs) (hS : NewIn S w) (hi : MInv m) (bo oi : Nat) (d fb fa tb ta car rk : Int) (hO : OpC w bo oi ⟨4, d, fb, fa, tb, ta, car, rk⟩) (hb : ¬ S bo) (hft : (fb = 1 ∧ tb = 2) ∨ (fb = 2 ∧ tb = 1)) (hfa : 0 ≤ fa ∧ fa ≤ 23) (hta : 0 ≤ ta ∧ ta ≤ 23) (hfw : fa < m.wd) (htw : ta < m.wd) :
    Calls Try.prog 36 #[.pointer (some ⟨p, 0, none⟩), .pointer (some ⟨bo, oi, none⟩)] w fun e w' => e = .returned (.int .i64 (moveC m ⟨4, d, fb, fa, tb, ta, car, rk⟩)) ∧ (moveC m ⟨4, d, fb, fa, tb, ta, car, rk⟩ = 0 → Mach w' S K p (shiftM m ⟨4, d, fb, fa, tb, ta, car, rk⟩)) ∧ Chg S w w' := by
  have o0 := hO.c0
  dsimp only at o0
  have HX := Lib.hid h
  have HI := Lib.hid hi
  have HS := Lib.hid hS
  have HO := Lib.hid hO
  clear h hi hS hO
  go_enter Try.func36, Try.ntmps36
  go_wp2_with fail
  refine (move_any _ HX.out.mach HS.out HI.out bo oi ⟨4, d, fb, fa, tb, ta, car, rk⟩ HO.out hb hft hfa hta hfw htw).mono ?_
  rintro e w1 ⟨rfl, x1, g1⟩
  have X1 := Lib.hid x1
  have G1 := Lib.hid g1
  clear x1 g1
  go_wp2
  go_ret
  exact ⟨rfl, X1.out, G1.out⟩
theorem do_miss9 (w : World) {S : Nat → Prop} {K p : Nat} {m : MachM} {F B C L D : Value} {fs bs : List Value} (h : MachX w S K p m F B C L D fs bs) (hS : NewIn S w) (hi : MInv m) (bo oi : Nat) (d fb fa tb ta car rk : Int) (hO : OpC w bo oi ⟨3, d, fb, fa, tb, ta, car, rk⟩) (hb : ¬ S bo) (hd : d = 1 ∨ d = -1) (hca : 1 ≤ car ∧ car ≤ 4) (hfa : 0 ≤ fa ∧ fa ≤ 23) (hr : rideB m ⟨3, d, fb, fa, tb, ta, car, rk⟩ = false) :
    Calls Try.prog 36 #[.pointer (some ⟨p, 0, none⟩), .pointer (some ⟨bo, oi, none⟩)] w fun e w' => e = .returned (.int .i64 9) ∧ Chg S w w' := by
  have HR := Lib.hid hr
  clear hr
  have o0 := hO.c0
  dsimp only at o0
  have HX := Lib.hid h
  have HI := Lib.hid hi
  have HS := Lib.hid hS
  have HO := Lib.hid hO
  clear h hi hS hO
  go_enter Try.func36, Try.ntmps36
  go_wp2_with fail
  refine (carry_any _ HX.out HI.out bo oi ⟨3, d, fb, fa, tb, ta, car, rk⟩ hd hca HO.out hb hfa).mono ?_
  rintro e w1 ⟨rfl, x1, g1⟩
  rw [HR.out]
  have X1 := Lib.hid x1
  have G1 := Lib.hid g1
  clear x1 g1
  go_wp2
  go_ret
  exact ⟨rfl, G1.out⟩
theorem do_miss0 (w : World) {S : Nat → Prop} {K p : Nat} {m : MachM} {F B C L D : Value} {fs bs : List Value} (h : MachX w S K p m F B C L D fs bs) (hS : NewIn S w) (hi : MInv m) (bo oi : Nat) (d fb fa tb ta car rk : Int) (hO : OpC w bo oi ⟨3, d, fb, fa, tb, ta, car, rk⟩) (hb : ¬ S bo) (hd : d = 1 ∨ d = -1) (hca : 1 ≤ car ∧ car ≤ 4) (hfa : 0 ≤ fa ∧ fa ≤ 23) (hr : rideB m ⟨3, d, fb, fa, tb, ta, car, rk⟩ = true) :
    Calls Try.prog 36 #[.pointer (some ⟨p, 0, none⟩), .pointer (some ⟨bo, oi, none⟩)] w fun e w' => e = .returned (.int .i64 0) ∧ Mach w' S K p (ridM m ⟨3, d, fb, fa, tb, ta, car, rk⟩) ∧ Chg S w w' := by
  have HR := Lib.hid hr
  clear hr
  have o0 := hO.c0
  dsimp only at o0
  have HX := Lib.hid h
  have HI := Lib.hid hi
  have HS := Lib.hid hS
  have HO := Lib.hid hO
  clear h hi hS hO
  go_enter Try.func36, Try.ntmps36
  go_wp2_with fail
  refine (carry_any _ HX.out HI.out bo oi ⟨3, d, fb, fa, tb, ta, car, rk⟩ hd hca HO.out hb hfa).mono ?_
  rintro e w1 ⟨rfl, x1, g1⟩
  rw [HR.out]
  have X1 := Lib.hid x1
  have G1 := Lib.hid g1
  clear x1 g1
  go_wp2
  go_ret
  exact ⟨rfl, (X1.out HR.out).mach, G1.out⟩
theorem do_rack (w : World) {S : Nat → Prop} {K p : Nat} {m : MachM} {F B C L D : Value} {fs bs : List Value} (h : MachX w S K p m F B C L D fs bs) (hS : NewIn S w) (hi : MInv m) (bo oi : Nat) (d fb fa tb ta car rk : Int) (hO : OpC w bo oi ⟨7, d, fb, fa, tb, ta, car, rk⟩) (hb : ¬ S bo)  :
    Calls Try.prog 36 #[.pointer (some ⟨p, 0, none⟩), .pointer (some ⟨bo, oi, none⟩)] w fun e w' => e = .returned (.int .i64 0) ∧ Mach w' S K p { m with rack := rk } ∧ Chg S w w' := by
  have o0 := hO.c0
  have o7 := hO.c7
  dsimp only at o0 o7
  have HX := Lib.hid h
  have HI := Lib.hid hi
  have HS := Lib.hid hS
  have HO := Lib.hid hO
  clear h hi hS hO
  go_enter Try.func36, Try.ntmps36
  have hp1 := HX.out.c1.1
  have hf1 := HX.out.c1.2
  have X1 := Lib.hid (HX.out.set_rack rk)
  have G1 := Lib.hid (Chg.setCell (S := S) (Chg.refl S w) (.inl HX.out.sp) (.int .i64 rk) : Chg S w (w.setCell ⟨p, 1, none⟩ (.int .i64 rk)))
  go_wp2
  go_ret
  exact ⟨rfl, X1.out.mach, G1.out⟩
theorem do_in_no (w : World) {S : Nat → Prop} {K p : Nat} {m : MachM} {F B C L D : Value} {fs bs : List Value} (h : MachX w S K p m F B C L D fs bs) (hS : NewIn S w) (hi : MInv m) (bo oi : Nat) (d fb fa tb ta rk : Int) (j : Nat) (hj : j < 4) (hO : OpC w bo oi ⟨8, d, fb, fa, tb, ta, ((j : Int) + 1), rk⟩) (hb : ¬ S bo) (hin : (carAt m ((j : Int) + 1)).1 = true) :
    Calls Try.prog 36 #[.pointer (some ⟨p, 0, none⟩), .pointer (some ⟨bo, oi, none⟩)] w fun e w' => e = .returned (.int .i64 9) ∧ Chg S w w' := by
  have o0 := hO.c0
  dsimp only at o0
  have HX := Lib.hid h
  have HI := Lib.hid hi
  have HS := Lib.hid hS
  have HO := Lib.hid hO
  clear h hi hS hO
  go_enter Try.func36, Try.ntmps36
  go_wp2_with fail
  refine (sin_no _ HX.out HI.out bo oi d fb fa tb ta rk j hj HO.out hb hin).mono ?_
  rintro e w1 ⟨rfl, g1⟩
  have G1 := Lib.hid g1
  clear g1
  go_wp2
  go_ret
  exact ⟨rfl, Chg.of_up G1.out⟩
theorem do_out_no (w : World) {S : Nat → Prop} {K p : Nat} {m : MachM} {F B C L D : Value} {fs bs : List Value} (h : MachX w S K p m F B C L D fs bs) (hS : NewIn S w) (hi : MInv m) (bo oi : Nat) (d fb fa tb ta rk : Int) (j : Nat) (hj : j < 4) (hO : OpC w bo oi ⟨9, d, fb, fa, tb, ta, ((j : Int) + 1), rk⟩) (hb : ¬ S bo) (hin : (carAt m ((j : Int) + 1)).1 = false) :
    Calls Try.prog 36 #[.pointer (some ⟨p, 0, none⟩), .pointer (some ⟨bo, oi, none⟩)] w fun e w' => e = .returned (.int .i64 9) ∧ Chg S w w' := by
  have o0 := hO.c0
  dsimp only at o0
  have HX := Lib.hid h
  have HI := Lib.hid hi
  have HS := Lib.hid hS
  have HO := Lib.hid hO
  clear h hi hS hO
  go_enter Try.func36, Try.ntmps36
  go_wp2_with fail
  refine (sout_no _ HX.out HI.out bo oi d fb fa tb ta rk j hj HO.out hb hin).mono ?_
  rintro e w1 ⟨rfl, g1⟩
  have G1 := Lib.hid g1
  clear g1
  go_wp2
  go_ret
  exact ⟨rfl, Chg.of_up G1.out⟩
theorem do_inR (w : World) {S : Nat → Prop} {K p : Nat} {m : MachM} {F B C L D : Value} {fs bs : List Value} (h : MachX w S K p m F B C L D fs bs) (hS : NewIn S w) (hi : MInv m) (bo oi : Nat) (fb fa tb ta rk : Int) (j : Nat) (hj : j < 4) (hO : OpC w bo oi ⟨8, 1, fb, fa, tb, ta, ((j : Int) + 1), rk⟩) (hb : ¬ S bo) (hin : (carAt m ((j : Int) + 1)).1 = false) :
    Calls Try.prog 36 #[.pointer (some ⟨p, 0, none⟩), .pointer (some ⟨bo, oi, none⟩)] w fun e w' => e = .returned (.int .i64 0) ∧ Mach w' S K p (execM m ⟨8, 1, fb, fa, tb, ta, ((j : Int) + 1), rk⟩) ∧ Chg S w w' := by
  have o0 := hO.c0
  dsimp only at o0
  have HX := Lib.hid h
  have HI := Lib.hid hi
  have HS := Lib.hid hS
  have HO := Lib.hid hO
  clear h hi hS hO
  go_enter Try.func36, Try.ntmps36
  go_wp2_with fail
  refine (sinR _ HX.out HI.out bo oi fb fa tb ta rk j hj HO.out hb hin).mono ?_
  rintro e w1 ⟨rfl, x1, g1⟩
  have X1 := Lib.hid x1
  have G1 := Lib.hid g1
  clear g1
  go_wp2
  go_ret
  exact ⟨rfl, X1.out, G1.out⟩
theorem do_inL (w : World) {S : Nat → Prop} {K p : Nat} {m : MachM} {F B C L D : Value} {fs bs : List Value} (h : MachX w S K p m F B C L D fs bs) (hS : NewIn S w) (hi : MInv m) (bo oi : Nat) (fb fa tb ta rk : Int) (j : Nat) (hj : j < 4) (hO : OpC w bo oi ⟨8, (-1), fb, fa, tb, ta, ((j : Int) + 1), rk⟩) (hb : ¬ S bo) (hin : (carAt m ((j : Int) + 1)).1 = false) :
    Calls Try.prog 36 #[.pointer (some ⟨p, 0, none⟩), .pointer (some ⟨bo, oi, none⟩)] w fun e w' => e = .returned (.int .i64 0) ∧ Mach w' S K p (execM m ⟨8, (-1), fb, fa, tb, ta, ((j : Int) + 1), rk⟩) ∧ Chg S w w' := by
  have o0 := hO.c0
  dsimp only at o0
  have HX := Lib.hid h
  have HI := Lib.hid hi
  have HS := Lib.hid hS
  have HO := Lib.hid hO
  clear h hi hS hO
  go_enter Try.func36, Try.ntmps36
  go_wp2_with fail
  refine (sinL _ HX.out HI.out bo oi fb fa tb ta rk j hj HO.out hb hin).mono ?_
  rintro e w1 ⟨rfl, x1, g1⟩
  have X1 := Lib.hid x1
  have G1 := Lib.hid g1
  clear g1
  go_wp2
  go_ret
  exact ⟨rfl, X1.out, G1.out⟩
theorem do_out (w : World) {S : Nat → Prop} {K p : Nat} {m : MachM} {F B C L D : Value} {fs bs : List Value} (h : MachX w S K p m F B C L D fs bs) (hS : NewIn S w) (hi : MInv m) (bo oi : Nat) (d fb fa tb ta rk : Int) (j : Nat) (hj : j < 4) (hO : OpC w bo oi ⟨9, d, fb, fa, tb, ta, ((j : Int) + 1), rk⟩) (hb : ¬ S bo) (hin : (carAt m ((j : Int) + 1)).1 = true) :
    Calls Try.prog 36 #[.pointer (some ⟨p, 0, none⟩), .pointer (some ⟨bo, oi, none⟩)] w fun e w' => e = .returned (.int .i64 0) ∧ Mach w' S K p (execM m ⟨9, d, fb, fa, tb, ta, ((j : Int) + 1), rk⟩) ∧ Chg S w w' := by
  have o0 := hO.c0
  dsimp only at o0
  have HX := Lib.hid h
  have HI := Lib.hid hi
  have HS := Lib.hid hS
  have HO := Lib.hid hO
  clear h hi hS hO
  go_enter Try.func36, Try.ntmps36
  go_wp2_with fail
  refine (sout _ HX.out HI.out bo oi d fb fa tb ta rk j hj HO.out hb hin).mono ?_
  rintro e w1 ⟨rfl, x1, g1⟩
  have X1 := Lib.hid x1
  have G1 := Lib.hid g1
  clear g1
  go_wp2
  go_ret
  exact ⟨rfl, X1.out, G1.out⟩
end Go.Proofs.Ytplabnjdhkmmkaa
end
section
set_option linter.unusedSimpArgs false
set_option linter.unusedVariables false
set_option maxRecDepth 100000
set_option maxHeartbeats 8000000
namespace Go.Proofs.Ytplabnjdhkmmkaa
open Go.ChangeShapes Go.WideShapes Go.ChangeAt Go.RowKit
attribute [local go_sem ↓] Go.wp_at_zero Go.wp_at_succ
theorem do_drop0 (w : World) {S : Nat → Prop} {K p : Nat} {m : MachM} {F B C L D : Value} {fs bs : List Value} (h : MachX w S K p m F B C L D fs bs) (hS : NewIn S w) (hi : MInv m) (bo oi : Nat) (d fb fa tb ta car rk : Int) (hO : OpC w bo oi ⟨6, d, fb, fa, tb, ta, car, rk⟩) (hb : ¬ S bo) (hfb : fb = 1 ∨ fb = 2) (hfa : 0 ≤ fa ∧ fa ≤ 23) (hfw : fa < m.wd) (hq : (onM m fb fa).length = 0) :
    Calls Try.prog 36 #[.pointer (some ⟨p, 0, none⟩), .pointer (some ⟨bo, oi, none⟩)] w fun e w' => e = .returned (.int .i64 7) ∧ Chg S w w' := by
  have hnf : okN m fb fa := ⟨hfb, hfa.1, hfw⟩
  obtain ⟨g1, u1, hH1, hV1⟩ := h.hold hi (b := fb) (a := fa) hnf
  have V1 : Hid (AtN F B fs bs fb fa g1 u1) := Lib.hid hV1
  clear hV1
  obtain ⟨A1, c1, rfl, hl1, hc1, -⟩ := hH1.own.ints.shape
  obtain ⟨l1, HL1⟩ : ∃ l1 : List Int, Hid (l1 = onM m fb fa) := ⟨_, rfl⟩
  have hb1 := (hi.on_ fb fa).1
  rw [← HL1.out] at hH1 V1 hl1 hb1 hq
  have H1 := Lib.hid hH1
  clear hH1
  have o0 := hO.c0
  have o2 := hO.c2
  have o3 : w.cell? ⟨bo, oi + 2 + 1, none⟩ = _ := hO.c3
  dsimp only at o0 o2 o3
  have HX := Lib.hid h
  have HI := Lib.hid hi
  have HS := Lib.hid hS
  have HO := Lib.hid hO
  clear h hi hS hO
  go_enter Try.func36, Try.ntmps36
  go_wp2_with fail
  refine (l07On_any _ _ _ _ _ _ _ _ H1.out).mono ?_
  rintro e w1 ⟨rfl, g1⟩
  have hh := cc3 g1 o0 o2 o3
  obtain ⟨o0, o2, o3⟩ := hh
  have G1 := Lib.hid g1
  clear g1
  have t1 : ((l1.length : Int) == 0) = true := by simpa using hq
  go_wp2
  go_ret
  exact ⟨rfl, Chg.of_up G1.out⟩
theorem do_drop (w : World) {S : Nat → Prop} {K p : Nat} {m : MachM} {F B C L D : Value} {fs bs : List Value} (h : MachX w S K p m F B C L D fs bs) (hS : NewIn S w) (hi : MInv m) (bo oi : Nat) (d fb fa tb ta car rk : Int) (hO : OpC w bo oi ⟨6, d, fb, fa, tb, ta, car, rk⟩) (hb : ¬ S bo) (hfb : fb = 1 ∨ fb = 2) (hfa : 0 ≤ fa ∧ fa ≤ 23) (hfw : fa < m.wd) (hq : (onM m fb fa).length ≠ 0) (hKK : K ≤ 900000) :
    Calls Try.prog 36 #[.pointer (some ⟨p, 0, none⟩), .pointer (some ⟨bo, oi, none⟩)] w fun e w' => e = .returned (.int .i64 0) ∧ Mach w' S (K + 4) p (setM m fb fa []) ∧ Chg S w w' := by
  have hnf : okN m fb fa := ⟨hfb, hfa.1, hfw⟩
  obtain ⟨g1, u1, hH1, hV1⟩ := h.hold hi (b := fb) (a := fa) hnf
  have V1 : Hid (AtN F B fs bs fb fa g1 u1) := Lib.hid hV1
  clear hV1
  obtain ⟨A1, c1, rfl, hl1, hc1, -⟩ := hH1.own.ints.shape
  obtain ⟨l1, HL1⟩ : ∃ l1 : List Int, Hid (l1 = onM m fb fa) := ⟨_, rfl⟩
  have hb1 := (hi.on_ fb fa).1
  rw [← HL1.out] at hH1 V1 hl1 hb1 hq
  have H1 := Lib.hid hH1
  clear hH1
  have o0 := hO.c0
  have o2 := hO.c2
  have o3 : w.cell? ⟨bo, oi + 2 + 1, none⟩ = _ := hO.c3
  dsimp only at o0 o2 o3
  have HX := Lib.hid h
  have HI := Lib.hid hi
  have HS := Lib.hid hS
  have HO := Lib.hid hO
  clear h hi hS hO
  go_enter Try.func36, Try.ntmps36
  go_wp2_with fail
  refine (l07On_any _ _ _ _ _ _ _ _ H1.out).mono ?_
  rintro e w1 ⟨rfl, g1⟩
  have hh := cc3 g1 o0 o2 o3
  obtain ⟨o0, o2, o3⟩ := hh
  have G1 := Lib.hid g1
  clear g1
  have t1 : ((l1.length : Int) == 0) = false := by simp; exact fun e => hq (by simp [e])
  have X1 := Lib.hid (HX.out.up G1.out)
  have HS1 := Lib.hid (HS.out.up G1.out)
  go_wp2
  go_loopw [6] (fun i wr => ∃ j : Nat, j ≤ l1.length ∧ i = .int .i64 j ∧ Hid (∃ D', MachX wr S (K + j) p m F B C L D' fs bs) ∧ Hid (Chg S w1 wr)) (fun i _ => l1.length - (intOf i).toNat)
  case atStart => exact ⟨0, by omega, rfl, ⟨D, X1.out⟩, Chg.refl _ _⟩
  case round =>
    obtain ⟨j, hj, rfl, hx0, hg⟩ := hrel
    obtain ⟨D2, hx⟩ := hx0.out
    clear hx0
    have hnf : okN m fb fa := ⟨hfb, hfa.1, hfw⟩
    by_cases hlt : j < l1.length
    · obtain ⟨ds, hds, hdK⟩ := hx.d
      obtain ⟨AD, cD, rfl, hlD, hcD, -⟩ := hds.ints.shape
      have hH := at_hold hx HI.out hnf V1.out
      rw [← HL1.out] at hH
      obtain ⟨gb, go, hA1, -, hc⟩ := hH.own.ints.ixm hlt
      have f1 := hc j hlt
      rw [ixm_eq hlt] at f1
      obtain ⟨xx, HXX⟩ : ∃ xx, Hid (l1[j] = xx) := ⟨l1[j], Lib.hid rfl⟩
      have hxi : I64 l1[j] := by obtain ⟨_, _, _, _, _, h4, _⟩ := hH.own.ints; exact h4 _ (List.getElem_mem hlt)
      rw [HXX.out] at f1 hxi
      subst hA1
      clear hc hH
      have HXr := Lib.hid hx
      have HDS := Lib.hid hds
      have HXI := Lib.hid hxi
      clear hx hds hxi
      go_wp2
      refine wp_region_l 77 (Nowhere) 12 [kon (.pointer (some ⟨p, 0, none⟩)), kon (.pointer (some ⟨p, 0, none⟩)), kon (.pointer (some ⟨p, 0, none⟩)), kon (.pointer (some ⟨p, 6, none⟩)), kon (.slice AD ds.length cD), kon (.slice (some ⟨gb, go, none⟩) l1.length c1), kon (.int .i64 j), kon (.pointer (some ⟨gb, go + j, none⟩)), kon (.int .i64 xx), (fun v w' => ∃ os : List Int, OwnI w' wr.heap.size v os ∧ os.length ≤ ds.length + 1), kon (.pointer (some ⟨p, 0, none⟩)), kon (.pointer (some ⟨p, 6, none⟩))] [(0, 49, []), (1, 50, []), (2, 51, [1]), (3, 52, [2]), (4, 53, [3]), (5, 54, []), (6, 55, []), (7, 56, [5, 6]), (8, 57, [7]), (9, 58, [4, 8]), (10, 59, [0, 0, 1, 2, 3, 4, 5, 6, 7, 8, 9]), (11, 60, [10, 0, 1, 2, 3, 4, 5, 6, 7, 8, 9])] (by kernel_rfl) (by kernel_rfl) (by kernel_rfl) rfl ?_ ?_ ?_
      · exact ⟨(keeps_kon _), ⟨(keeps_kon _), ⟨(keeps_kon _), ⟨(keeps_kon _), ⟨(keeps_kon _), ⟨(keeps_kon _), ⟨(keeps_kon _), ⟨(keeps_kon _), ⟨(keeps_kon _), ⟨(fun v w1 w2 ⟨os, h1, h2⟩ k => ⟨os, h1.up k, h2⟩), ⟨(keeps_kon _), ⟨(keeps_kon _), trivial⟩⟩⟩⟩⟩⟩⟩⟩⟩⟩⟩⟩
      · exact allBut_none 0 ⟨(keeps_kon _), ⟨(keeps_kon _), ⟨(keeps_kon _), ⟨(keeps_kon _), ⟨(keeps_kon _), ⟨(keeps_kon _), ⟨(keeps_kon _), ⟨(keeps_kon _), ⟨(keeps_kon _), ⟨(fun v w1 w2 ⟨os, h1, h2⟩ k => ⟨os, h1.up k, h2⟩), ⟨(keeps_kon _), ⟨(keeps_kon _), trivial⟩⟩⟩⟩⟩⟩⟩⟩⟩⟩⟩⟩
      refine ⟨fun w1 hc _ hn => ?_, fun v0 => ?_⟩
      · refine grow_same (v := .pointer (some ⟨p, 0, none⟩)) ?_ ?_
        exact x_move (.tmp 0) rfl rfl
        rfl
      refine ⟨fun w1 hc _ hn => ?_, fun v1 => ?_⟩
      · refine grow_same (v := .pointer (some ⟨p, 0, none⟩)) ?_ ?_
        exact x_move (.tmp 0) rfl rfl
        rfl
      refine ⟨fun w1 hc _ hn => ?_, fun v2 => ?_⟩
      · obtain rfl : (.pointer (some ⟨p, 0, none⟩) : Value) = v1 := Eq.symm hn.1
        refine grow_same (v := .pointer (some ⟨p, 0, none⟩)) ?_ ?_
        exact x_nil (p := ⟨p, 0, none⟩) (.tmp 50) rfl rfl
        rfl
      refine ⟨fun w1 hc _ hn => ?_, fun v3 => ?_⟩
      · obtain rfl : (.pointer (some ⟨p, 0, none⟩) : Value) = v2 := Eq.symm hn.1
        refine grow_same (v := .pointer (some ⟨p, 6, none⟩)) ?_ ?_
        exact x_field (q := .pointer (some ⟨p, 0, none⟩)) 37 (.tmp 51) 6 (by rfl) (by rfl) (by exact fa_m6 _ _)
        rfl
      refine ⟨fun w1 hc _ hn => ?_, fun v4 => ?_⟩
      · obtain rfl : (.pointer (some ⟨p, 6, none⟩) : Value) = v3 := Eq.symm hn.1
        refine grow_same (v := .slice AD ds.length cD) ?_ ?_
        exact x_load (q := .pointer (some ⟨p, 6, none⟩)) 23 (.tmp 52) (by rfl) (by rfl) (by exact ld_ints _ _ _ (hc.cell HXr.out.c6.1 id))
        rfl
      refine ⟨fun w1 hc _ hn => ?_, fun v5 => ?_⟩
      · refine grow_same (v := .slice (some ⟨gb, go, none⟩) l1.length c1) ?_ ?_
        exact x_move (.tmp 5) rfl rfl
        rfl
      refine ⟨fun w1 hc _ hn => ?_, fun v6 => ?_⟩
      · refine grow_same (v := .int .i64 j) ?_ ?_
        exact x_move (.tmp 6) rfl rfl
        rfl
      refine ⟨fun w1 hc _ hn => ?_, fun v7 => ?_⟩
      · obtain rfl : (.slice (some ⟨gb, go, none⟩) l1.length c1 : Value) = v5 := Eq.symm hn.1
        obtain rfl : (.int .i64 j : Value) = v6 := Eq.symm hn.2.1
        refine grow_same (v := .pointer (some ⟨gb, go + j, none⟩)) ?_ ?_
        exact x_ixa 23 (.tmp 54) (.tmp 55) (by rfl) (by rfl) (by rfl) (by exact ixa_int _ _ _ _ _ hlt _)
        rfl
      refine ⟨fun w1 hc _ hn => ?_, fun v8 => ?_⟩
      · obtain rfl : (.pointer (some ⟨gb, go + j, none⟩) : Value) = v7 := Eq.symm hn.1
        refine grow_same (v := .int .i64 xx) ?_ ?_
        exact x_load (q := .pointer (some ⟨gb, go + j, none⟩)) 2 (.tmp 56) (by rfl) (by rfl) (by exact ld_int _ _ _ (hc.cell f1 id))
        rfl
      refine ⟨fun w1 hc _ hn => ?_, fun v9 => ?_⟩
      · obtain rfl : (.slice AD ds.length cD : Value) = v4 := Eq.symm hn.1
        obtain rfl : (.int .i64 xx : Value) = v8 := Eq.symm hn.2.1
        refine grow_call (f := 55) (args := #[.slice AD ds.length cD, .int .i64 xx]) (x_call #[.tmp 53, .tmp 57] #[23, 2] Try.func55 (by rfl) (by rfl) (by rfl) (by rfl) (by simp only [List.map_toArray, List.map_cons, List.map_nil]; rfl)) ?_
        refine (put_any w1 _ _ ds (HDS.out.ints.up hc) (by omega) xx HXI.out).mono ?_
        rintro e w' ⟨v', os, rfl, k1, k2, g1⟩
        exact ⟨_, rfl, rg_up g1, os, OwnI.lowerM k1 hc.size, k2⟩
      refine ⟨fun w1 hc _ hn => ?_, fun v10 => ?_⟩
      · obtain rfl : (.pointer (some ⟨p, 0, none⟩) : Value) = v0 := Eq.symm hn.1
        refine grow_same (v := .pointer (some ⟨p, 0, none⟩)) ?_ ?_
        exact x_nil (p := ⟨p, 0, none⟩) (.tmp 49) rfl rfl
        rfl
      refine ⟨fun w1 hc _ hn => ?_, fun v11 => ?_⟩
      · obtain rfl : (.pointer (some ⟨p, 0, none⟩) : Value) = v10 := Eq.symm hn.1
        refine grow_same (v := .pointer (some ⟨p, 6, none⟩)) ?_ ?_
        exact x_field (q := .pointer (some ⟨p, 0, none⟩)) 37 (.tmp 59) 6 (by rfl) (by rfl) (by exact fa_m6 _ _)
        rfl
      intro wa ka hn7
      obtain ⟨rfl, rfl, ⟨os, fo, fl⟩, rfl, rfl, rfl, rfl, rfl, rfl, rfl, rfl, rfl, -⟩ := hn7
      obtain ⟨A7, c7, rfl, hl7, hc7, -⟩ := fo.ints.shape
      have E1 := ka.cell HXr.out.c6.1 id
      have F1 := (ka.frozen HXr.out.c6.1 id).trans HXr.out.c6.2
      have X7 := Lib.hid ((HXr.out.set_drops (K' := K + (j + 1)) (Chg.of_up ka) (OwnI.lowerM fo (Nat.zero_le _)) (by omega) (fun x hx => .inr (fo.1.lt x hx).1)).mono (T := S) (fun b _ hb => hb.elim id fun h => (HS1.out.up hg.out) b h))
      have G7 := Lib.hid (Chg.trans hg.out (Chg.setCell (S := S) (p := ⟨p, 6, none⟩) (Chg.of_up ka) (.inl HXr.out.sp) (.slice A7 os.length c7)))
      clear fo fl
      go_wp2
      go_roundw
      case rel => exact ⟨j + 1, by omega, by go_num, ⟨_, X7.out⟩, G7.out⟩
      case measure => first | (simp [intOf]; done) | (simp [intOf]; omega)
    · obtain rfl : j = l1.length := by omega
      have o2 := Chg.cell hg.out o2 hb
      have o3 := Chg.cell hg.out o3 hb
      have HXr := Lib.hid hx
      have hH := at_hold hx HI.out hnf V1.out
      have HH := Lib.hid hH
      clear hx hH
      go_wp2_with fail
      refine (l07SetB fb hfb wr _ ((Chg.refl Nowhere wr).alloc _) HXr.out (HS1.out.up hg.out) V1.out HH.out (l' := []) (OwnI.lowerM (OwnI.made wr wr.heap.size (Nat.le_refl _)) (Nat.zero_le _)) (fun x hx => .inr (by simp [Value.ownBlock] at hx; omega))).mono ?_
      rintro e wD ⟨rfl, xD, gD⟩
      have XD := Lib.hid (xD.more (K' := K + 4) (by omega))
      have GD := Lib.hid gD
      clear xD gD
      go_wp2
      go_ret
      exact ⟨rfl, XD.out, Chg.trans (Chg.of_up G1.out) (Chg.trans hg.out GD.out)⟩
/-- codes -/
theorem code_no {m : MachM} {x : OpM} (h : fitsM m x = false) : codeM m x = 9 := by unfold codeM; rw [if_pos h]
theorem code_full {m : MachM} (hi : MInv m) {x : OpM} (h : fitsM m x = true) (hk : x.kind = 1 ∨ x.kind = 2 ∨ x.kind = 5) (hn : 300 ≤ m.nl) : codeM m x = 5 := by
  have h1 : m.nl = 300 := by have := hi.nl; omega
  have h2 : makesB x.kind = true := by unfold makesB; exact decide_eq_true hk
  unfold codeM
  rw [if_neg (by rw [h]; simp), if_pos ⟨h2, h1⟩]
theorem code_rest {m : MachM} {x : OpM} (h : fitsM m x = true) (hn : makesB x.kind = false ∨ m.nl < 300) : codeM m x = if x.kind = 2 ∧ (onM m x.fb x.fa).length = 4 then 5 else if x.kind = 6 then (if (onM m x.fb x.fa).length = 0 then 7 else 0) else if x.kind = 4 ∨ x.kind = 5 then moveC m x else 0 := by
  unfold codeM moveC
  rw [if_neg (by rw [h]; simp), if_neg (by rintro ⟨a, b⟩; rcases hn with hn | hn; (rw [a] at hn; cases hn); omega)]
theorem Mach.more4 {w : World} {S : Nat → Prop} {K p : Nat} {m : MachM} (h : Mach w S K p m) : Mach w S (K + 4) p m := h.more (Nat.le_add_right _ _)
theorem do_any (w : World) {S : Nat → Prop} {K p : Nat} {m : MachM} (h : Mach w S K p m) (hS : NewIn S w) (hi : MInv m) (bo oi : Nat) (x : OpM) (hx : okOp m.wd x) (hO : OpC w bo oi x) (hb : ¬ S bo) (hKK : K ≤ 900000) :
    Calls Try.prog 36 #[.pointer (some ⟨p, 0, none⟩), .pointer (some ⟨bo, oi, none⟩)] w fun e w' => e = .returned (.int .i64 (codeM m x)) ∧ (codeM m x = 0 → Mach w' S (K + 4) p (execM m x)) ∧ Chg S w w' := by
  obtain ⟨F, B, C, L, D, fs, bs, h⟩ := h
  have bad : ∀ c : Int, codeM m x = c → c ≠ 0 → ∀ e w', (e = Ending.returned (.int .i64 c) ∧ Chg S w w') → e = Ending.returned (.int .i64 (codeM m x)) ∧ (codeM m x = 0 → Mach w' S (K + 4) p (execM m x)) ∧ Chg S w w' := fun c hc h0 e w' ⟨a, b⟩ => ⟨hc ▸ a, fun h => absurd (hc ▸ h) h0, b⟩
  have good : codeM m x = 0 → ∀ e w', (e = Ending.returned (.int .i64 0) ∧ Mach w' S K p (execM m x) ∧ Chg S w w') → e = Ending.returned (.int .i64 (codeM m x)) ∧ (codeM m x = 0 → Mach w' S (K + 4) p (execM m x)) ∧ Chg S w w' := fun hc e w' ⟨a, b, c⟩ => ⟨hc.symm ▸ a, fun _ => b.more4, c⟩
  have hv := valid_cases hx.1
  have hfw := hx.2.1
  have htw := hx.2.2
  obtain ⟨k, d, fb, fa, tb, ta, car, rk⟩ := x
  dsimp only at hv hfw htw
  rcases hv with ⟨hk, hd, hn, hc, -, -, -⟩ | ⟨rfl, hn, hn2, hbb, -, -, -⟩ | ⟨rfl, hn, hn2, hbb, hd, hc, -⟩ | ⟨rfl, hn, -⟩ | ⟨rfl, hr, -⟩ | ⟨rfl, hd, hc, -⟩ | ⟨rfl, hc, -⟩
  · have hft := fits_ride (m := m) (x := ⟨k, d, fb, fa, tb, ta, car, rk⟩) (by dsimp only; omega)
    cases hr : rideB m ⟨k, d, fb, fa, tb, ta, car, rk⟩ with
    | false =>
      have h9 := code_no (hft.trans hr)
      rcases hk with rfl | rfl | rfl
      · exact (do_no1 w h hS hi bo oi d fb fa tb ta car rk hO hb hd hc hn.1 hn.2 hfw hr).mono (bad 9 h9 (by decide))
      · exact (do_no2 w h hS hi bo oi d fb fa tb ta car rk hO hb hd hc hn.1 hn.2 hfw hr).mono (bad 9 h9 (by decide))
      · exact (do_miss9 w h hS hi bo oi d fb fa tb ta car rk hO hb hd hc hn.2 hr).mono (bad 9 h9 (by decide))
    | true =>
      rcases hk with rfl | rfl | rfl
      · by_cases hf : 300 ≤ m.nl
        · exact (do_full1 w h hS hi bo oi d fb fa tb ta car rk hO hb hd hc hn.1 hn.2 hfw hr hf).mono (bad 5 (code_full hi (hft.trans hr) (.inl rfl) hf) (by decide))
        · have h0 := code_rest (hft.trans hr) (.inr (by omega))
          simp at h0
          exact (do_knit w h hS hi bo oi d fb fa tb ta car rk hO hb hd hc hn.1 hn.2 hfw hr (by omega)).mono (good h0)
      · by_cases hf : 300 ≤ m.nl
        · exact (do_full2 w h hS hi bo oi d fb fa tb ta car rk hO hb hd hc hn.1 hn.2 hfw hr hf).mono (bad 5 (code_full hi (hft.trans hr) (.inr (.inl rfl)) hf) (by decide))
        · have h0 := code_rest (hft.trans hr) (.inr (by omega))
          have hl := (hi.on_ fb fa).1
          by_cases hq : (onM m fb fa).length = 4
          · simp [hq] at h0
            exact (do_tuckfull w h hS hi bo oi d fb fa tb ta car rk hO hb hd hc hn.1 hn.2 hfw hr (by omega) (by omega)).mono (bad 5 h0 (by decide))
          · simp [hq] at h0
            exact (do_tuck w h hS hi bo oi d fb fa tb ta car rk hO hb hd hc hn.1 hn.2 hfw hr (by omega) (by omega)).mono (good h0)
      · have h0 := code_rest (hft.trans hr) (.inl rfl)
        simp at h0
        exact (do_miss0 w h hS hi bo oi d fb fa tb ta car rk hO hb hd hc hn.2 hr).mono (good h0)
  · have hbt : (fb = 1 ∧ tb = 2) ∨ (fb = 2 ∧ tb = 1) := by omega
    have h0 := code_rest (m := m) (x := ⟨4, d, fb, fa, tb, ta, car, rk⟩) rfl (.inl rfl)
    simp at h0
    exact (do_xfer w h hS hi bo oi d fb fa tb ta car rk hO hb hbt hn.2 hn2.2 hfw htw).mono fun e w' ⟨a, b, c⟩ => ⟨h0 ▸ a, fun h => (b (h0 ▸ h)).more4, c⟩
  · have hbt : (fb = 1 ∧ tb = 2) ∨ (fb = 2 ∧ tb = 1) := by omega
    have hft := fits_ride (m := m) (x := ⟨5, d, fb, fa, tb, ta, car, rk⟩) (by dsimp only; omega)
    cases hr : rideB m ⟨5, d, fb, fa, tb, ta, car, rk⟩ with
    | false => exact (do_no5 w h hS hi bo oi d fb fa tb ta car rk hO hb hd hc hn.1 hn.2 hfw hr).mono (bad 9 (code_no (hft.trans hr)) (by decide))
    | true =>
      by_cases hf : 300 ≤ m.nl
      · exact (do_full5 w h hS hi bo oi d fb fa tb ta car rk hO hb hd hc hn.1 hn.2 hfw hr hf).mono (bad 5 (code_full hi (hft.trans hr) (.inr (.inr rfl)) hf) (by decide))
      · have h0 := code_rest (hft.trans hr) (.inr (by omega))
        simp at h0
        exact (do_split w h hS hi bo oi d fb fa tb ta car rk hO hb hd hc hn.1 hn.2 hfw hbt hn2.2 htw hr (by omega)).mono fun e w' ⟨a, b, c⟩ => ⟨h0 ▸ a, fun h => (b (h0 ▸ h)).more4, c⟩
  · have h0 := code_rest (m := m) (x := ⟨6, d, fb, fa, tb, ta, car, rk⟩) rfl (.inl rfl)
    by_cases hq : (onM m fb fa).length = 0
    · simp only [hq] at h0
      simp at h0
      exact (do_drop0 w h hS hi bo oi d fb fa tb ta car rk hO hb hn.1 hn.2 hfw hq).mono (bad 7 h0 (by decide))
    · simp only [hq] at h0
      simp at h0
      exact (do_drop w h hS hi bo oi d fb fa tb ta car rk hO hb hn.1 hn.2 hfw hq hKK).mono fun e w' ⟨a, b, c⟩ => ⟨h0.symm ▸ a, fun _ => b, c⟩
  · have h0 := code_rest (m := m) (x := ⟨7, d, fb, fa, tb, ta, car, rk⟩) rfl (.inl rfl)
    simp at h0
    exact (do_rack w h hS hi bo oi d fb fa tb ta car rk hO hb).mono (good h0)
  · obtain ⟨j, rfl⟩ : ∃ j : Nat, car = (j : Int) + 1 := ⟨(car - 1).toNat, by omega⟩
    have hj : j < 4 := by omega
    cases hin : (carAt m ((j : Int) + 1)).1 with
    | true =>
      have h9 : codeM m ⟨8, d, fb, fa, tb, ta, (j : Int) + 1, rk⟩ = 9 := code_no (by unfold fitsM; simp [hin])
      exact (do_in_no w h hS hi bo oi d fb fa tb ta rk j hj hO hb hin).mono (bad 9 h9 (by decide))
    | false =>
      have h0 := code_rest (m := m) (x := ⟨8, d, fb, fa, tb, ta, (j : Int) + 1, rk⟩) (by unfold fitsM; simp [hin]) (.inl rfl)
      simp at h0
      rcases hd with rfl | rfl
      · exact (do_inR w h hS hi bo oi fb fa tb ta rk j hj hO hb hin).mono (good h0)
      · exact (do_inL w h hS hi bo oi fb fa tb ta rk j hj hO hb hin).mono (good h0)
  · obtain ⟨j, rfl⟩ : ∃ j : Nat, car = (j : Int) + 1 := ⟨(car - 1).toNat, by omega⟩
    have hj : j < 4 := by omega
    cases hin : (carAt m ((j : Int) + 1)).1 with
    | false =>
      have h9 : codeM m ⟨9, d, fb, fa, tb, ta, (j : Int) + 1, rk⟩ = 9 := code_no (by unfold fitsM; simp [hin])
      exact (do_out_no w h hS hi bo oi d fb fa tb ta rk j hj hO hb hin).mono (bad 9 h9 (by decide))
    | true =>
      have h0 := code_rest (m := m) (x := ⟨9, d, fb, fa, tb, ta, (j : Int) + 1, rk⟩) (by unfold fitsM; simp [hin]) (.inl rfl)
      simp at h0
      exact (do_out w h hS hi bo oi d fb fa tb ta rk j hj hO hb hin).mono (good h0)
end Go.Proofs.Ytplabnjdhkmmkaa
end
section
set_option linter.unusedSimpArgs false
set_option linter.unusedVariables false
namespace Go.Proofs.Ytplabnjdhkmmkaa
open Go.ChangeShapes Go.WideShapes Go.ChangeAt Go.RowKit
attribute [local go_sem ↓] Go.wp_at_zero Go.wp_at_succ
end Go.Proofs.Ytplabnjdhkmmkaa
end
section
set_option linter.unusedSimpArgs false
set_option linter.unusedVariables false
namespace Go.Proofs.Ytplabnjdhkmmkaa
def stM (m : MachM) (ops : List OpM) (i : Nat) : MachM := (ops.take i).foldl execM m
theorem stM_zero (m : MachM) (ops : List OpM) : stM m ops 0 = m := by simp [stM]
theorem stM_cons (m : MachM) (o : OpM) (os : List OpM) (i : Nat) : stM m (o :: os) (i + 1) = stM (execM m o) os i := rfl
theorem stM_succ : ∀ (m : MachM) (ops : List OpM) (i : Nat), i < ops.length → stM m ops (i + 1) = execM (stM m ops i) (ops.getD i opZ)
  | _, [], _, h => by simp at h
  | m, o :: os, 0, _ => by rw [stM_cons, stM_zero, stM_zero]; rfl
  | m, o :: os, i + 1, h => by
    rw [stM_cons, stM_succ (execM m o) os i (by simpa using h), stM_cons]
    rfl
theorem stM_wd : ∀ (m : MachM) (ops : List OpM) (i : Nat), (stM m ops i).wd = m.wd
  | _, [], _ => by simp [stM]
  | _, _ :: _, 0 => by rw [stM_zero]
  | m, o :: os, i + 1 => by rw [stM_cons, stM_wd (execM m o) os i, execM_wd]
/-- the first i operations are carried out -/
def okToM (m : MachM) (ops : List OpM) (i : Nat) : Prop := ∀ j, j < i → codeM (stM m ops j) (ops.getD j opZ) = 0
theorem getD_mem {ops : List OpM} {i : Nat} (h : i < ops.length) : ops.getD i opZ ∈ ops := by
  rw [List.getD_eq_getElem?_getD, List.getElem?_eq_getElem h]
  exact List.getElem_mem h
theorem MInv.st {m : MachM} (h : MInv m) {ops : List OpM} (hok : ∀ x ∈ ops, okOp m.wd x) : ∀ (i : Nat), i ≤ ops.length → okToM m ops i → MInv (stM m ops i)
  | 0, _, _ => by rw [stM_zero]; exact h
  | i + 1, hi, hk => by
    rw [stM_succ m ops i (by omega)]
    exact (h.st hok i (by omega) fun j hj => hk j (by omega)).exec (by rw [stM_wd]; exact hok _ (getD_mem (by omega))) (hk i (by omega))
end Go.Proofs.Ytplabnjdhkmmkaa
end
