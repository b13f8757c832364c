/- A drawn colour chart. No condition. A colour chart out of bytes. No condition. The stitches of a carrier in a row. No condition. The stitches of a colour chart, counted. No condition. allStacks: the stacks behind each row of a chart. No condition. l15Stacks: the stacks behind each row of a chart. No condition. ValidChart, layoutWidth, LayoutWidth, on both sides. No condition. The laws' helpers on charts: sizes. No condition. -/
import Derived.Test.YtgdcffbakjfacaaDoorFC14
import Derived.Test.YtgdcffbakjfacaaDoorFC15
import Derived.Deep.DeepCutAuto
import Derived.Deep.CutRange
import Derived.Test.YtgdcffbakjfacaaDoorFC13
import Derived.Test.YtgdcffbakjfacaaDoorFC11
import Derived.Test.YtgdcffbakjfacaaDoorFC12
import Derived.Test.YtgdcffbakjfacaaDoorFC6
section
set_option linter.unusedSimpArgs false
set_option linter.unusedVariables false
set_option maxRecDepth 100000
set_option maxHeartbeats 4000000
namespace Go.Proofs.YtgdcffbakjfacaaDoor
open Go.ChangeShapes Go.WideShapes Go.ChangeAt Go.RowKit
theorem Chg.newSD {S T : Nat → Prop} {a b c : World} (h : Chg S a b) (k : Chg T b c) (hT : ∀ i, i < a.heap.size → ¬ T i) : Chg S a c :=
  ⟨k.os.trans h.os, k.tape.trans h.tape, k.output.trans h.output, Nat.le_trans h.size k.size, fun i hi hn => (k.block i (Nat.lt_of_lt_of_le hi h.size) (hT i hi)).trans (h.block i hi hn)⟩
/-- the drawn chart under construction -/
structure DrSt (wf w : World) (b bx : Nat) (A : Option Addr) (cp : Nat) (bs : List Nat) (t : Nat) (n : Nat) (rs : List (List Int)) (v : Value) : Prop where
  c0 : CellF w ⟨bx, 0, none⟩ (.int .i64 (n : Int))
  c1 : CellF w ⟨bx, 1, none⟩ v
  lr : LRow w wf.heap.size v rs
  sc : ∃ sd, SrcAt w b A cp bs t sd
  ch : Chg (fun k => k = b ∨ k = bx) wf w
  ok : ∀ r ∈ rs, r.length = n ∧ ∀ x ∈ r, 1 ≤ x ∧ x ≤ 4
theorem DrSt.up {wf w w' : World} {b bx : Nat} {A : Option Addr} {cp : Nat} {bs : List Nat} {t n : Nat} {rs : List (List Int)} {v : Value} (h : DrSt wf w b bx A cp bs t n rs v) (u : Up w w') : DrSt wf w' b bx A cp bs t n rs v :=
  ⟨CellF.up u h.c0, CellF.up u h.c1, h.lr.up u, let ⟨sd, k⟩ := h.sc; ⟨sd, k.up u⟩, Chg.trans h.ch (Chg.of_up u), h.ok⟩
theorem drw_ch {a c d : World} {b bx : Nat} (h : Chg (fun k => k = b) a c) (k : Chg (fun k => k = b ∨ k = bx) c d) (hb : a.heap.size < bx) : Chg (fun k => k = b) a d :=
  ⟨k.os.trans h.os, k.tape.trans h.tape, k.output.trans h.output, Nat.le_trans h.size k.size, fun i hi hn => (k.block i (Nat.lt_of_lt_of_le hi h.size) (fun e => by rcases e with e | e; exact hn e; omega)).trans (h.block i hi hn)⟩
def xsC : List Int := [1, 2, 2, 2, 3, 4]
theorem listC (w : World) : Ints (w.alloc (.cells #[.int .i64 1, .int .i64 2, .int .i64 2, .int .i64 2, .int .i64 3, .int .i64 4] 2)) (fun x => x = w.heap.size) (.slice (some ⟨w.heap.size, 0, none⟩) 6 6) xsC :=
  ⟨_, 6, rfl, by decide, by omega, by intro x hx; simp [xsC] at hx; unfold I64; rcases hx with rfl | rfl | rfl | rfl <;> omega, fun _ => ⟨w.heap.size, 0, rfl, rfl, by simp, fun j hj => by
    have hj : j < 6 := hj
    rw [Nat.zero_add]
    refine ⟨(cell_new w _ _ j).trans ?_, frozen_new _ _ _ _⟩
    match j, hj with
    | 0, _ => rfl
    | 1, _ => rfl
    | 2, _ => rfl
    | 3, _ => rfl
    | 4, _ => rfl
    | 5, _ => rfl⟩, by simp⟩
theorem pickC (x : Nat) : ∃ n : Nat, ixm xsC (x % xsC.length) = (n : Int) ∧ 1 ≤ n ∧ n ≤ 4 := by
  have h : x % xsC.length < 6 := Nat.mod_lt _ (by decide)
  obtain ⟨y, hy⟩ : ∃ y, y = x % xsC.length := ⟨_, rfl⟩
  rw [← hy] at h ⊢
  match y, h with
  | 0, _ => exact ⟨1, rfl, by omega, by omega⟩
  | 1, _ => exact ⟨2, rfl, by omega, by omega⟩
  | 2, _ => exact ⟨2, rfl, by omega, by omega⟩
  | 3, _ => exact ⟨2, rfl, by omega, by omega⟩
  | 4, _ => exact ⟨3, rfl, by omega, by omega⟩
  | 5, _ => exact ⟨4, rfl, by omega, by omega⟩
theorem l19Draw_any (w : World) (b : Nat) (A : Option Addr) (cp : Nat) (bs : List Nat) (t seed : Nat) (h : SrcAt w b A cp bs t seed) (ht : t ≤ 1000) :
    Calls Tryd.prog 11 #[.pointer (some ⟨b, 0, none⟩)] w fun e w' => ∃ (n : Nat) (rs : List (List Int)) (E : Option Addr) (k : Nat), e = .returned (.agg #[.int .i64 (n : Int), .slice E rs.length k]) ∧ IntSSV w' (New w.heap.size w'.heap.size) (New w.heap.size w'.heap.size) (New w.heap.size w'.heap.size) (.slice E rs.length k) rs ∧ rs.length ≤ k ∧ k ≤ 9223372036854775807 ∧ (1 ≤ n ∧ n ≤ 8) ∧ (1 ≤ rs.length ∧ rs.length ≤ 8) ∧ (∀ r ∈ rs, r.length = n ∧ ∀ x ∈ r, 1 ≤ x ∧ x ≤ 4) ∧ Chg (fun k => k = b) w w' := by
  have HS := Lib.hid h
  have HT := Lib.hid ht
  have hbw := h.lt
  clear h
  go_enter Tryd.func11, Tryd.ntmps11
  go_wp2_with fail
  have HGB := Lib.hid (show ∀ x o, w.heap.size ≤ x → 0 < bs.length → A ≠ some ⟨x, o, none⟩ from fun x o hx hp e => by
      obtain ⟨gb, go, hA, -, hc⟩ := HS.out.rd hp
      have := World.block_lt_of_cell? _ _ (hc 0 hp).1
      rw [hA] at e
      injection e with e
      injection e with e1
      simp only [] at this
      omega)
  refine (pickS_any _ b A cp bs t seed 8 (HS.out.up (by repeat (first | exact Chg.refl _ _ | apply Chg.drew | apply Chg.drewN | refine Chg.alloc ?_ _))) (by omega) (by omega) (by omega)).mono ?_
  rintro e w1 ⟨x1, t1, sd1, rfl, hx1, ht1, s1, g1⟩
  have S1 := Lib.hid s1
  have hz1 := g1.size
  simp only [World.size_alloc] at hz1
  obtain ⟨y0, f0⟩ := CellF.keep g1 (show CellF (w.alloc (.cells #[.int .i64 0, .slice none 0 0] 26)) ⟨w.heap.size, 0, none⟩ (.int .i64 0) from cellF_at rfl rfl) (fun e => by have e : w.heap.size = b := e; omega)
  obtain ⟨y1, f1⟩ := CellF.keep g1 (show CellF (w.alloc (.cells #[.int .i64 0, .slice none 0 0] 26)) ⟨w.heap.size, 1, none⟩ (.slice none 0 0) from cellF_at rfl rfl) (fun e => by have e : w.heap.size = b := e; omega)
  have G1 := Lib.hid (show Chg (fun k => k = b) w w1 from Chg.trans (Chg.alloc (Chg.refl _ _) _) g1)
  have HX1 := Lib.hid (show 1 + (x1 : Int) = ((1 + x1 : Nat) : Int) by omega)
  have HXB := Lib.hid hx1
  have wx1 : IntKind.i64.wrap (1 + (x1 : Int)) = ((1 + x1 : Nat) : Int) := by rw [HX1.out]; exact IntWalk.i64_in _ (by omega)
  clear s1 g1
  go_wp2_with fail
  have HL := Lib.hid (show Ints ((w1.alloc (.cells #[.int .i64 (1 + (x1 : Int)), .slice none 0 0] 26)).alloc (.cells #[.int .i64 1, .int .i64 2, .int .i64 2, .int .i64 2, .int .i64 3, .int .i64 4] 2)) (fun x => x = w1.heap.size + 1) (.slice (some ⟨w1.heap.size + 1, 0, none⟩) 6 6) xsC from by have h := listC (w1.alloc (.cells #[.int .i64 (1 + (x1 : Int)), .slice none 0 0] 26)); rw [World.size_alloc] at h; exact h)
  refine (among_any _ b A cp bs t1 sd1 (S1.out.up (((Chg.refl _ _).alloc _).alloc _)) (by omega) (fun x => x = w1.heap.size + 1) _ xsC HL.out (fun x hx => by have hx : x = w1.heap.size + 1 := hx; omega) (by decide) (by decide)).mono ?_
  rintro e w2 ⟨x2, sd2, rfl, -, s2, g2, -⟩
  obtain ⟨cc, hcc, hc1, hc4⟩ := pickC x2
  rw [hcc]
  have S2 := Lib.hid s2
  have hz2 := g2.size
  simp only [World.size_alloc] at hz2
  obtain ⟨u0, v0⟩ := CellF.keep g2 (show CellF ((w1.alloc (.cells #[.int .i64 (1 + (x1 : Int)), .slice none 0 0] 26)).alloc (.cells #[.int .i64 1, .int .i64 2, .int .i64 2, .int .i64 2, .int .i64 3, .int .i64 4] 2)) ⟨w1.heap.size, 0, none⟩ (.int .i64 (1 + (x1 : Int))) from CellF.up ((Chg.refl _ _).alloc _) (cellF_at rfl rfl)) (fun e => by have e : w1.heap.size = b := e; omega)
  obtain ⟨u1, v1⟩ := CellF.keep g2 (show CellF ((w1.alloc (.cells #[.int .i64 (1 + (x1 : Int)), .slice none 0 0] 26)).alloc (.cells #[.int .i64 1, .int .i64 2, .int .i64 2, .int .i64 2, .int .i64 3, .int .i64 4] 2)) ⟨w1.heap.size, 1, none⟩ (.slice none 0 0) from CellF.up ((Chg.refl _ _).alloc _) (cellF_at rfl rfl)) (fun e => by have e : w1.heap.size = b := e; omega)
  have G2 := Lib.hid (show Chg (fun k => k = b) w1 w2 from Chg.trans (Chg.alloc (Chg.alloc (Chg.refl _ _) _) _) g2)
  clear s2 g2 hcc HL
  go_wp2_with fail
  refine (pickS_any _ b A cp bs _ sd2 3 S2.out (by omega) (by omega) (by omega)).mono ?_
  rintro e w3 ⟨x3, t3, sd3, rfl, hx3, ht3, s3, g3⟩
  have S3 := Lib.hid s3
  have hz3 := g3.size
  have G3 := Lib.hid (show Chg (fun k => k = b) w1 w3 from Chg.trans G2.out g3)
  obtain ⟨u0, v0⟩ := CellF.keep g3 ⟨u0, v0⟩ (fun e => by have e : w1.heap.size = b := e; omega)
  obtain ⟨u1, v1⟩ := CellF.keep g3 ⟨u1, v1⟩ (fun e => by have e : w1.heap.size = b := e; omega)
  clear s3 g3
  go_wp2_with fail
  refine (one_any _ b A cp bs t3 sd3 12 S3.out (by omega) (by omega) (by omega)).mono ?_
  rintro e w4 ⟨r4, sd4, rfl, s4, g4⟩
  have S4 := Lib.hid s4
  have hz4 := g4.size
  have G4 := Lib.hid (show Chg (fun k => k = b) w1 w4 from Chg.trans G3.out g4)
  obtain ⟨u0, v0⟩ := CellF.keep g4 ⟨u0, v0⟩ (fun e => by have e : w1.heap.size = b := e; omega)
  obtain ⟨u1, v1⟩ := CellF.keep g4 ⟨u1, v1⟩ (fun e => by have e : w1.heap.size = b := e; omega)
  clear s4 g4
  go_upto_if 19 with fail
  go_cut [5] (fun y wx => wx = w4 ∧ ∃ R : Nat, y = .int .i64 (R : Int) ∧ 1 ≤ R ∧ R ≤ 8)
  case first =>
    cases r4
    · go_wp2_with fail
      go_meet
      exact ⟨rfl, 1 + x3, by simp only [Value.int.injEq, true_and]; omega, by omega, by omega⟩
    · go_wp2_with fail
      go_meet
      exact ⟨rfl, 8, rfl, by omega, by omega⟩
  case rest =>
    obtain ⟨hwc, R, rfl, hR1, hR2⟩ := hcut
    subst hwc
    have HR := Lib.hid (And.intro hR1 hR2)
    obtain ⟨bx, hbx⟩ : ∃ x, x = w1.heap.size := ⟨_, rfl⟩
    obtain ⟨n, hn⟩ : ∃ n : Nat, n = 1 + x1 := ⟨_, rfl⟩
    have HN := Lib.hid (show (1 + (x1 : Int)) = (n : Int) ∧ 1 ≤ n ∧ n ≤ 8 by omega)
    rw [HN.out.1] at u0
    rw [← hbx] at u0 v0 u1 v1 ⊢
    have HBX := Lib.hid (show b < w.heap.size ∧ w.heap.size < bx ∧ bx < wc.heap.size by omega)
    have ST := Lib.hid (show DrSt wc wc b bx A cp bs (t3 + 1) n [] (.slice none 0 0) from ⟨⟨u0, v0⟩, ⟨u1, v1⟩, LRow.nil _ _, ⟨_, S4.out⟩, Chg.refl _ _, fun r hr => by simp at hr⟩)
    have HT4 := Lib.hid (show t3 + 1 ≤ t + 4 by omega)
    have HCC := Lib.hid (And.intro hc1 hc4)
    have HR0 := Lib.hid (show CellF wc ⟨w.heap.size, 0, none⟩ (.int .i64 0) ∧ CellF wc ⟨w.heap.size, 1, none⟩ (.slice none 0 0) from ⟨CellF.keep G4.out ⟨y0, f0⟩ (fun e => by have e : w.heap.size = b := e; omega), CellF.keep G4.out ⟨y1, f1⟩ (fun e => by have e : w.heap.size = b := e; omega)⟩)
    have HW4 := Lib.hid (show Chg (fun k => k = b) w wc from Chg.trans G1.out G4.out)
    clear u0 v0 u1 v1 y0 y1 f0 f1 S1 S2 S3 S4 G1 G2 G3 G4 HX1 HXB wx1 hx1 hx3 hbx hn hz1 hz2 hz3 hz4 hc1 hc4 hR1 hR2
    go_wp2
    go_loopw [5, 6, 7] (fun y _ _ wr => ∃ (m : Nat) (rs : List (List Int)) (v : Value) (t' : Nat), y = .int .i64 (m : Int) ∧ rs.length + m = R ∧ t' ≤ t + 4 + 9 * rs.length ∧ Hid (DrSt wc wr b bx A cp bs t' n rs v)) (fun y _ _ _ => (intOf y).toNat)
    case atStart => exact ⟨R, [], _, t3 + 1, rfl, by simp, by have := HT4.out; simpa using this, ST⟩
    clear ST
    case round =>
      obtain ⟨m, rs, v, t', rfl, hm, ht', hst⟩ := hrel
      have hRR := HR.out
      by_cases hm0 : 0 < m
      rotate_left
      · obtain rfl : m = 0 := by omega
        obtain ⟨Ev, kv, rfl, hk1, hk2, -⟩ := hst.out.lr.val
        have e0 := hst.out.c0.1
        have e1 := hst.out.c1.1
        have HRD := Lib.hid (hst.out.lr.rd (New wc.heap.size wr.heap.size))
        have hsw := hst.out.ch.size
        have HB := HBX.out
        have HCH := Lib.hid hst.out.ch
        obtain ⟨x0, g0⟩ := CellF.keep HCH.out HR0.out.1 (fun e => by have e : w.heap.size = b ∨ w.heap.size = bx := e; omega)
        obtain ⟨x1', g1'⟩ := CellF.keep HCH.out HR0.out.2 (fun e => by have e : w.heap.size = b ∨ w.heap.size = bx := e; omega)
        have HK := Lib.hid (And.intro hk1 hk2)
        have HOK := Lib.hid hst.out.ok
        clear hst hk1 hk2
        have d0 : decide (((0 : Nat) : Int) > 0) = false := rfl
        go_wp2_with fail
        have CZ := Lib.hid (show Chg (fun b => b = w.heap.size) wr ((wr.setCell ⟨w.heap.size, 0, none⟩ (.int .i64 (n : Int))).setCell ⟨w.heap.size, 1, none⟩ (.slice Ev rs.length kv)) from Chg.setCell (Chg.setCell (Chg.refl (fun b => b = w.heap.size) wr) (p := ⟨w.heap.size, 0, none⟩) (.inl (show w.heap.size = w.heap.size from rfl)) _) (p := ⟨w.heap.size, 1, none⟩) (.inl (show w.heap.size = w.heap.size from rfl)) _)
        refine bodyPost_ret (v := .agg #[.int .i64 (n : Int), .slice Ev rs.length kv]) (by simp [results, Tryd.results11, go_sem, x0, x1']) rfl ?_
        exact ⟨n, rs, Ev, kv, rfl, (IntSSV.keep HRD.out CZ.out (fun b hb e => by have e : b = w.heap.size := e; rcases hb with hb | hb | hb <;> (have := hb.1; omega))).mono (fun b hb h => ⟨by have := h.1; omega, hb⟩) (fun b hb h => ⟨by have := h.1; omega, hb⟩) (fun b hb h => ⟨by have := h.1; omega, hb⟩), HK.out.1, HK.out.2, HN.out.2, ⟨by omega, by omega⟩, HOK.out, Chg.newSD (drw_ch HW4.out HCH.out (by omega)) CZ.out (fun i hi e => by have e : i = w.heap.size := e; omega)⟩
      have d0 : decide ((m : Int) > 0) = true := decide_eq_true (by omega)
      obtain ⟨Ev, kv, rfl, -, -, -⟩ := hst.out.lr.val
      have hsw := hst.out.ch.size
      have HB := HBX.out
      have HCH := Lib.hid hst.out.ch
      obtain ⟨sd0, hs0⟩ := hst.out.sc
      have HS0 := Lib.hid hs0
      have HC0 := Lib.hid hst.out.c0
      have HWR := Lib.hid hsw
      clear hs0
      obtain ⟨wk, hwk⟩ : ∃ x, x = wr := ⟨_, rfl⟩
      subst hwk
      go_wp2
      go_loopw [6, 7] (fun q y wx => ∃ (j : Nat) (xs : List Int) (t2 : Nat), y = .int .i64 (j : Int) ∧ j ≤ n ∧ xs.length = j ∧ t2 ≤ t' + j ∧ Hid (∀ x ∈ xs, 1 ≤ x ∧ x ≤ 4) ∧ Hid (OwnI wx wk.heap.size q xs) ∧ Hid (∃ sd, SrcAt wx b A cp bs t2 sd) ∧ Hid (Chg (fun k => k = b) wk wx)) (fun _ y _ => n - (intOf y).toNat)
      case atStart => exact ⟨0, [], t', rfl, by omega, rfl, by omega, Lib.hid (fun x hx => by simp at hx), Lib.hid (OwnI.made wk _ (Nat.le_refl _)), Lib.hid ⟨sd0, HS0.out.up (by repeat (first | exact Chg.refl _ _ | apply Chg.drew | apply Chg.drewN | refine Chg.alloc ?_ _))⟩, Lib.hid (Chg.alloc (Chg.refl _ _) _)⟩
      case round =>
        obtain ⟨j, xs, t2, rfl, hj, hxl, ht2, hx, ho, hs, hg⟩ := hrel
        have e0 := (CellF.keep hg.out HC0.out (fun e => by have e : bx = b := e; omega)).1
        have hnn := HN.out.2
        have hszx := hg.out.size
        by_cases hjn : j < n
        · have d1 : decide ((j : Int) < (n : Int)) = true := decide_eq_true (by omega)
          obtain ⟨sdx, hsx⟩ := hs.out
          have HSX := Lib.hid hsx
          clear hsx
          have hcc := HCC.out
          go_wp2_with (first | (go_at_call 19; refine (pickS_any _ b A cp bs t2 sdx cc HSX.out (by omega) hcc.1 (by omega)).mono ?_; rintro e wp ⟨xv, t3', sd3', rfl, hxv, ht3', s3, g3⟩; have S3 := Lib.hid s3; have G3 := Lib.hid g3; have hzp := g3.size; have HXV := Lib.hid (show (1 : Int) ≤ 1 + (xv : Int) ∧ 1 + (xv : Int) ≤ 4 by omega); have wxv : IntKind.i64.wrap (1 + (xv : Int)) = 1 + (xv : Int) := IntWalk.i64_in _ (by omega); clear s3 g3) | (at_builtin; refine wp_append_int rfl _ _ rfl wk.heap.size _ xs rfl ((ho.out.kept G3.out (fun g hg e => by have h1 := (ho.out.lt hg).1; have e : g = b := e; omega)).alloc _) _ (1 + (xv : Int)) rfl (cell_new _ _ _ _) (by unfold I64; omega) (by omega) ?_ ?_; (simp; omega); intro v1 w1' h1 _ h3; have HO := Lib.hid h1; have HA := Lib.hid h3; clear h1 h3))
          have HGN := Lib.hid (show Chg (fun k => k = b) wk w1' from Chg.newSD (Chg.trans hg.out (Chg.alloc G3.out _)) HA.out (fun i hi e => by have e : wk.heap.size ≤ i := e; omega))
          have HSN := Lib.hid (show ∃ sd, SrcAt w1' b A cp bs t3' sd from ⟨sd3', (S3.out.up ((Chg.refl Nowhere _).alloc _)).keep HA.out (fun e => by have e : wk.heap.size ≤ b := e; omega) (fun hp x _ h o => HGB.out x o (by have h : wk.heap.size ≤ x := h; omega) hp)⟩)
          have HXN := Lib.hid (show ∀ x ∈ xs ++ [1 + (xv : Int)], 1 ≤ x ∧ x ≤ 4 from fun x h9 => by rcases List.mem_append.1 h9 with h9 | h9; exact hx.out x h9; (have : x = 1 + (xv : Int) := by simpa using h9); rw [this]; exact HXV.out)
          go_roundw
          case rel => exact ⟨j + 1, xs ++ [1 + (xv : Int)], t3', by go_num, by omega, by simp [hxl], by omega, HXN, HO, HSN, HGN⟩
          case measure => first | (simp [intOf]; done) | (simp [intOf]; omega)
        · obtain rfl : j = n := by omega
          subst hxl
          have d1 : decide ((xs.length : Int) < (xs.length : Int)) = false := decide_eq_false (by omega)
          obtain ⟨Aq, cq, rfl, hq1, hq2, -⟩ := ho.out.ints.shape
          have HQ := Lib.hid (And.intro hq1 hq2)
          obtain ⟨e1, e1f⟩ := CellF.keep hg.out hst.out.c1 (fun e => by have e : bx = b := e; omega)
          have HLR := Lib.hid (show LRow wr wc.heap.size (.slice Ev rs.length kv) rs from hst.out.lr.kept hg.out (fun b' h1 _ e => by have e : b' = b := e; omega))
          have HNB := Lib.hid (show ∀ g, (Value.slice Ev rs.length kv).ownBlock = some g → wc.heap.size ≤ g ∧ g < wk.heap.size from fun g h => hst.out.lr.lt h)
          have HRI := Lib.hid (show Ints wr (fun b' => wc.heap.size ≤ b' ∧ b' < wr.heap.size ∧ (Value.slice Ev rs.length kv).ownBlock ≠ some b') (.slice Aq xs.length cq) xs from ho.out.ints.mono (fun b' hb h => ⟨by have := h.1; omega, hb, fun e => by have := (HNB.out b' e).2; have := h.1; omega⟩))
          have hrl : rs.length ≤ 8 := by omega
          have HOKR := Lib.hid hst.out.ok
          clear hq1 hq2 hst
          go_wp2_with (at_builtin; refine wp_append_lrow rfl _ _ rfl wc.heap.size _ rs rfl (HLR.out.up ((Chg.refl _ _).alloc _)) wr.heap.size xs Aq cq rfl (cell_new _ _ _ _) ((HRI.out.up ((Chg.refl _ _).alloc _)).mono (fun b' hb h => ⟨h.1, hb, h.2.2⟩)) HQ.out (by omega) (by simp; omega) ?_; intro v' w' h1 h2 h3; obtain ⟨E5, e5, rfl, -⟩ := h1.val; have GG := Lib.hid h1; have GC := Lib.hid h2; have UA := Lib.hid (show Up wr (wr.alloc (.cells #[.slice Aq xs.length cq] 31)) from (Chg.refl _ _).alloc _); obtain ⟨q1, q2⟩ := CellF.keep h2 (CellF.up UA.out ⟨e1, e1f⟩) (fun e => by have := (HNB.out bx e).1; omega); clear h1 h2 h3)
          have hlq : (rs ++ [xs]).length = rs.length + 1 := by simp
          have CB := Lib.hid (show Chg (fun k => k = bx) w' (w'.setCell ⟨bx, 1, none⟩ (.slice E5 (rs ++ [xs]).length e5)) from Chg.setCell (Chg.refl (fun k => k = bx) w') (p := ⟨bx, 1, none⟩) (.inl (show bx = bx from rfl)) _)
          have NW := Lib.hid (show ∀ g, g < wc.heap.size → ¬ (Value.slice Ev rs.length kv).ownBlock = some g from fun g h e => by have := (HNB.out g e).1; omega)
          have HCW := Lib.hid (show Chg (fun k => k = b ∨ k = bx) wc w' from Chg.newSD (Chg.trans (Chg.trans HCH.out (hg.out.mono (fun _ _ e => .inl e))) (Chg.of_up UA.out)) GC.out (fun i hi e => NW.out i hi e))
          have HDN := Lib.hid (show DrSt wc (w'.setCell ⟨bx, 1, none⟩ (.slice E5 (rs ++ [xs]).length e5)) b bx A cp bs t2 xs.length (rs ++ [xs]) (.slice E5 (rs ++ [xs]).length e5) from ⟨CellF.set_ne (CellF.keep GC.out (CellF.up UA.out (CellF.keep hg.out HC0.out (fun e => by have e : bx = b := e; omega))) (NW.out bx (by omega))) (fun e => by injection e with _ e2; omega), CellF.set ⟨q1, q2⟩, GG.out.kept CB.out (fun b' h1 _ e => by have e : b' = bx := e; omega), let ⟨sd, k⟩ := hs.out; ⟨sd, ((k.up UA.out).keep GC.out (NW.out b (by omega)) (fun hp x _ h o => HGB.out x o (by have := (HNB.out x h).1; have := HW4.out.size; omega) hp)).keep CB.out (fun e => by have e : b = bx := e; omega) (fun hp x _ h o => HGB.out x o (by have h : x = bx := h; omega) hp)⟩, Chg.trans HCW.out (CB.out.mono (fun _ _ e => .inr e)), fun r hr => by rcases List.mem_append.1 hr with hr | hr; exact HOKR.out r hr; (have : r = xs := by simpa using hr); rw [this]; exact ⟨rfl, hx.out⟩⟩)
          rw [hlq] at HDN
          go_roundw
          case rel => exact ⟨m - 1, rs ++ [xs], _, t2, by first | go_num | (simp only [Value.int.injEq, true_and]; omega), by rw [hlq]; omega, by rw [hlq]; omega, HDN⟩
          case measure => first | (simp [intOf]; done) | (simp [intOf]; omega)
end Go.Proofs.YtgdcffbakjfacaaDoor
end
section
set_option linter.unusedSimpArgs false
set_option linter.unusedVariables false
set_option maxRecDepth 100000
set_option maxHeartbeats 4000000
namespace Go.Proofs.YtgdcffbakjfacaaDoor
open Go.ChangeShapes Go.WideShapes Go.ChangeAt Go.RowKit
theorem A2Colours_any (w : World) (A : Option Addr) (cp : Nat) (bs : List Nat) (h : Byts w A cp bs) :
    Calls Tryd.prog 5 #[.slice A bs.length cp] w fun e w' => ∃ (n : Nat) (rs : List (List Int)) (E : Option Addr) (k : Nat), e = .returned (.agg #[.int .i64 (n : Int), .slice E rs.length k]) ∧ IntSSV w' (New w.heap.size w'.heap.size) (New w.heap.size w'.heap.size) (New w.heap.size w'.heap.size) (.slice E rs.length k) rs ∧ rs.length ≤ k ∧ k ≤ 9223372036854775807 ∧ (1 ≤ n ∧ n ≤ 8) ∧ (1 ≤ rs.length ∧ rs.length ≤ 8) ∧ (∀ r ∈ rs, r.length = n ∧ ∀ x ∈ r, 1 ≤ x ∧ x ≤ 4) ∧ Up w w' := by
  have HB := Lib.hid h
  clear h
  go_enter Tryd.func5, Tryd.ntmps5
  go_wp2_with fail
  refine (l00From_any _ A cp bs (HB.out.up (by repeat (first | exact Chg.refl _ _ | apply Chg.drew | apply Chg.drewN | refine Chg.alloc ?_ _)))).mono ?_
  rintro e w1 ⟨rfl, s1, g1⟩
  have hz := g1.size
  simp only [World.size_alloc] at s1 hz
  have S1 := Lib.hid s1
  have G1 := Lib.hid (show Up w w1 from Chg.trans (by repeat (first | exact Chg.refl _ _ | apply Chg.drew | apply Chg.drewN | refine Chg.alloc ?_ _)) g1)
  have X0 := Lib.hid (show CellF w1 ⟨w.heap.size, 0, none⟩ (.int .i64 0) from CellF.up g1 (cellF_at rfl rfl))
  have X1 := Lib.hid (show CellF w1 ⟨w.heap.size, 1, none⟩ (.slice none 0 0) from CellF.up g1 (cellF_at rfl rfl))
  clear s1 g1
  go_wp2_with fail
  refine (l19Draw_any _ (w.heap.size + 1) A cp bs 0 0 S1.out (by omega)).mono ?_
  rintro e w2 ⟨n, rs, E, k, rfl, hi, hk1, hk2, hn, hl, hr, g2⟩
  have HI := Lib.hid hi
  have HF := Lib.hid (And.intro hk1 (And.intro hk2 (And.intro hn (And.intro hl hr))))
  have G2 := Lib.hid g2
  obtain ⟨x0, f0⟩ := CellF.keep g2 X0.out (fun e => by have e : w.heap.size = w.heap.size + 1 := e; omega)
  obtain ⟨x1, f1⟩ := CellF.keep g2 X1.out (fun e => by have e : w.heap.size = w.heap.size + 1 := e; omega)
  have hz2 := g2.size
  clear hi hk1 hk2 hn hl hr g2
  have CZ := Lib.hid (show Chg (fun b => b = w.heap.size) w2 ((w2.setCell ⟨w.heap.size, 0, none⟩ (.int .i64 (n : Int))).setCell ⟨w.heap.size, 1, none⟩ (.slice E rs.length k)) from Chg.setCell (Chg.setCell (Chg.refl (fun b => b = w.heap.size) w2) (p := ⟨w.heap.size, 0, none⟩) (.inl (show w.heap.size = w.heap.size from rfl)) _) (p := ⟨w.heap.size, 1, none⟩) (.inl (show w.heap.size = w.heap.size from rfl)) _)
  go_wp2_with fail
  refine bodyPost_ret (v := .agg #[.int .i64 (n : Int), .slice E rs.length k]) (by simp [results, Tryd.results5, go_sem, x0, x1]) rfl ?_
  obtain ⟨k1, k2, k3, k4, k5⟩ := HF.out
  exact ⟨n, rs, E, k, rfl, (IntSSV.keep HI.out CZ.out (fun b hb e => by have e : b = w.heap.size := e; rcases hb with hb | hb | hb <;> (have := hb.1; omega))).mono (fun b hb h => ⟨by have := h.1; omega, hb⟩) (fun b hb h => ⟨by have := h.1; omega, hb⟩) (fun b hb h => ⟨by have := h.1; omega, hb⟩), k1, k2, k3, k4, k5, Chg.new (Chg.new G1.out G2.out (fun i hi e => by have e : i = w.heap.size + 1 := e; omega)) CZ.out (fun i hi e => by have e : i = w.heap.size := e; omega)⟩
end Go.Proofs.YtgdcffbakjfacaaDoor
end
section
set_option linter.unusedSimpArgs false
set_option linter.unusedVariables false
set_option maxRecDepth 100000
set_option maxHeartbeats 4000000
namespace Go.Proofs.YtgdcffbakjfacaaDoor
open Go.ChangeShapes Go.WideShapes Go.ChangeAt Go.RowKit
theorem ints_open {w : World} {S : Nat → Prop} {A : Option Addr} {c n : Nat} {xs : List Int} (hn : n = xs.length) (h : Ints w S (.slice A n c) xs) {i : Nat} (hi : i < xs.length) :
    ∃ b o, A = some ⟨b, o, none⟩ ∧ S b ∧ b < w.heap.size ∧ ∀ j (hj : j < xs.length), w.cell? ⟨b, o + j, none⟩ = some (.int .i64 xs[j]) ∧ w.frozen? ⟨b, o + j, none⟩ = false := by
  subst hn
  obtain ⟨A', c', he, _, _, _, hr, _⟩ := h
  obtain ⟨rfl, rfl⟩ : A = A' ∧ c = c' := by simpa using he
  obtain ⟨b, o, ha, hs, hb, hc⟩ := hr (by omega)
  exact ⟨b, o, ha, hs, hb, hc⟩
theorem Ints.setn {w : World} {S : Nat → Prop} {b o c n : Nat} {xs : List Int} (hn : n = xs.length) (h : Ints w S (.slice (some ⟨b, o, none⟩) n c) xs) {k : Nat} (hk : k < xs.length) {x : Int} (hx : I64 x) : Ints (w.setCell ⟨b, o + k, none⟩ (.int .i64 x)) S (.slice (some ⟨b, o, none⟩) n c) (xs.set k x) := by
  subst hn
  exact Ints.set h hk hx
theorem baseSt_take {row : List Int} {k : Int} {j : Nat} (hj : j < row.length) : baseSt (row.take (j + 1)) k = baseSt (row.take j) k ++ [if row[j] = k then 1 else 7] := by
  unfold baseSt
  rw [List.take_succ_eq_append_getElem hj, List.map_append]
  rfl
theorem baseSt_length (row : List Int) (k : Int) : (baseSt row k).length = row.length := by simp [baseSt]
theorem floL_at {row : List Int} {num k : Int} {t : Nat} (ht : t < (floL row num k).length) : 0 ≤ (floL row num k)[t].fr ∧ (floL row num k)[t].fr < (floL row num k)[t].til ∧ (floL row num k)[t].til < row.length := (floL_ok row num k _ (List.getElem_mem ht)).2.2
end Go.Proofs.YtgdcffbakjfacaaDoor
end
section
set_option linter.unusedSimpArgs false
set_option linter.unusedVariables false
set_option maxRecDepth 100000
set_option maxHeartbeats 4000000
namespace Go.Proofs.YtgdcffbakjfacaaDoor
open Go.ChangeShapes Go.WideShapes Go.ChangeAt Go.RowKit
/-- how many stitches stand in the first t rows -/
def totC (rows : List (List Int)) : Nat → Nat
  | 0 => 0
  | t + 1 => totC rows t + (colAt rows t).length
theorem totC_le {rows : List (List Int)} (h : ∀ i, (colAt rows i).length ≤ 8) : ∀ t, totC rows t ≤ 8 * t
  | 0 => Nat.le_refl _
  | t + 1 => by have := totC_le h t; have := h t; rw [totC]; omega
theorem nnsum : ∀ (xs : List Int), (∀ x ∈ xs, 0 ≤ x) → 0 ≤ xs.sum
  | [], _ => by simp
  | y :: ys, h => by have := nnsum ys (fun x hx => h x (by simp [hx])); have := h y (by simp); rw [List.sum_cons]; omega
theorem sum_nonneg_le : ∀ (xs : List Int), (∀ x ∈ xs, 0 ≤ x) → ∀ x ∈ xs, x ≤ xs.sum
  | [], _, x, hx => by simp at hx
  | y :: ys, h, x, hx => by
    have h1 : 0 ≤ ys.sum := nnsum ys (fun x hx => h x (by simp [hx]))
    have h2 := h y (by simp)
    rw [List.sum_cons]
    rcases List.mem_cons.1 hx with rfl | hx
    · omega
    · have := sum_nonneg_le ys (fun x hx => h x (by simp [hx])) x hx
      omega
theorem CountColours_any (w : World) (S : Nat → Prop) (v : Value) (c : ColM) (h : ColV w S S S v c) (hok : okCol c = true) :
    Calls Tryd.prog 8 #[v] w fun e w' => ∃ (u : Value) (xs : List Int), e = .returned u ∧ Ints w' (New w.heap.size w'.heap.size) u xs ∧ xs.length = 4 ∧ xs.sum = (totC c.rs c.rs.length : Nat) ∧ (∀ x ∈ xs, 0 ≤ x) ∧ Up w w' := by
  have H := Lib.hid h
  obtain ⟨A, kk, rfl, h0, ⟨hlk, hkm⟩, -⟩ := h
  have H0 := Lib.hid h0
  have UB := Lib.hid (show Up w (w.alloc (.cells #[.int .i64 c.n, .slice A c.rs.length kk] 26)) from (Chg.refl Nowhere w).alloc _)
  have Q1 := Lib.hid (show (w.alloc (.cells #[.int .i64 c.n, .slice A c.rs.length kk] 26)).cell? ⟨w.heap.size, 1, none⟩ = some (.slice A c.rs.length kk) from cell_new _ _ _ _)
  clear h0
  obtain ⟨i0, hi, hz0, hz1, hz2⟩ := info_parts info2
  have hmk : ∀ u : World, (Instr.makeSlice 31 (.int .i64 4) (.int .i64 4)).run Tryd.prog u = .ok (.slice (some ⟨u.heap.size, 0, none⟩) 4 4) (u.alloc (.cells (madeCells #[.int .i64 0] 4) 2)) := fun u => by
    have h := run_make (P := Tryd.prog) u 31 2 i0 (.int .i64 0) Tryd.underlying31 hi hz0 .i64 .i64 (4 : Int) (4 : Int) (by omega) (Int.le_refl _) (by rw [hz2]; omega) (by omega)
    simpa [hz1, Value.cells] using h
  clear hi hz0 hz1 hz2
  go_enter Tryd.func8, Tryd.ntmps8
  go_wp2_with fail
  refine (ValidColours_any _ S S S _ c (H.out.up (by repeat (first | exact Chg.refl _ _ | apply Chg.drew | apply Chg.drewN | refine Chg.alloc ?_ _)))).mono ?_
  rintro e w1 ⟨rfl, g1⟩
  have G1 := Lib.hid (show Up w w1 from Chg.trans (by repeat (first | exact Chg.refl _ _ | apply Chg.drew | apply Chg.drewN | refine Chg.alloc ?_ _)) g1)
  have q1 := Chg.cell (show Up (w.alloc (.cells #[.int .i64 c.n, .slice A c.rs.length kk] 26)) (w1.alloc (.cells (madeCells #[.int .i64 0] 4) 2)) from Chg.alloc (Chg.trans (by repeat (first | exact Chg.refl _ _ | apply Chg.drew | apply Chg.drewN | refine Chg.alloc ?_ _)) g1) _) Q1.out id
  clear g1
  go_wp2
  have HOK := Lib.hid hok
  have hcl := txt_rows hok
  clear q1 hlk hkm hok hmk
  obtain ⟨w2, hw2⟩ : ∃ x, x = w1.alloc (.cells (madeCells #[.int .i64 0] 4) 2) := ⟨_, rfl⟩
  have U2 := Lib.hid (show Up w w2 by rw [hw2]; exact Chg.alloc G1.out _)
  obtain ⟨bo, hbo⟩ : ∃ b, b = w1.heap.size := ⟨_, rfl⟩
  have HI := Lib.hid (show Ints w2 (fun k => k = bo) (.slice (some ⟨bo, 0, none⟩) 4 4) [0, 0, 0, 0] by rw [hw2, hbo]; exact Ints.zeros w1 _ 4 _ (by omega) rfl)
  have HBO := Lib.hid (show w.heap.size ≤ bo ∧ bo < w2.heap.size by rw [hw2, hbo]; simp only [World.size_alloc]; exact ⟨G1.out.size, by omega⟩)
  rw [← hw2, ← hbo]
  clear hw2 hbo
  have UW := Lib.hid (fun (W : World) (h : Chg (fun k => k = bo) w2 W) => (show Up w W from Chg.new U2.out h (fun i hi e => by have e : i = bo := e; have := HBO.out; omega)))
  have HT := Lib.hid (show ∀ t, totC c.rs t ≤ 8 * t from totC_le (fun i => by
    by_cases hi : i < c.rs.length
    · rw [colAt_eq hi]; exact txt_row HOK.out hi
    · unfold colAt; rw [List.getD_eq_getElem?_getD, List.getElem?_eq_none (by omega)]; simp))
  go_loopw [5, 7, 15] (fun _ _ i wr => ∃ (t : Nat) (xs : List Int), t ≤ c.rs.length ∧ i = .int .i64 (t : Int) ∧ Hid (xs.length = 4 ∧ xs.sum = (totC c.rs t : Nat) ∧ ∀ x ∈ xs, 0 ≤ x) ∧ Hid (Ints wr (fun k => k = bo) (.slice (some ⟨bo, 0, none⟩) 4 4) xs) ∧ Hid (Chg (fun k => k = bo) w2 wr)) (fun _ _ i _ => c.rs.length - (intOf i).toNat)
  case atStart => exact ⟨0, [0, 0, 0, 0], by omega, rfl, Lib.hid ⟨rfl, rfl, fun x hx => by simp at hx; omega⟩, HI, Lib.hid (Chg.refl _ _)⟩
  case round =>
    obtain ⟨t, xs, ht, rfl, hx, hi, hg⟩ := hrel
    by_cases htl : t < c.rs.length
    rotate_left
    · obtain rfl : t = c.rs.length := by omega
      have htd : decide ((c.rs.length : Int) < (c.rs.length : Int)) = false := decide_eq_false (by omega)
      go_wp2
      go_ret
      exact ⟨_, xs, rfl, (hi.out.up (by repeat (first | exact Chg.refl _ _ | apply Chg.drew | apply Chg.drewN | refine Chg.alloc ?_ _))).mono (fun b hb e => by have e : b = bo := e; have := HBO.out; exact ⟨by omega, hb⟩), hx.out.1, hx.out.2.1, hx.out.2.2, Chg.trans (UW.out _ hg.out) (by repeat (first | exact Chg.refl _ _ | apply Chg.drew | apply Chg.drewN | refine Chg.alloc ?_ _))⟩
    obtain ⟨b, o, k1, vs, he, -, -, -, hE, hc⟩ := H0.out.at_ htl
    obtain ⟨rfl, rfl⟩ : A = some ⟨b, o, none⟩ ∧ kk = k1 := by simpa using he
    obtain ⟨A3, k3, rfl, hv, hk3, hk3m⟩ := hE
    have f0 := Chg.cell (UW.out _ hg.out) (hc 0 _ rfl).1 id
    simp only [Nat.mul_one, Nat.add_zero] at f0
    obtain ⟨row, hrow⟩ : ∃ row, row = c.rs[t] := ⟨_, rfl⟩
    have HROW := Lib.hid hrow
    have hr8 := txt_row HOK.out htl
    rw [← hrow] at hv hk3 f0 hr8
    have HV := Lib.hid hv
    have HTR := Lib.hid (show totC c.rs (t + 1) = totC c.rs t + row.length by rw [totC, colAt_eq htl, ← hrow])
    clear hc he hv hrow
    have htd : decide ((t : Int) < (c.rs.length : Int)) = true := decide_eq_true (by omega)
    go_wp2
    clear f0
    go_loopw [7, 21] (fun _ i wx => ∃ (j : Nat) (ys : List Int), j ≤ row.length ∧ i = .int .i64 (j : Int) ∧ Hid (ys.length = 4 ∧ ys.sum = (totC c.rs t + j : Nat) ∧ ∀ x ∈ ys, 0 ≤ x) ∧ Hid (Ints wx (fun k => k = bo) (.slice (some ⟨bo, 0, none⟩) 4 4) ys) ∧ Hid (Chg (fun k => k = bo) w2 wx)) (fun _ i _ => row.length - (intOf i).toNat)
    case atStart => exact ⟨0, xs, by omega, rfl, hx, hi, hg⟩
    case round =>
      obtain ⟨j, ys, hj, rfl, hy, hi2, hg2⟩ := hrel
      by_cases hjl : j < row.length
      rotate_left
      · obtain rfl : j = row.length := by omega
        have htj : decide ((row.length : Int) < (row.length : Int)) = false := decide_eq_false (by omega)
        go_wp2
        go_roundw
        case rel => exact ⟨t + 1, ys, by omega, by go_num, Lib.hid (by rw [HTR.out]; exact hy.out), hi2, hg2⟩
        case measure => first | (simp [intOf]; done) | (simp [intOf]; omega)
      obtain ⟨b2, o2, rfl, -, hc2⟩ := ints_ixf (HV.out.up (UW.out _ hg2.out)) hjl
      have p0 := (hc2 j hjl).1
      rw [ix_eq hjl] at p0
      clear hc2
      have hdg := okCol_dig HOK.out row (by rw [HROW.out]; exact List.getElem_mem htl) row[j] (List.getElem_mem hjl)
      obtain ⟨x, hx⟩ : ∃ x : Nat, ((x : Int) + 1) = row[j] := ⟨(row[j] - 1).toNat, by omega⟩
      rw [← hx] at p0 hdg
      have hx4 : x < 4 := by omega
      have hyl := hy.out.1
      obtain ⟨b9, o9, hb9, -, -, hdc⟩ := ints_open (i := x) (show 4 = ys.length from hyl.symm) hi2.out (by omega)
      obtain ⟨rfl, rfl⟩ : bo = b9 ∧ 0 = o9 := by simpa using hb9
      obtain ⟨n1, n2⟩ := hdc x (by omega)
      rw [Nat.zero_add] at n1 n2
      obtain ⟨y, hyx⟩ : ∃ y, y = ys[x] := ⟨_, rfl⟩
      have hy0 := hy.out.2.2 _ (List.getElem_mem (show x < ys.length by omega))
      have hy1 := sum_nonneg_le ys hy.out.2.2 _ (List.getElem_mem (show x < ys.length by omega))
      rw [hy.out.2.1] at hy1
      have hT := HT.out t
      rw [← hyx] at n1 hy0 hy1
      have HS := Lib.hid (show (ys.set x (y + 1)).length = 4 ∧ (ys.set x (y + 1)).sum = (totC c.rs t + (j + 1) : Nat) ∧ ∀ z ∈ ys.set x (y + 1), 0 ≤ z from ⟨by rw [List.length_set, hyl], by rw [hyx, sum_set_succ ys x (by omega), hy.out.2.1]; omega, fun z hz => by rcases List.mem_or_eq_of_mem_set hz with hz | hz; exact hy.out.2.2 z hz; omega⟩)
      have HN := Lib.hid (show Ints (wr.setCell ⟨bo, x, none⟩ (.int .i64 (y + 1))) (fun k => k = bo) (.slice (some ⟨bo, 0, none⟩) 4 4) (ys.set x (y + 1)) from by have := Ints.setn (o := 0) (show 4 = ys.length from hyl.symm) hi2.out (k := x) (by omega) (x := y + 1) (by unfold I64; omega); rwa [Nat.zero_add] at this)
      have HG := Lib.hid (show Chg (fun k => k = bo) w2 (wr.setCell ⟨bo, x, none⟩ (.int .i64 (y + 1))) from Chg.setCell hg2.out (p := ⟨bo, x, none⟩) (.inl (show bo = bo from rfl)) _)
      have wki : IntKind.i64.wrap (x : Int) = (x : Int) := IntWalk.i64_in _ (by omega)
      have wky : IntKind.i64.wrap (y + 1) = y + 1 := IntWalk.i64_in _ (by omega)
      have hk0 : (0 : Int) ≤ (x : Int) := by omega
      have hk4 : (x : Int) < 4 := by omega
      have htj : decide ((j : Int) < (row.length : Int)) = true := decide_eq_true (by omega)
      clear hx hyx hdc hb9 hyl hy1
      go_wp2
      go_roundw
      case rel => exact ⟨j + 1, ys.set x (y + 1), by omega, by go_num, HS, HN, HG⟩
      case measure => first | (simp [intOf]; done) | (simp [intOf]; omega)
end Go.Proofs.YtgdcffbakjfacaaDoor
end
section
namespace Go.Proofs.YtgdcffbakjfacaaDoor
open Go.ChangeShapes Go.WideShapes Go.ChangeAt Go.RowKit
set_option linter.unusedSimpArgs false
set_option linter.unusedVariables false
set_option maxRecDepth 100000
set_option maxHeartbeats 400000
theorem okR_1 {st : List Int} {r : RowM} (h : rowB r.d r.c r.xs = false) : okR st r = false := by unfold okR; rw [h]; rfl
theorem okR_2 {st : List Int} {r : RowM} (h : ¬ saC st r.xs = 0) : okR st r = false := by unfold okR; rw [decide_eq_false h, Bool.false_and, Bool.and_false]
theorem okR_3 {st : List Int} {r : RowM} (h : rowB r.d r.c r.xs = true) (h2 : saC st r.xs = 0) : okR st r = thinB r.d st r.xs := by unfold okR; rw [h, decide_eq_true h2]; simp
def resL (n : Int) (rs : List RowM) : List (List Int) := if okC n rs rs.length then outC n rs rs.length else []
theorem resL_no {n : Int} {rs : List RowM} (h : okC n rs rs.length = false) : resL n rs = [] := by unfold resL; rw [h]; rfl
theorem resL_yes {n : Int} {rs : List RowM} (h : okC n rs rs.length = true) : resL n rs = outC n rs rs.length := by unfold resL; rw [h]; rfl
theorem allStacks_yes (w : World) (S : Nat → Prop) (A : Option Addr) (k m : Nat) (rs : List RowM) (hr : RowsV w S (.slice A rs.length k) rs) (hlk : rs.length ≤ k) (hkm : k ≤ 9223372036854775807) (hm : 1 ≤ m ∧ m ≤ 8) (hl : 1 ≤ rs.length ∧ rs.length ≤ 8) :
    Calls Tryd.prog 43 #[.agg #[.int .i64 (m : Int), .slice A rs.length k]] w fun e w' => ∃ v', e = .returned (.tuple #[v', .bool (okC m rs rs.length)]) ∧ IntSS w' (New w.heap.size w'.heap.size) v' (resL m rs) ∧ Up w w' := by
  have HR0 := Lib.hid (hr.mono (T := fun b => b < w.heap.size) fun _ h _ => h)
  have U0 := Lib.hid ((Chg.refl Nowhere w).alloc (.cells #[.int .i64 (m : Int), .slice A rs.length k] 36))
  have HW := Lib.hid (fun w => by have := within_any (m : Int) 1 8 w; rw [inB_yes (by omega)] at this; exact this)
  have t1 : decide ((rs.length : Int) < 1) = false := decide_eq_false (by omega)
  have t2 : decide ((8 : Int) < (rs.length : Int)) = false := decide_eq_false (by omega)
  have HM := Lib.hid hm
  have hlit := lit1 (w.alloc (.cells #[.int .i64 (m : Int), .slice A rs.length k] 36)) 1 (by unfold I64; omega) (w.heap.size + 1) (by simp)
  rw [World.size_alloc w] at hlit
  have HLIT := Lib.hid hlit
  clear hr hlit
  go_enter Tryd.func43, Tryd.ntmps43
  go_wp2_with fail
  refine (HW.out _).mono ?_
  rintro e w' ⟨rfl, rfl⟩
  go_wp2_with fail
  with_reducible refine (repeat_any _ _ _ HLIT.out m HM.out).mono ?_
  rintro e w2 ⟨v2, rfl, k2, g2⟩
  obtain ⟨A2, c2, rfl, hl2, hc2, -⟩ := k2.shape
  have K2 := Lib.hid k2
  have U2 := Lib.hid (Chg.trans (U0.out.alloc (.cells #[.int .i64 1] 2)) g2)
  have hz2 : w.heap.size + 1 ≤ w2.heap.size := by have h1 := g2.size; rw [World.size_alloc, World.size_alloc] at h1; omega
  have HZ2 := Lib.hid hz2
  have b1 : w2.cell? ⟨w.heap.size, 1, none⟩ = some (.slice A rs.length k) := Chg.cell (Chg.trans ((Chg.refl Nowhere _).alloc (.cells #[.int .i64 1] 2)) g2) (cell_new _ _ _ _) id
  have b2 := Chg.cell ((Chg.refl Nowhere w2).alloc (.cells #[] 31)) b1 id
  have hk2 := (k2.mono (T := fun _ => True) fun _ _ _ => trivial).up ((Chg.refl _ _).alloc (.cells #[] 31))
  rw [List.length_replicate] at hk2
  have e0 : List.replicate m (1 : Int) = atS m rs 0 := by unfold atS; rw [Int.toNat_natCast]
  rw [e0] at hk2
  have HK2 := Lib.hid hk2
  clear k2 g2 hz2 hk2 e0
  go_wp2
  clear b1 b2
  go_loopw [4, 5, 34] (fun q r i wr => ∃ (j : Nat), j ≤ rs.length ∧ i = .int .i64 j ∧ Hid (Ints wr (fun _ => True) q (atS m rs j)) ∧ Hid (OwnSS wr (w.heap.size + 1) r (outC m rs j)) ∧ Hid (okC m rs j = true) ∧ Hid (Up w wr) ∧ Hid (w.heap.size + 1 ≤ wr.heap.size)) (fun _ _ i _ => rs.length - (intOf i).toNat)
  case atStart =>
    refine ⟨0, by omega, rfl, ?_, OwnSS.made _ _ HZ2.out, rfl, U2.out.alloc _, Lib.hid (by have := HZ2.out; rw [World.size_alloc]; omega)⟩
    exact HK2.out
  case round =>
    obtain ⟨j, hj, rfl, hq, hr, hok, hu, hz⟩ := hrel
    by_cases hlt : j < rs.length
    · obtain ⟨b, o, rfl, hc⟩ := (HR0.out.up hu.out).at_ hlt
      have hrow := hc j hlt
      obtain ⟨⟨d, cr, ks⟩, HRJ⟩ : ∃ r, Hid (rs[j] = r) := ⟨_, Lib.hid rfl⟩
      obtain ⟨st, HST⟩ : ∃ st, Hid (atS m rs j = st) := ⟨_, Lib.hid rfl⟩
      have HOK : Hid (okC m rs (j + 1) = okR st ⟨d, cr, ks⟩) := Lib.hid (by rw [okC_succ, hok.out, HST.out, rowI_eq hlt, HRJ.out]; rfl)
      have HNX : Hid (atS m rs (j + 1) = saL st ks) := Lib.hid (by unfold atS; rw [HST.out, rowI_eq hlt, HRJ.out])
      have HOU : Hid (outC m rs (j + 1) = outC m rs j ++ [saL st ks]) := Lib.hid (by rw [outC_succ, HST.out, rowI_eq hlt, HRJ.out])
      have HBAD : Hid (okR st ⟨d, cr, ks⟩ = false → okC m rs rs.length = false) := Lib.hid (fun h => okC_false hlt (by rw [HST.out, rowI_eq hlt, HRJ.out]; exact h))
      have HLN := Lib.hid (show (outC m rs j).length ≤ 1099511627 by rw [outC_length]; omega)
      rw [HRJ.out] at hrow
      rw [HST.out] at hq
      obtain ⟨A3, c3, f1, f2, f3, hi3, hl3, hc3⟩ := hrow.open_
      obtain ⟨-, -, -, -, -, -, -, -, hd64, -⟩ := hrow
      have HI3 := Lib.hid hi3
      have HI64 := Lib.hid hd64
      obtain ⟨A4, c4, rfl, hl4, hc4, -⟩ := hq.out.shape
      obtain ⟨A5, c5, rfl, hl5, hc5, -⟩ := hr.out.ss.shape
      have HRV := Lib.hid (show RowV (wr.alloc (.cells #[.int .i64 d, .int .i64 cr, .slice A3 ks.length c3] 40)) _ (.agg #[.int .i64 d, .int .i64 cr, .slice A3 ks.length c3]) ⟨d, cr, ks⟩ from ⟨_, rfl, HI3.out.up ((Chg.refl Nowhere _).alloc _), HI64.out⟩)
      have B0 := Lib.hid (show Bx (wr.alloc (.cells #[.int .i64 d, .int .i64 cr, .slice A3 ks.length c3] 40)) wr.heap.size _ _ _ from box3 wr _ _ _ _)
      have UB := Lib.hid ((Chg.refl Nowhere wr).alloc (.cells #[.int .i64 d, .int .i64 cr, .slice A3 ks.length c3] 40))
      clear hc hd64 hi3
      go_wp2_with fail
      with_reducible refine (ValidRow_any _ _ _ _ HRV.out).mono ?_
      rintro e w3 ⟨rfl, g3⟩
      have G3 := Lib.hid (Chg.trans UB.out g3)
      have B3 := Lib.hid (B0.out.up g3)
      clear g3 f1 f2 f3
      cases hrb : rowB d cr ks with
      | false =>
        have HV := Lib.hid (HBAD.out (okR_1 hrb))
        go_wp2
        go_ret2
        rw [HV.out, resL_no HV.out]
        exact ⟨_, rfl, IntSS.nil _ _ 0 none (by omega), Chg.trans hu.out G3.out⟩
      | true =>
        have HRB := Lib.hid hrb
        obtain ⟨q1, q2, q3⟩ := B3.out
        clear hrb
        go_wp2_with fail
        with_reducible refine (StacksAfter_any _ _ _ _ _ st ks (hq.out.up G3.out) (HI3.out.up G3.out)).mono ?_
        rintro e w4 ⟨v4, rfl, k4, g4⟩
        obtain ⟨A6, c6, rfl, hl6, hc6, -⟩ := k4.shape
        have K4 := Lib.hid k4
        have G4 := Lib.hid (Chg.trans G3.out g4)
        have B4 := Lib.hid (B3.out.up g4)
        have z3 := Lib.hid G3.out.size
        clear k4 g4 q1 q2 q3
        by_cases hs0 : saC st ks = 0
        rotate_left
        · have HV := Lib.hid (HBAD.out (okR_2 (r := ⟨d, cr, ks⟩) hs0))
          have t3 : (saC st ks == 0) = false := by simpa using hs0
          have t4 : (saC st ks != 0) = true := by simpa using hs0
          clear hs0
          go_wp2
          go_ret2
          rw [HV.out, resL_no HV.out]
          exact ⟨_, rfl, IntSS.nil _ _ 0 none (by omega), Chg.trans hu.out G4.out⟩
        have HS0 := Lib.hid hs0
        have t4 : (saC st ks != 0) = false := by simpa using hs0
        have HO3 := Lib.hid (okR_3 (r := ⟨d, cr, ks⟩) HRB.out HS0.out)
        have HFT := Lib.hid (saC_fits hs0).1
        have HDR := Lib.hid (rowB_dir HRB.out).1
        obtain ⟨q1, q2, q3⟩ := B4.out
        clear hs0
        go_wp2_with fail
        with_reducible refine (keepsLimit_any _ _ _ _ d cr A3 c3 st ks (HI3.out.up G4.out) (hq.out.up G4.out) HFT.out HDR.out HI64.out.2).mono ?_
        rintro e w5 ⟨rfl, g5⟩
        have G5 := Lib.hid (Chg.trans G4.out g5)
        have K5 := Lib.hid (K4.out.up g5)
        clear g5 q1 q2 q3
        cases htb : thinB d st ks with
        | false =>
          have HV := Lib.hid (HBAD.out (HO3.out.trans htb))
          clear htb
          go_wp2
          go_ret2
          rw [HV.out, resL_no HV.out]
          exact ⟨_, rfl, IntSS.nil _ _ 0 none (by omega), Chg.trans hu.out G5.out⟩
        | true =>
          have HV := Lib.hid (HOK.out.trans (HO3.out.trans htb))
          clear htb
          have UA := Lib.hid (G5.out.alloc (.cells #[.slice A6 (saL st ks).length c6] 31))
          have KA := Lib.hid ((K5.out.up ((Chg.refl Nowhere _).alloc (.cells #[.slice A6 (saL st ks).length c6] 31))).mono (T := New wr.heap.size (w5.alloc (.cells #[.slice A6 (saL st ks).length c6] 31)).heap.size) (fun b h1 hb => ⟨by have := hb.1; have := z3.out; omega, h1⟩))
          go_wp2_with (first | (at_builtin; refine wp_append_ss2 rfl _ _ rfl (w.heap.size + 1) wr _ (outC m rs j) rfl hr.out UA.out _ _ (saL st ks) rfl (cell_new _ _ _ _) KA.out HLN.out hz.out ?_; intro v9 w9 ho9 hg9; have HO9 := Lib.hid ho9; have HG9 := Lib.hid hg9; clear ho9 hg9))
          go_roundw
          case rel =>
            have hj2 := (KA.out.keep HG9.out (fun b h1 h2 h9 => by have := h2.1; have := h9.2; omega)).mono (T := fun _ => True) (fun _ _ _ => trivial)
            rw [← HOU.out] at HO9
            exact ⟨j + 1, by omega, by go_num, Lib.hid (by rw [HNX.out]; exact hj2), HO9, HV, Lib.hid (Chg.new (Chg.trans hu.out UA.out) HG9.out (fun i hi h => by have h := h.1; omega)), Lib.hid (by have h1 := HG9.out.size; have h2 := UA.out.size; have h3 := hz.out; omega)⟩
          case measure => first | (simp [intOf]; done) | (simp [intOf]; omega)
    · obtain rfl : j = rs.length := by omega
      go_wp2
      go_ret2
      rw [hok.out, resL_yes hok.out]
      refine ⟨_, rfl, (hr.out.ss).mono (fun b hb => ⟨by have := hb.1; omega, hb.2⟩), hu.out⟩
theorem allStacks_any (w : World) (S : Nat → Prop) (v : Value) (c : ChartM) (h : ChartV w S v c) :
    Calls Tryd.prog 43 #[v] w fun e w' => ∃ v', e = .returned (.tuple #[v', .bool (chartB c)]) ∧ IntSS w' (New w.heap.size w'.heap.size) v' (chartL c) ∧ Up w w' := by
  obtain ⟨A, k, rfl, hr, hlk, hkm, hI⟩ := h.shape
  have HR0 := Lib.hid (hr.mono (T := fun b => b < w.heap.size) fun _ h _ => h)
  have HI := Lib.hid hI
  have U0 := Lib.hid ((Chg.refl Nowhere w).alloc (.cells #[.int .i64 c.n, .slice A c.rs.length k] 36))
  have HR := Lib.hid (HR0.out.up U0.out)
  clear h hr hI
  cases h1 : inB c.n 1 8 with
  | false =>
    have HV := Lib.hid (chart_no (c := c) (by unfold sizeB; rw [h1]; rfl))
    have HW := Lib.hid (fun w => by have := within_any c.n 1 8 w; rw [h1] at this; exact this)
    clear h1
    go_enter Tryd.func43, Tryd.ntmps43
    go_wp2_with fail
    refine (HW.out _).mono ?_
    rintro e w' ⟨rfl, rfl⟩
    go_wp2
    go_ret2
    rw [HV.out.1, HV.out.2]
    exact ⟨_, rfl, IntSS.nil _ _ 0 none (by omega), U0.out⟩
  | true =>
    have HW := Lib.hid (fun w => by have := within_any c.n 1 8 w; rw [h1] at this; exact this)
    by_cases h2 : c.rs.length < 1
    · have HV := Lib.hid (chart_no (c := c) (by unfold sizeB inB; rw [decide_eq_false (p := 1 ≤ (c.rs.length : Int) ∧ _) (by omega), Bool.and_false]))
      have t1 : decide ((c.rs.length : Int) < 1) = true := decide_eq_true (by omega)
      clear h1
      go_enter Tryd.func43, Tryd.ntmps43
      go_wp2_with fail
      refine (HW.out _).mono ?_
      rintro e w' ⟨rfl, rfl⟩
      go_wp2
      go_ret2
      rw [HV.out.1, HV.out.2]
      exact ⟨_, rfl, IntSS.nil _ _ 0 none (by omega), U0.out⟩
    by_cases h3 : 8 < c.rs.length
    · have HV := Lib.hid (chart_no (c := c) (by unfold sizeB inB; rw [decide_eq_false (p := 1 ≤ (c.rs.length : Int) ∧ _) (by omega), Bool.and_false]))
      have t1 : decide ((c.rs.length : Int) < 1) = false := decide_eq_false (by omega)
      have t2 : decide ((8 : Int) < (c.rs.length : Int)) = true := decide_eq_true (by omega)
      clear h1
      go_enter Tryd.func43, Tryd.ntmps43
      go_wp2_with fail
      refine (HW.out _).mono ?_
      rintro e w' ⟨rfl, rfl⟩
      go_wp2
      go_ret2
      rw [HV.out.1, HV.out.2]
      exact ⟨_, rfl, IntSS.nil _ _ 0 none (by omega), U0.out⟩
    have HSZ : sizeB c = true := by unfold sizeB; rw [h1]; unfold inB; rw [decide_eq_true (p := 1 ≤ (c.rs.length : Int) ∧ _) (by omega)]; rfl
    have hn : 1 ≤ c.n ∧ c.n ≤ 8 := by unfold inB at h1; exact of_decide_eq_true h1
    have e1 : chartB c = okC c.n c.rs c.rs.length := by unfold chartB; rw [HSZ, Bool.true_and]
    have e2 : chartL c = resL c.n c.rs := by unfold chartL resL; rw [e1]
    rw [e1, e2]
    obtain ⟨m, hm⟩ : ∃ m : Nat, c.n = m := ⟨c.n.toNat, by omega⟩
    rw [hm] at hn ⊢
    exact allStacks_yes w _ A k m c.rs HR0.out hlk hkm (by omega) (by omega)
end Go.Proofs.YtgdcffbakjfacaaDoor
end
section
set_option linter.unusedSimpArgs false
set_option linter.unusedVariables false
set_option maxRecDepth 100000
set_option maxHeartbeats 400000
namespace Go.Proofs.YtgdcffbakjfacaaDoor
open Go.ChangeShapes Go.WideShapes Go.ChangeAt Go.RowKit
theorem saC_le8 {st ks : List Int} (h : saC st ks = 0) : (aftTo st ks ks.length).length ≤ 8 := by
  unfold saC at h
  cases hb : (stkB st && stB ks) with
  | false => rw [hb] at h; simp at h
  | true =>
    by_cases hs : sumF takenK ks = st.length
    · rw [hb, if_pos rfl, if_pos hs] at h
      cases h8 : decide ((aftTo st ks ks.length).length ≤ 8) with
      | true => exact of_decide_eq_true h8
      | false => rw [h8, Bool.and_false] at h; simp at h
    · rw [hb, if_pos rfl, if_neg hs] at h; omega
end Go.Proofs.YtgdcffbakjfacaaDoor
end
section
set_option linter.unusedSimpArgs false
set_option linter.unusedVariables false
set_option maxRecDepth 100000
set_option maxHeartbeats 400000
namespace Go.Proofs.YtgdcffbakjfacaaDoor
open Go.ChangeShapes Go.WideShapes Go.ChangeAt Go.RowKit
theorem ChartV.box {w : World} {S : Nat → Prop} {A : Option Addr} {k : Nat} {c : ChartM} (h : ChartV w S (.agg #[.int .i64 c.n, .slice A c.rs.length k]) c) : ChartAt (w.alloc (.cells #[.int .i64 c.n, .slice A c.rs.length k] 36)) S w.heap.size 0 c := by
  obtain ⟨s, h1, h2, h3⟩ := h
  obtain rfl : .slice A c.rs.length k = s := by simpa using h1
  obtain ⟨A', k', he, h4, h5, _⟩ := h2.shape
  obtain ⟨rfl, rfl⟩ : A = A' ∧ k = k' := by simpa using he
  exact ⟨A, k, cell_new _ _ _ _, cell_new _ _ _ _, h2.up ((Chg.refl _ _).alloc _), h4, h5, h3, by simp⟩
theorem ChartV.up {w w' : World} {S : Nat → Prop} {v : Value} {c : ChartM} (h : ChartV w S v c) (g : Up w w') : ChartV w' S v c :=
  let ⟨s, h1, h2, h3⟩ := h; ⟨s, h1, h2.up g, h3⟩
theorem ValidChart_any (w : World) (S : Nat → Prop) (v : Value) (c : ChartM) (h : ChartV w S v c) :
    Calls Tryd.prog 33 #[v] w fun e w' => e = .returned (.bool (chartB c)) ∧ Up w w' := by
  obtain ⟨A, k, rfl, -⟩ := h.shape
  have U0 := Lib.hid ((Chg.refl Nowhere w).alloc (.cells #[.int .i64 c.n, .slice A c.rs.length k] 36))
  have H := Lib.hid (h.up U0.out)
  clear h
  go_enter Tryd.func33, Tryd.ntmps33
  go_wp2_with fail
  with_reducible refine (allStacks_any _ _ _ c H.out).mono ?_
  rintro e w1 ⟨v1, rfl, k1, g1⟩
  have G1 := Lib.hid (Chg.trans U0.out g1)
  clear k1 g1
  go_wp2
  go_ret
  exact ⟨by simp, G1.out⟩
/-- the widest of the stacks -/
def mxTo (n : Int) (xss : List (List Int)) : Nat → Int
  | 0 => n
  | j + 1 => if mxTo n xss j > ((xss.getD j []).length : Int) then mxTo n xss j else (xss.getD j []).length
theorem saL_len (st ks : List Int) : (saL st ks).length ≤ 8 := by
  by_cases h : saC st ks = 0
  · rw [(saC_fits h).2]; exact saC_le8 h
  · unfold saL; rw [if_neg h]; simp
theorem chartL_len (c : ChartM) : (∀ xs ∈ chartL c, xs.length ≤ 8) ∧ (chartL c).length ≤ c.rs.length := by
  unfold chartL
  split
  · refine ⟨fun xs hx => ?_, by rw [outC_length]; omega⟩
    unfold outC at hx
    obtain ⟨i, _, rfl⟩ := List.mem_map.1 hx
    exact saL_len _ _
  · simp
theorem mxTo_bd {n : Int} {xss : List (List Int)} (hn : 1 ≤ n ∧ n ≤ 8) (hx : ∀ xs ∈ xss, xs.length ≤ 8) : ∀ j, j ≤ xss.length → 1 ≤ mxTo n xss j ∧ mxTo n xss j ≤ 8
  | 0, _ => hn
  | j + 1, h => by
    have ih := mxTo_bd hn hx j (by omega)
    have h8 := hx _ (List.getElem_mem (show j < xss.length by omega))
    have e : xss.getD j [] = xss[j] := by simp [show j < xss.length by omega]
    unfold mxTo
    rw [e]
    split <;> omega
def widM (c : ChartM) : Int := 2 * mxTo c.n (chartL c) (chartL c).length + 1
theorem chart_size {c : ChartM} (h : chartB c = true) : (1 ≤ c.n ∧ c.n ≤ 8) ∧ c.rs.length ≤ 8 := by
  unfold chartB sizeB inB at h
  rw [Bool.and_eq_true, Bool.and_eq_true] at h
  have h1 := of_decide_eq_true h.1.1
  have h2 := of_decide_eq_true h.1.2
  exact ⟨h1, by omega⟩
def widV (c : ChartM) : Int := if chartB c then widM c else 0
def widC (c : ChartM) : Int := if chartB c then 0 else 1
theorem wid_no {c : ChartM} (h : chartB c = false) : widV c = 0 ∧ widC c = 1 := by unfold widV widC; rw [h]; exact ⟨rfl, rfl⟩
theorem wid_yes {c : ChartM} (h : chartB c = true) : widV c = widM c ∧ widC c = 0 := by unfold widV widC; rw [h]; exact ⟨rfl, rfl⟩
end Go.Proofs.YtgdcffbakjfacaaDoor
end
section
set_option linter.unusedSimpArgs false
set_option linter.unusedVariables false
set_option maxRecDepth 100000
set_option maxHeartbeats 400000
namespace Go.Proofs.YtgdcffbakjfacaaDoor
open Go.ChangeShapes Go.WideShapes Go.ChangeAt Go.RowKit
theorem RowAt.val {w : World} {S : Nat → Prop} {b o : Nat} {r : RowM} (h : RowAt w S b o r) : ∃ A c, w.cell? ⟨b, o, none⟩ = some (.int .i64 r.d) ∧ w.cell? ⟨b, o + 1, none⟩ = some (.int .i64 r.c) ∧ w.cell? ⟨b, o + 2, none⟩ = some (.slice A r.xs.length c) ∧ RowV w S (.agg #[.int .i64 r.d, .int .i64 r.c, .slice A r.xs.length c]) r := by
  obtain ⟨A, c, h1, h2, h3, h4, h5, h6, h7, h8⟩ := h
  exact ⟨A, c, h1, h2, h3, _, rfl, h4, h7⟩
/-- the numbers in the first rows -/
def cntR (rs : List RowM) (j : Nat) : Nat := ((rs.take j).map fun r => r.xs.length).sum
theorem cntR_succ {rs : List RowM} {j : Nat} (h : j < rs.length) : cntR rs (j + 1) = cntR rs j + rs[j].xs.length := by
  unfold cntR
  rw [List.take_succ_eq_append_getElem h, List.map_append, List.sum_append]
  rfl
theorem cntR_le {rs : List RowM} {i j : Nat} (h : i ≤ j) : cntR rs i ≤ cntR rs j := by
  unfold cntR
  have e : (rs.take j) = (rs.take j).take i ++ (rs.take j).drop i := (List.take_append_drop i _).symm
  rw [List.take_take, Nat.min_eq_left h] at e
  rw [e]
  simp
def cntRs (rs : List RowM) : Nat := rs.length + cntR rs rs.length
end Go.Proofs.YtgdcffbakjfacaaDoor
end
