/- Racking: the reference's steps, all. No condition. -/
import Derived.Test.YtchfjglofmphfaaRakA
import Derived.Test.YtchfjglofmphfaaRakR
set_option linter.unusedSimpArgs false
set_option linter.unusedVariables false
set_option maxRecDepth 100000
set_option maxHeartbeats 4000000
namespace Go.Proofs.Ytchfjglofmphfaa
open Go.ChangeShapes Go.WideShapes Go.ChangeAt Go.RowKit
theorem Chg.newS {S T : Nat → Prop} {a b c : World} (h : Chg S a b) (k : Chg T b c) (hT : ∀ i, i < a.heap.size → ¬ T i) : Chg S a c :=
  ⟨k.os.trans h.os, k.tape.trans h.tape, k.output.trans h.output, Nat.le_trans h.size k.size, fun i hi hn => (k.block i (Nat.lt_of_lt_of_le hi h.size) (hT i hi)).trans (h.block i hi hn)⟩
theorem l10Do_rack (w : World) (M H L : Nat → Prop) (bm bo : Nat) (p : MacM) (hp : FewM p) (hr : -3 ≤ p.rk ∧ p.rk ≤ 3) (t : Int) (ht : -3 ≤ t ∧ t ≤ 3) (A0 A1 : Option Addr) (c0 c1 : Nat) (q0 : w.cell? ⟨bm, 0, none⟩ = some (.int .i64 p.wd)) (q1 : w.cell? ⟨bm, 1, none⟩ = some (.int .i64 p.rk)) (q2 : w.cell? ⟨bm, 2, none⟩ = some (.slice A0 p.fr.length c0)) (q3 : w.cell? ⟨bm, 3, none⟩ = some (.slice A1 p.bk.length c1)) (h0 : IntSSV w M H L (.slice A0 p.fr.length c0) p.fr) (h1 : IntSSV w M H L (.slice A1 p.bk.length c1) p.bk) (y1 : w.frozen? ⟨bm, 1, none⟩ = false) (hbo : bo ≠ bm) (z0 : w.cell? ⟨bo, 0, none⟩ = some (.int .i64 7)) (z5 : w.cell? ⟨bo, 7, none⟩ = some (.int .i64 t)) (hM : ∀ b, M b ∨ H b ∨ L b → b ≠ bm) :
    Calls Try.prog 49 #[.pointer (some ⟨bm, 0, none⟩), .pointer (some ⟨bo, 0, none⟩)] w fun e w' => ∃ v, e = .returned (.tuple #[v, .int .i64 0]) ∧ Evs w' (New w.heap.size w'.heap.size) v (rackAllM p t) ∧ Chg (fun b => b = bm) w w' := by
  have H0 := Lib.hid h0
  have H1 := Lib.hid h1
  have hbm := World.block_lt_of_cell? w _ q0
  have hbl := World.block_lt_of_cell? w _ z0
  have HMM := Lib.hid hM
  have HBO := Lib.hid hbo
  have Q0 := Lib.hid q0
  have Q1 := Lib.hid q1
  have Q2 := Lib.hid q2
  have Q3 := Lib.hid q3
  have Y1 := Lib.hid y1
  have Z0 := Lib.hid z0
  have Z5 := Lib.hid z5
  have HP := Lib.hid hp
  have HR := Lib.hid hr
  have HT := Lib.hid ht
  obtain ⟨k1, hk1⟩ : ∃ k1, k1 = (t - p.rk).toNat := ⟨_, rfl⟩
  have HK1 := Lib.hid hk1
  clear h0 h1 hM hbo q0 q1 q2 q3 y1 z5 hp hr ht hk1
  go_enter Try.func49, Try.ntmps49
  go_wp2
  go_loopw [6] (fun v wr => ∃ n : Nat, n ≤ k1 ∧ Hid (OwnEvs wr w.heap.size v (racksTo p p.rk 1 n)) ∧ Hid (wr.cell? ⟨bm, 0, none⟩ = some (.int .i64 p.wd)) ∧ Hid (wr.cell? ⟨bm, 1, none⟩ = some (.int .i64 (p.rk + 1 * (n : Int))) ∧ wr.frozen? ⟨bm, 1, none⟩ = false) ∧ Hid (wr.cell? ⟨bm, 2, none⟩ = some (.slice A0 p.fr.length c0) ∧ wr.cell? ⟨bm, 3, none⟩ = some (.slice A1 p.bk.length c1)) ∧ Hid (Chg (fun b => b = bm) w wr)) (fun _ wr => (t - cellInt wr ⟨bm, 1, none⟩).toNat)
  case atStart => exact ⟨0, Nat.zero_le _, Lib.hid (OwnEvs.made w _ (Nat.le_refl _)), Lib.hid (Chg.cell ((Chg.refl Nowhere w).alloc _) Q0.out id), Lib.hid ⟨(Chg.cell ((Chg.refl Nowhere w).alloc _) Q1.out id).trans (by simp), (Chg.frozen ((Chg.refl Nowhere w).alloc _) Q1.out id).trans Y1.out⟩, Lib.hid ⟨Chg.cell ((Chg.refl Nowhere w).alloc _) Q2.out id, Chg.cell ((Chg.refl Nowhere w).alloc _) Q3.out id⟩, Lib.hid ((Chg.refl _ _).alloc _)⟩
  case round =>
    obtain ⟨n, hn, ho, hc0, hc1, hc23, hu⟩ := hrel
    obtain ⟨r, hr0⟩ : ∃ r, r = p.rk + 1 * (n : Int) := ⟨_, rfl⟩
    have HRN := Lib.hid hr0
    obtain ⟨e1, f1⟩ := hc1.out
    rw [← hr0] at e1
    have e0 := hc0.out
    obtain ⟨e2, e3⟩ := hc23.out
    have hr1 := HR.out
    have ht1 := HT.out
    have hkk := HK1.out
    have z0 := Chg.cell hu.out Z0.out (fun h => HBO.out h)
    have z5 := Chg.cell hu.out Z5.out (fun h => HBO.out h)
    by_cases hlt : n < k1
    · have hlt2 : r < t := by omega
      have hrb : -3 ≤ r ∧ r ≤ 3 := by omega
      have HLT := Lib.hid hlt
      have hdd : decide (r < t) = true := decide_eq_true hlt2
      have HRK := Lib.hid (fun W (g : Chg (fun b => b = bm) wr W) (gu : Up wr W) => l10Rack_up W M H L bm p HP.out r hrb A0 A1 c0 c1 (Chg.cell gu e0 id) (Chg.cell gu e1 id) (Chg.cell gu e2 id) (Chg.cell gu e3 id) (H0.out.keep (Chg.trans hu.out g) (fun b h => HMM.out b h)) (H1.out.keep (Chg.trans hu.out g) (fun b h => HMM.out b h)) ((Chg.frozen gu e1 id).trans f1))
      have E0 := Lib.hid e0
      have E1 := Lib.hid e1
      have E2 := Lib.hid e2
      have E3 := Lib.hid e3
      have F1 := Lib.hid f1
      clear hkk hr0 hlt e0 e2 e3
      go_wp2_with fail
      go_quiet (fail)
      go_wp2_with fail
      refine (HRK.out _ (by repeat (first | exact Chg.refl _ _ | apply Chg.drew | apply Chg.drewN | refine Chg.alloc ?_ _)) (by repeat (first | exact Chg.refl _ _ | apply Chg.drew | apply Chg.drewN | refine Chg.alloc ?_ _))).mono ?_
      rintro e w' ⟨v3, w3, rfl, k3, g3, rfl⟩
      have U3 := Lib.hid (show Up wr w3 from Chg.trans (by repeat (first | exact Chg.refl _ _ | apply Chg.drew | apply Chg.drewN | refine Chg.alloc ?_ _)) g3)
      have hzr := hu.out.size
      have hz3 := U3.out.size
      have CB := Lib.hid (show Chg (fun b => b = bm) w3 (w3.setCell ⟨bm, 1, none⟩ (.int .i64 (r + 1))) from (Chg.refl _ _).setCell (.inl (show bm = bm from rfl)) _)
      have K4 := Lib.hid (k3.keep CB.out (fun b _ hS h => by have h1 : wr.heap.size ≤ b := (by simpa using hS.1); have h2 : b = bm := h; omega))
      have O4 := Lib.hid ((ho.out.up U3.out).kept CB.out (fun g hg h => by have h1 := (ho.out.lt hg).1; have h2 : g = bm := h; omega))
      obtain ⟨A9, c9, rfl, -⟩ := k3.shape
      clear k3 g3
      have X0 : Hid ((w3.setCell ⟨bm, 1, none⟩ (.int .i64 (r + 1))).cell? ⟨bm, 0, none⟩ = _) := Lib.hid ((World.cell?_setCell_other _ _ _ _ (fun e => by injection e with e1 e2; omega)).trans (Chg.cell U3.out E0.out id))
      have X2 : Hid ((w3.setCell ⟨bm, 1, none⟩ (.int .i64 (r + 1))).cell? ⟨bm, 2, none⟩ = _) := Lib.hid ((World.cell?_setCell_other _ _ _ _ (fun e => by injection e with e1 e2; omega)).trans (Chg.cell U3.out E2.out id))
      have X3 : Hid ((w3.setCell ⟨bm, 1, none⟩ (.int .i64 (r + 1))).cell? ⟨bm, 3, none⟩ = _) := Lib.hid ((World.cell?_setCell_other _ _ _ _ (fun e => by injection e with e1 e2; omega)).trans (Chg.cell U3.out E3.out id))
      have X1 := Lib.hid (World.cell?_setCell_same w3 ⟨bm, 1, none⟩ (.int .i64 (r + 1)) (Chg.cell U3.out E1.out id))
      have XF : Hid ((w3.setCell ⟨bm, 1, none⟩ (.int .i64 (r + 1))).frozen? ⟨bm, 1, none⟩ = false) := Lib.hid (by rw [World.frozen?_setCell]; exact (Chg.frozen U3.out E1.out id).trans F1.out)
      have HZ4 := Lib.hid (show w.heap.size ≤ (w3.setCell ⟨bm, 1, none⟩ (.int .i64 (r + 1))).heap.size by have h := CB.out.size; omega)
      generalize (w3.setCell ⟨bm, 1, none⟩ (.int .i64 (r + 1))) = w4 at CB K4 O4 X0 X1 X2 X3 XF HZ4 ⊢
      have HL := Lib.hid (show (racksTo p p.rk 1 n).length + (oneRack p r 1).length ≤ 1099511627776 by have h1 := racksTo_length HP.out p.rk 1 n; have h2 := oneRack_length HP.out r 1; have h3 := HLT.out; have h4 := HK1.out; omega)
      go_wp2_with (at_builtin; refine wp_appEvs2 rfl _ _ rfl w.heap.size _ (racksTo p p.rk 1 n) rfl O4.out _ _ _ rfl K4.out HL.out HZ4.out ?_; intro v' w' h1 h2 h3 h4; have HO := Lib.hid h1; have HGB := Lib.hid h4; clear h1 h2 h3 h4)
      have y0 := Lib.hid (Chg.cell HGB.out X0.out (fun h => by have h : w.heap.size ≤ bm := h; omega))
      have y1 := Lib.hid (Chg.cell HGB.out X1.out (fun h => by have h : w.heap.size ≤ bm := h; omega))
      have y2 := Lib.hid (Chg.cell HGB.out X2.out (fun h => by have h : w.heap.size ≤ bm := h; omega))
      have y3 := Lib.hid (Chg.cell HGB.out X3.out (fun h => by have h : w.heap.size ≤ bm := h; omega))
      have yf := Lib.hid ((Chg.frozen HGB.out X1.out (fun h => by have h : w.heap.size ≤ bm := h; omega)).trans XF.out)
      go_roundw
      case rel =>
        refine ⟨n + 1, by have := HLT.out; omega, Lib.hid ?_, y0, Lib.hid ⟨?_, yf.out⟩, Lib.hid ⟨y2.out, y3.out⟩, Lib.hid ?_⟩
        · have e : racksTo p p.rk 1 (n + 1) = (racksTo p p.rk 1 n) ++ oneRack p r 1 := by rw [HRN.out]; rfl
          rw [e]
          exact HO.out
        · rw [y1.out, HRN.out]
          congr 2
          have : ((n + 1 : Nat) : Int) = (n : Int) + 1 := by omega
          rw [this]
          omega
        · exact Chg.newS (Chg.trans hu.out (Chg.trans (Chg.of_up U3.out) CB.out)) HGB.out (fun i hi => by omega)
      case measure =>
        have m0 := cellInt_of E1.out
        have m1 := cellInt_of y1.out
        rw [m0, m1]
        have h1 := HRN.out
        have h2 := HLT.out
        have h3 := HK1.out
        omega
    · have hnk : n = k1 := by omega
      have hrt : r = p.rk + (k1 : Int) := by omega
      have hlt2 : ¬ r < t := by omega
      have hdd : decide (r < t) = false := decide_eq_false hlt2
      obtain ⟨k2, hk2⟩ : ∃ k2, k2 = (p.rk + (k1 : Int) - t).toNat := ⟨_, rfl⟩
      have HK2 := Lib.hid hk2
      have HRT := Lib.hid hrt
      rw [hnk] at ho
      have E0 := Lib.hid e0
      have E1 := Lib.hid e1
      have E2 := Lib.hid e2
      have E3 := Lib.hid e3
      have F1 := Lib.hid f1
      clear hkk hr0 hlt e0 e2 e3 hk2 hrt hnk hn HRN
      go_wp2_with fail
      go_quiet (fail)
      go_wp2
      go_loopw [6] (fun v wx => ∃ n : Nat, n ≤ k2 ∧ Hid (OwnEvs wx w.heap.size v (racksTo p p.rk 1 k1 ++ racksTo p (p.rk + (k1 : Int)) (-1) n)) ∧ Hid (wx.cell? ⟨bm, 0, none⟩ = some (.int .i64 p.wd)) ∧ Hid (wx.cell? ⟨bm, 1, none⟩ = some (.int .i64 (p.rk + (k1 : Int) + (-1) * (n : Int))) ∧ wx.frozen? ⟨bm, 1, none⟩ = false) ∧ Hid (wx.cell? ⟨bm, 2, none⟩ = some (.slice A0 p.fr.length c0) ∧ wx.cell? ⟨bm, 3, none⟩ = some (.slice A1 p.bk.length c1)) ∧ Hid (Chg (fun b => b = bm) w wx)) (fun _ wx => (cellInt wx ⟨bm, 1, none⟩ - t).toNat)
      case atStart => exact ⟨0, Nat.zero_le _, Lib.hid (by rw [show racksTo p (p.rk + (k1 : Int)) (-1) 0 = [] from rfl, List.append_nil]; exact ho.out.up (show Up wr _ from (by repeat (first | exact Chg.refl _ _ | apply Chg.drew | apply Chg.drewN | refine Chg.alloc ?_ _)))), Lib.hid (Chg.cell (show Up wr _ from (by repeat (first | exact Chg.refl _ _ | apply Chg.drew | apply Chg.drewN | refine Chg.alloc ?_ _))) E0.out id), Lib.hid ⟨(Chg.cell (show Up wr _ from (by repeat (first | exact Chg.refl _ _ | apply Chg.drew | apply Chg.drewN | refine Chg.alloc ?_ _))) E1.out id).trans (by rw [HRT.out]; simp), (Chg.frozen (show Up wr _ from (by repeat (first | exact Chg.refl _ _ | apply Chg.drew | apply Chg.drewN | refine Chg.alloc ?_ _))) E1.out id).trans F1.out⟩, Lib.hid ⟨Chg.cell (show Up wr _ from (by repeat (first | exact Chg.refl _ _ | apply Chg.drew | apply Chg.drewN | refine Chg.alloc ?_ _))) E2.out id, Chg.cell (show Up wr _ from (by repeat (first | exact Chg.refl _ _ | apply Chg.drew | apply Chg.drewN | refine Chg.alloc ?_ _))) E3.out id⟩, Lib.hid (Chg.trans hu.out (Chg.of_up (show Up wr _ from (by repeat (first | exact Chg.refl _ _ | apply Chg.drew | apply Chg.drewN | refine Chg.alloc ?_ _)))))⟩
      case round =>
        obtain ⟨n, hn, ho, hc0, hc1, hc23, hu⟩ := hrel
        obtain ⟨r, hr0⟩ : ∃ r, r = p.rk + (k1 : Int) + (-1) * (n : Int) := ⟨_, rfl⟩
        have HRN := Lib.hid hr0
        obtain ⟨e1, f1⟩ := hc1.out
        rw [← hr0] at e1
        have e0 := hc0.out
        obtain ⟨e2, e3⟩ := hc23.out
        have hr1 := HR.out
        have ht1 := HT.out
        have hkk := HK1.out
        have z0 := Chg.cell hu.out Z0.out (fun h => HBO.out h)
        have z5 := Chg.cell hu.out Z5.out (fun h => HBO.out h)
        have hk2 := HK2.out
        by_cases hlt : n < k2
        · have hlt2 : t < r := by omega
          have hrb : -3 ≤ r ∧ r ≤ 3 := by omega
          have HLT := Lib.hid hlt
          have hdd : decide (t < r) = true := decide_eq_true hlt2
          have HRK := Lib.hid (fun W (g : Chg (fun b => b = bm) wr W) (gu : Up wr W) => l10Rack_down W M H L bm p HP.out r hrb A0 A1 c0 c1 (Chg.cell gu e0 id) (Chg.cell gu e1 id) (Chg.cell gu e2 id) (Chg.cell gu e3 id) (H0.out.keep (Chg.trans hu.out g) (fun b h => HMM.out b h)) (H1.out.keep (Chg.trans hu.out g) (fun b h => HMM.out b h)) ((Chg.frozen gu e1 id).trans f1))
          have E0 := Lib.hid e0
          have E1 := Lib.hid e1
          have E2 := Lib.hid e2
          have E3 := Lib.hid e3
          have F1 := Lib.hid f1
          clear hkk hr0 hlt e0 e2 e3 hk2
          go_wp2_with fail
          go_quiet (fail)
          go_wp2_with fail
          refine (HRK.out _ (by repeat (first | exact Chg.refl _ _ | apply Chg.drew | apply Chg.drewN | refine Chg.alloc ?_ _)) (by repeat (first | exact Chg.refl _ _ | apply Chg.drew | apply Chg.drewN | refine Chg.alloc ?_ _))).mono ?_
          rintro e w' ⟨v3, w3, rfl, k3, g3, rfl⟩
          have U3 := Lib.hid (show Up wr w3 from Chg.trans (by repeat (first | exact Chg.refl _ _ | apply Chg.drew | apply Chg.drewN | refine Chg.alloc ?_ _)) g3)
          have hzr := hu.out.size
          have hz3 := U3.out.size
          have CB := Lib.hid (show Chg (fun b => b = bm) w3 (w3.setCell ⟨bm, 1, none⟩ (.int .i64 (r + (-1)))) from (Chg.refl _ _).setCell (.inl (show bm = bm from rfl)) _)
          have K4 := Lib.hid (k3.keep CB.out (fun b _ hS h => by have h1 : wr.heap.size ≤ b := (by simpa using hS.1); have h2 : b = bm := h; omega))
          have O4 := Lib.hid ((ho.out.up U3.out).kept CB.out (fun g hg h => by have h1 := (ho.out.lt hg).1; have h2 : g = bm := h; omega))
          obtain ⟨A9, c9, rfl, -⟩ := k3.shape
          clear k3 g3
          have X0 : Hid ((w3.setCell ⟨bm, 1, none⟩ (.int .i64 (r + (-1)))).cell? ⟨bm, 0, none⟩ = _) := Lib.hid ((World.cell?_setCell_other _ _ _ _ (fun e => by injection e with e1 e2; omega)).trans (Chg.cell U3.out E0.out id))
          have X2 : Hid ((w3.setCell ⟨bm, 1, none⟩ (.int .i64 (r + (-1)))).cell? ⟨bm, 2, none⟩ = _) := Lib.hid ((World.cell?_setCell_other _ _ _ _ (fun e => by injection e with e1 e2; omega)).trans (Chg.cell U3.out E2.out id))
          have X3 : Hid ((w3.setCell ⟨bm, 1, none⟩ (.int .i64 (r + (-1)))).cell? ⟨bm, 3, none⟩ = _) := Lib.hid ((World.cell?_setCell_other _ _ _ _ (fun e => by injection e with e1 e2; omega)).trans (Chg.cell U3.out E3.out id))
          have X1 := Lib.hid (World.cell?_setCell_same w3 ⟨bm, 1, none⟩ (.int .i64 (r + (-1))) (Chg.cell U3.out E1.out id))
          have XF : Hid ((w3.setCell ⟨bm, 1, none⟩ (.int .i64 (r + (-1)))).frozen? ⟨bm, 1, none⟩ = false) := Lib.hid (by rw [World.frozen?_setCell]; exact (Chg.frozen U3.out E1.out id).trans F1.out)
          have HZ4 := Lib.hid (show w.heap.size ≤ (w3.setCell ⟨bm, 1, none⟩ (.int .i64 (r + (-1)))).heap.size by have h := CB.out.size; omega)
          generalize (w3.setCell ⟨bm, 1, none⟩ (.int .i64 (r + (-1)))) = w4 at CB K4 O4 X0 X1 X2 X3 XF HZ4 ⊢
          have HL := Lib.hid (show (racksTo p p.rk 1 k1 ++ racksTo p (p.rk + (k1 : Int)) (-1) n).length + (oneRack p r (-1)).length ≤ 1099511627776 by have h1 := racksTo_length HP.out (p.rk + (k1 : Int)) (-1) n; have h0 := racksTo_length HP.out p.rk 1 k1; have h2 := oneRack_length HP.out r (-1); have h3 := HLT.out; have h4 := HK1.out; have h5 := HK2.out; rw [List.length_append]; omega)
          go_wp2_with (at_builtin; refine wp_appEvs2 rfl _ _ rfl w.heap.size _ (racksTo p p.rk 1 k1 ++ racksTo p (p.rk + (k1 : Int)) (-1) n) rfl O4.out _ _ _ rfl K4.out HL.out HZ4.out ?_; intro v' w' h1 h2 h3 h4; have HO := Lib.hid h1; have HGB := Lib.hid h4; clear h1 h2 h3 h4)
          have y0 := Lib.hid (Chg.cell HGB.out X0.out (fun h => by have h : w.heap.size ≤ bm := h; omega))
          have y1 := Lib.hid (Chg.cell HGB.out X1.out (fun h => by have h : w.heap.size ≤ bm := h; omega))
          have y2 := Lib.hid (Chg.cell HGB.out X2.out (fun h => by have h : w.heap.size ≤ bm := h; omega))
          have y3 := Lib.hid (Chg.cell HGB.out X3.out (fun h => by have h : w.heap.size ≤ bm := h; omega))
          have yf := Lib.hid ((Chg.frozen HGB.out X1.out (fun h => by have h : w.heap.size ≤ bm := h; omega)).trans XF.out)
          go_roundw
          case rel =>
            refine ⟨n + 1, by have := HLT.out; omega, Lib.hid ?_, y0, Lib.hid ⟨?_, yf.out⟩, Lib.hid ⟨y2.out, y3.out⟩, Lib.hid ?_⟩
            · have e : racksTo p p.rk 1 k1 ++ racksTo p (p.rk + (k1 : Int)) (-1) (n + 1) = (racksTo p p.rk 1 k1 ++ racksTo p (p.rk + (k1 : Int)) (-1) n) ++ oneRack p r (-1) := by rw [HRN.out]; rw [List.append_assoc]; rfl
              rw [e]
              exact HO.out
            · rw [y1.out, HRN.out]
              congr 2
              have : ((n + 1 : Nat) : Int) = (n : Int) + 1 := by omega
              rw [this]
              omega
            · exact Chg.newS (Chg.trans hu.out (Chg.trans (Chg.of_up U3.out) CB.out)) HGB.out (fun i hi => by omega)
          case measure =>
            have m0 := cellInt_of E1.out
            have m1 := cellInt_of y1.out
            rw [m0, m1]
            have h1 := HRN.out
            have h2 := HLT.out
            have h3 := HK1.out
            have h4 := HK2.out
            omega
        · have hnk : n = k2 := by omega
          have hlt2 : ¬ t < r := by omega
          have hdd : decide (t < r) = false := decide_eq_false hlt2
          have HFIN := Lib.hid (show racksTo p p.rk 1 k1 ++ racksTo p (p.rk + (k1 : Int)) (-1) k2 = rackAllM p t by
            unfold rackAllM
            by_cases hs : p.rk ≤ t
            · rw [if_pos hs, ← hkk, show k2 = 0 by omega]
              exact List.append_nil _
            · rw [if_neg hs, show k1 = 0 by omega, show (p.rk - t).toNat = k2 by omega, show p.rk + ((0 : Nat) : Int) = p.rk by omega]
              rfl)
          rw [hnk] at ho
          clear hkk hr0 hlt e0 e2 e3 hk2 hnk hn HRN
          go_wp2_with fail
          go_quiet (fail)
          go_wp2
          go_ret2
          exact ⟨_, rfl, by rw [← HFIN.out]; exact ho.out.rd.up (by repeat (first | exact Chg.refl _ _ | apply Chg.drew | apply Chg.drewN | refine Chg.alloc ?_ _)), Chg.trans hu.out (Chg.of_up (by repeat (first | exact Chg.refl _ _ | apply Chg.drew | apply Chg.drewN | refine Chg.alloc ?_ _)))⟩
end Go.Proofs.Ytchfjglofmphfaa
