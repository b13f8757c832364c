/- Racking: the program's events of all steps. No condition. -/
import Derived.Test.YtchfjglofmphfaaRakF
set_option linter.unusedSimpArgs false
set_option linter.unusedVariables false
set_option maxRecDepth 100000
set_option maxHeartbeats 4000000
namespace Go.Proofs.Ytchfjglofmphfaa
open Go.ChangeShapes Go.WideShapes Go.ChangeAt Go.RowKit
def cellInt (w : World) (a : Addr) : Int := match w.cell? a with
  | some v => intOf v
  | none => 0
theorem cellInt_of {w : World} {a : Addr} {k : IntKind} {n : Int} (h : w.cell? a = some (.int k n)) : cellInt w a = n := by
  unfold cellInt
  rw [h]
  rfl
theorem rackAll_up (w : World) (M H L : Nat → Prop) (bm : Nat) (p : MacM) (hp : FewM p) (hn0 : 1 ≤ p.fr.length) (hr : -3 ≤ p.rk ∧ p.rk ≤ 3) (t : Int) (ht : -3 ≤ t ∧ t ≤ 3) (hs : p.rk ≤ t) (A0 A1 : Option Addr) (c0 c1 : Nat) (A2 A3 A4 : Option Addr) (n2 n3 n4 c2 c3 c4 : Nat) (q0 : w.cell? ⟨bm, 0, none⟩ = some (.int .i64 p.wd)) (q1 : w.cell? ⟨bm, 1, none⟩ = some (.int .i64 p.rk)) (q2 : w.cell? ⟨bm, 2, none⟩ = some (.slice A0 p.fr.length c0)) (q3 : w.cell? ⟨bm, 3, none⟩ = some (.slice A1 p.bk.length c1)) (h0 : IntSSV w M H L (.slice A0 p.fr.length c0) p.fr) (h1 : IntSSV w M H L (.slice A1 p.bk.length c1) p.bk) (q4 : w.cell? ⟨bm, 4, none⟩ = some (.slice A2 n2 c2)) (q5 : w.cell? ⟨bm, 5, none⟩ = some (.slice A3 n3 c3)) (q6 : w.cell? ⟨bm, 6, none⟩ = some (.slice A4 n4 c4)) :
    Calls Try.prog 56 #[.pointer (some ⟨bm, 0, none⟩), .int .i64 t] w fun e w' => ∃ v, e = .returned v ∧ Evs w' (New w.heap.size w'.heap.size) v (racksTo p p.rk 1 (t - p.rk).toNat) ∧ Up w w' := by
  have H0 := Lib.hid h0
  have H1 := Lib.hid h1
  have HP := Lib.hid hp
  have HR := Lib.hid hr
  have HT := Lib.hid ht
  have HS := Lib.hid hs
  have HN0 := Lib.hid hn0
  have HLL := Lib.hid (racksTo_length hp p.rk 1)
  have HOL := Lib.hid (oneRack_length hp)
  obtain ⟨k, hk⟩ : ∃ k, k = (t - p.rk).toNat := ⟨_, rfl⟩
  rw [← hk]
  have HK : Hid (t = p.rk + 1 * (k : Int)) := Lib.hid (by omega)
  have hk6 : k ≤ 6 := by omega
  have HK6 := Lib.hid hk6
  clear hk hk6 hs ht h0 h1 hn0 hp
  have b0 := cell_new w #[.int .i64 p.wd, .int .i64 p.rk, .slice A0 p.fr.length c0, .slice A1 p.bk.length c1, .slice A2 n2 c2, .slice A3 n3 c3, .slice A4 n4 c4] 35
  have bf := frozen_new w #[.int .i64 p.wd, .int .i64 p.rk, .slice A0 p.fr.length c0, .slice A1 p.bk.length c1, .slice A2 n2 c2, .slice A3 n3 c3, .slice A4 n4 c4] 35 1
  have UB := Lib.hid ((Chg.refl Nowhere w).alloc (.cells #[.int .i64 p.wd, .int .i64 p.rk, .slice A0 p.fr.length c0, .slice A1 p.bk.length c1, .slice A2 n2 c2, .slice A3 n3 c3, .slice A4 n4 c4] 35))
  go_enter Try.func56, Try.ntmps56
  go_wp2
  go_loopw [6, 7] (fun v st wr => ∃ n : Nat, n ≤ k ∧ Hid (OwnEvs wr (w.heap.size + 1) v (racksTo p p.rk 1 n)) ∧ Hid (wr.cell? ⟨w.heap.size, 0, none⟩ = some (.int .i64 p.wd)) ∧ Hid (wr.cell? ⟨w.heap.size, 1, none⟩ = some (.int .i64 (p.rk + 1 * (n : Int))) ∧ wr.frozen? ⟨w.heap.size, 1, none⟩ = false) ∧ Hid (wr.cell? ⟨w.heap.size, 2, none⟩ = some (.slice A0 p.fr.length c0) ∧ wr.cell? ⟨w.heap.size, 3, none⟩ = some (.slice A1 p.bk.length c1)) ∧ Hid (Up w wr) ∧ Hid (w.heap.size + 1 ≤ wr.heap.size)) (fun _ _ wr => (t - cellInt wr ⟨w.heap.size, 1, none⟩).toNat)
  case atStart =>
    have hsz : (w.alloc (.cells #[.int .i64 p.wd, .int .i64 p.rk, .slice A0 p.fr.length c0, .slice A1 p.bk.length c1, .slice A2 n2 c2, .slice A3 n3 c3, .slice A4 n4 c4] 35)).heap.size = w.heap.size + 1 := by simp
    have hm := OwnEvs.made (w.alloc (.cells #[.int .i64 p.wd, .int .i64 p.rk, .slice A0 p.fr.length c0, .slice A1 p.bk.length c1, .slice A2 n2 c2, .slice A3 n3 c3, .slice A4 n4 c4] 35)) (w.heap.size + 1) (Nat.le_of_eq hsz.symm)
    rw [hsz] at hm
    refine ⟨0, Nat.zero_le _, hm, Chg.cell ((Chg.refl Nowhere _).alloc _) (b0 0) id, ⟨(Chg.cell ((Chg.refl Nowhere _).alloc _) (b0 1) id).trans (by simp), (Chg.frozen ((Chg.refl Nowhere _).alloc _) (b0 1) id).trans bf⟩, ⟨Chg.cell ((Chg.refl Nowhere _).alloc _) (b0 2) id, Chg.cell ((Chg.refl Nowhere _).alloc _) (b0 3) id⟩, (UB.out.alloc _), Lib.hid (by simp)⟩
  clear b0 bf
  case round =>
    obtain ⟨n, hn, ho, hc0, hc1, hc23, hu, hz⟩ := hrel
    obtain ⟨r, hr0⟩ : ∃ r, r = p.rk + 1 * (n : Int) := ⟨_, rfl⟩
    have HRN := Lib.hid hr0
    obtain ⟨e1, f1⟩ := hc1.out
    rw [← hr0] at e1
    have e0 := hc0.out
    obtain ⟨e2, e3⟩ := hc23.out
    have hk6 := HK6.out
    have hr1 := HR.out
    have ht1 := HT.out
    have hkk := HK.out
    by_cases hlt : n < k
    · have hne : ¬ r = t := by omega
      have hlt2 : ¬ t < r := by omega
      have HRE := Lib.hid (rackEvents_up wr M H L w.heap.size p HP.out HN0.out r (by omega) A0 A1 c0 c1 e0 e1 e2 e3 (H0.out.up hu.out) (H1.out.up hu.out))
      have HLT := Lib.hid hlt
      have hrb : -3 ≤ r ∧ r ≤ 3 := by omega
      have HSZ := Lib.hid (World.block_lt_of_cell? w _ q0)
      clear hkk hr0 hlt
      have hwr : IntKind.i64.wrap (r + 1) = r + 1 := IntWalk.i64_in _ (by omega)
      have hwr2 : wrap64 (r + 1) = r + 1 := IntWalk.wrap64_in _ (by omega)
      go_wp2_with fail
      refine HRE.out.mono ?_
      rintro e w3 ⟨v3, rfl, k3, g3⟩
      have K3 := Lib.hid k3
      have U3 := Lib.hid g3
      obtain ⟨A9, c9, rfl, -⟩ := k3.shape
      have hz3 := g3.size
      have hz0 := hz.out
      clear k3 g3
      have HL := Lib.hid (show (racksTo p p.rk 1 n).length + (oneRack p r 1).length ≤ 1099511627776 by have h1 := HLL.out n; have h2 := HOL.out r 1; omega)
      go_wp2_with (at_builtin; refine wp_appEvs2 rfl _ _ rfl (w.heap.size + 1) _ (racksTo p p.rk 1 n) rfl (ho.out.up U3.out) _ _ _ rfl K3.out HL.out (by omega) ?_; intro v' w' h1 h2 h3 h4; have HO := Lib.hid h1; have HGB := Lib.hid h4; clear h1 h2 h3 h4; have x0 := Chg.cell HGB.out (Chg.cell U3.out e0 id) (fun h => by have h : w.heap.size + 1 ≤ w.heap.size := h; omega); have x1 := Chg.cell HGB.out (Chg.cell U3.out e1 id) (fun h => by have h : w.heap.size + 1 ≤ w.heap.size := h; omega); have x2 := Chg.cell HGB.out (Chg.cell U3.out e2 id) (fun h => by have h : w.heap.size + 1 ≤ w.heap.size := h; omega); have x3 := Chg.cell HGB.out (Chg.cell U3.out e3 id) (fun h => by have h : w.heap.size + 1 ≤ w.heap.size := h; omega); have xf := ((Chg.frozen HGB.out (Chg.cell U3.out e1 id) (fun h => by have h : w.heap.size + 1 ≤ w.heap.size := h; omega)).trans (Chg.frozen U3.out e1 id)).trans f1)
      go_roundw
      case rel =>
        refine ⟨n + 1, by have := HLT.out; omega, Lib.hid ?_, Lib.hid ((World.cell?_setCell_other _ _ _ _ (fun e => by injection e with e1 e2; omega)).trans x0), Lib.hid ⟨?_, by rw [World.frozen?_setCell]; exact xf⟩, Lib.hid ⟨(World.cell?_setCell_other _ _ _ _ (fun e => by injection e with e1 e2; omega)).trans x2, (World.cell?_setCell_other _ _ _ _ (fun e => by injection e with e1 e2; omega)).trans x3⟩, Lib.hid ?_, Lib.hid ?_⟩
        · have e : racksTo p p.rk 1 (n + 1) = racksTo p p.rk 1 n ++ oneRack p r 1 := by rw [HRN.out]; rfl
          rw [e]
          exact HO.out.kept (S := fun b => b = w.heap.size) ((Chg.refl _ _).setCell (.inl (show w.heap.size = w.heap.size from rfl)) _) (fun g hg he => by have h1 := (HO.out.lt hg).1; have h2 : g = w.heap.size := he; omega)
        · rw [World.cell?_setCell_same _ _ _ x1, HRN.out]
          congr 2
          have : ((n + 1 : Nat) : Int) = (n : Int) + 1 := by omega
          rw [this]
          omega
        · exact Chg.setCell (Chg.new (Chg.trans hu.out U3.out) HGB.out (fun i hi => by omega)) (.inr (Nat.le_refl _)) _
        · have h1 := HGB.out.size
          have h2 : (w'.setCell ⟨w.heap.size, 1, none⟩ (.int .i64 (r + 1))).heap.size = w'.heap.size := by simp
          omega
      case measure =>
        have m0 := cellInt_of e1
        have m1 := cellInt_of (World.cell?_setCell_same w' ⟨w.heap.size, 1, none⟩ (.int .i64 (r + 1)) x1)
        rw [m0, m1]
        have h1 := HRN.out
        have h2 := HLT.out
        have h3 := HK.out
        omega
    · obtain rfl : n = k := by omega
      have hrt : r = t := by omega
      clear hr0 hkk
      rw [hrt] at e1
      go_wp2
      go_ret
      exact ⟨_, rfl, ho.out.rd.mono (fun b _ h => ⟨by have h1 := h.1; omega, h.2⟩), hu.out⟩
theorem rackAll_down (w : World) (M H L : Nat → Prop) (bm : Nat) (p : MacM) (hp : FewM p) (hn0 : 1 ≤ p.fr.length) (hr : -3 ≤ p.rk ∧ p.rk ≤ 3) (t : Int) (ht : -3 ≤ t ∧ t ≤ 3) (hs : t ≤ p.rk) (A0 A1 : Option Addr) (c0 c1 : Nat) (A2 A3 A4 : Option Addr) (n2 n3 n4 c2 c3 c4 : Nat) (q0 : w.cell? ⟨bm, 0, none⟩ = some (.int .i64 p.wd)) (q1 : w.cell? ⟨bm, 1, none⟩ = some (.int .i64 p.rk)) (q2 : w.cell? ⟨bm, 2, none⟩ = some (.slice A0 p.fr.length c0)) (q3 : w.cell? ⟨bm, 3, none⟩ = some (.slice A1 p.bk.length c1)) (h0 : IntSSV w M H L (.slice A0 p.fr.length c0) p.fr) (h1 : IntSSV w M H L (.slice A1 p.bk.length c1) p.bk) (q4 : w.cell? ⟨bm, 4, none⟩ = some (.slice A2 n2 c2)) (q5 : w.cell? ⟨bm, 5, none⟩ = some (.slice A3 n3 c3)) (q6 : w.cell? ⟨bm, 6, none⟩ = some (.slice A4 n4 c4)) :
    Calls Try.prog 56 #[.pointer (some ⟨bm, 0, none⟩), .int .i64 t] w fun e w' => ∃ v, e = .returned v ∧ Evs w' (New w.heap.size w'.heap.size) v (racksTo p p.rk (-1) (p.rk - t).toNat) ∧ Up w w' := by
  have H0 := Lib.hid h0
  have H1 := Lib.hid h1
  have HP := Lib.hid hp
  have HR := Lib.hid hr
  have HT := Lib.hid ht
  have HS := Lib.hid hs
  have HN0 := Lib.hid hn0
  have HLL := Lib.hid (racksTo_length hp p.rk (-1))
  have HOL := Lib.hid (oneRack_length hp)
  obtain ⟨k, hk⟩ : ∃ k, k = (p.rk - t).toNat := ⟨_, rfl⟩
  rw [← hk]
  have HK : Hid (t = p.rk + (-1) * (k : Int)) := Lib.hid (by omega)
  have hk6 : k ≤ 6 := by omega
  have HK6 := Lib.hid hk6
  clear hk hk6 hs ht h0 h1 hn0 hp
  have b0 := cell_new w #[.int .i64 p.wd, .int .i64 p.rk, .slice A0 p.fr.length c0, .slice A1 p.bk.length c1, .slice A2 n2 c2, .slice A3 n3 c3, .slice A4 n4 c4] 35
  have bf := frozen_new w #[.int .i64 p.wd, .int .i64 p.rk, .slice A0 p.fr.length c0, .slice A1 p.bk.length c1, .slice A2 n2 c2, .slice A3 n3 c3, .slice A4 n4 c4] 35 1
  have UB := Lib.hid ((Chg.refl Nowhere w).alloc (.cells #[.int .i64 p.wd, .int .i64 p.rk, .slice A0 p.fr.length c0, .slice A1 p.bk.length c1, .slice A2 n2 c2, .slice A3 n3 c3, .slice A4 n4 c4] 35))
  go_enter Try.func56, Try.ntmps56
  go_wp2
  go_loopw [6, 7] (fun v st wr => ∃ n : Nat, n ≤ k ∧ Hid (OwnEvs wr (w.heap.size + 1) v (racksTo p p.rk (-1) n)) ∧ Hid (wr.cell? ⟨w.heap.size, 0, none⟩ = some (.int .i64 p.wd)) ∧ Hid (wr.cell? ⟨w.heap.size, 1, none⟩ = some (.int .i64 (p.rk + (-1) * (n : Int))) ∧ wr.frozen? ⟨w.heap.size, 1, none⟩ = false) ∧ Hid (wr.cell? ⟨w.heap.size, 2, none⟩ = some (.slice A0 p.fr.length c0) ∧ wr.cell? ⟨w.heap.size, 3, none⟩ = some (.slice A1 p.bk.length c1)) ∧ Hid (Up w wr) ∧ Hid (w.heap.size + 1 ≤ wr.heap.size)) (fun _ _ wr => (cellInt wr ⟨w.heap.size, 1, none⟩ - t).toNat)
  case atStart =>
    have hsz : (w.alloc (.cells #[.int .i64 p.wd, .int .i64 p.rk, .slice A0 p.fr.length c0, .slice A1 p.bk.length c1, .slice A2 n2 c2, .slice A3 n3 c3, .slice A4 n4 c4] 35)).heap.size = w.heap.size + 1 := by simp
    have hm := OwnEvs.made (w.alloc (.cells #[.int .i64 p.wd, .int .i64 p.rk, .slice A0 p.fr.length c0, .slice A1 p.bk.length c1, .slice A2 n2 c2, .slice A3 n3 c3, .slice A4 n4 c4] 35)) (w.heap.size + 1) (Nat.le_of_eq hsz.symm)
    rw [hsz] at hm
    refine ⟨0, Nat.zero_le _, hm, Chg.cell ((Chg.refl Nowhere _).alloc _) (b0 0) id, ⟨(Chg.cell ((Chg.refl Nowhere _).alloc _) (b0 1) id).trans (by simp), (Chg.frozen ((Chg.refl Nowhere _).alloc _) (b0 1) id).trans bf⟩, ⟨Chg.cell ((Chg.refl Nowhere _).alloc _) (b0 2) id, Chg.cell ((Chg.refl Nowhere _).alloc _) (b0 3) id⟩, (UB.out.alloc _), Lib.hid (by simp)⟩
  clear b0 bf
  case round =>
    obtain ⟨n, hn, ho, hc0, hc1, hc23, hu, hz⟩ := hrel
    obtain ⟨r, hr0⟩ : ∃ r, r = p.rk + (-1) * (n : Int) := ⟨_, rfl⟩
    have HRN := Lib.hid hr0
    obtain ⟨e1, f1⟩ := hc1.out
    rw [← hr0] at e1
    have e0 := hc0.out
    obtain ⟨e2, e3⟩ := hc23.out
    have hk6 := HK6.out
    have hr1 := HR.out
    have ht1 := HT.out
    have hkk := HK.out
    by_cases hlt : n < k
    · have hne : ¬ r = t := by omega
      have hlt2 : t < r := by omega
      have HRE := Lib.hid (rackEvents_down wr M H L w.heap.size p HP.out HN0.out r (by omega) A0 A1 c0 c1 e0 e1 e2 e3 (H0.out.up hu.out) (H1.out.up hu.out))
      have HLT := Lib.hid hlt
      have hrb : -3 ≤ r ∧ r ≤ 3 := by omega
      have HSZ := Lib.hid (World.block_lt_of_cell? w _ q0)
      clear hkk hr0 hlt
      have hwr : IntKind.i64.wrap (r + (-1)) = r + (-1) := IntWalk.i64_in _ (by omega)
      have hwr2 : wrap64 (r + (-1)) = r + (-1) := IntWalk.wrap64_in _ (by omega)
      go_wp2_with fail
      refine HRE.out.mono ?_
      rintro e w3 ⟨v3, rfl, k3, g3⟩
      have K3 := Lib.hid k3
      have U3 := Lib.hid g3
      obtain ⟨A9, c9, rfl, -⟩ := k3.shape
      have hz3 := g3.size
      have hz0 := hz.out
      clear k3 g3
      have HL := Lib.hid (show (racksTo p p.rk (-1) n).length + (oneRack p r (-1)).length ≤ 1099511627776 by have h1 := HLL.out n; have h2 := HOL.out r (-1); omega)
      go_wp2_with (at_builtin; refine wp_appEvs2 rfl _ _ rfl (w.heap.size + 1) _ (racksTo p p.rk (-1) n) rfl (ho.out.up U3.out) _ _ _ rfl K3.out HL.out (by omega) ?_; intro v' w' h1 h2 h3 h4; have HO := Lib.hid h1; have HGB := Lib.hid h4; clear h1 h2 h3 h4; have x0 := Chg.cell HGB.out (Chg.cell U3.out e0 id) (fun h => by have h : w.heap.size + 1 ≤ w.heap.size := h; omega); have x1 := Chg.cell HGB.out (Chg.cell U3.out e1 id) (fun h => by have h : w.heap.size + 1 ≤ w.heap.size := h; omega); have x2 := Chg.cell HGB.out (Chg.cell U3.out e2 id) (fun h => by have h : w.heap.size + 1 ≤ w.heap.size := h; omega); have x3 := Chg.cell HGB.out (Chg.cell U3.out e3 id) (fun h => by have h : w.heap.size + 1 ≤ w.heap.size := h; omega); have xf := ((Chg.frozen HGB.out (Chg.cell U3.out e1 id) (fun h => by have h : w.heap.size + 1 ≤ w.heap.size := h; omega)).trans (Chg.frozen U3.out e1 id)).trans f1)
      go_roundw
      case rel =>
        refine ⟨n + 1, by have := HLT.out; omega, Lib.hid ?_, Lib.hid ((World.cell?_setCell_other _ _ _ _ (fun e => by injection e with e1 e2; omega)).trans x0), Lib.hid ⟨?_, by rw [World.frozen?_setCell]; exact xf⟩, Lib.hid ⟨(World.cell?_setCell_other _ _ _ _ (fun e => by injection e with e1 e2; omega)).trans x2, (World.cell?_setCell_other _ _ _ _ (fun e => by injection e with e1 e2; omega)).trans x3⟩, Lib.hid ?_, Lib.hid ?_⟩
        · have e : racksTo p p.rk (-1) (n + 1) = racksTo p p.rk (-1) n ++ oneRack p r (-1) := by rw [HRN.out]; rfl
          rw [e]
          exact HO.out.kept (S := fun b => b = w.heap.size) ((Chg.refl _ _).setCell (.inl (show w.heap.size = w.heap.size from rfl)) _) (fun g hg he => by have h1 := (HO.out.lt hg).1; have h2 : g = w.heap.size := he; omega)
        · rw [World.cell?_setCell_same _ _ _ x1, HRN.out]
          congr 2
          have : ((n + 1 : Nat) : Int) = (n : Int) + 1 := by omega
          rw [this]
          omega
        · exact Chg.setCell (Chg.new (Chg.trans hu.out U3.out) HGB.out (fun i hi => by omega)) (.inr (Nat.le_refl _)) _
        · have h1 := HGB.out.size
          have h2 : (w'.setCell ⟨w.heap.size, 1, none⟩ (.int .i64 (r + (-1)))).heap.size = w'.heap.size := by simp
          omega
      case measure =>
        have m0 := cellInt_of e1
        have m1 := cellInt_of (World.cell?_setCell_same w' ⟨w.heap.size, 1, none⟩ (.int .i64 (r + (-1))) x1)
        rw [m0, m1]
        have h1 := HRN.out
        have h2 := HLT.out
        have h3 := HK.out
        omega
    · obtain rfl : n = k := by omega
      have hrt : r = t := by omega
      clear hr0 hkk
      rw [hrt] at e1
      go_wp2
      go_ret
      exact ⟨_, rfl, ho.out.rd.mono (fun b _ h => ⟨by have h1 := h.1; omega, h.2⟩), hu.out⟩
end Go.Proofs.Ytchfjglofmphfaa
