/- Racking: the program's RackEvents. No condition. Marks on a machine: cells keep their kinds. No condition. RackEvents on both sides. No condition. -/
import Derived.Test.YtchfjglofmphfaaRakA
import Derived.Test.YtchfjglofmphfaaMacV
import Derived.Test.YtchfjglofmphfaaRB11
import Derived.Test.YtchfjglofmphfaaRB8
import Derived.Test.YtchfjglofmphfaaRakP
import Derived.Test.YtchfjglofmphfaaMacT
section
set_option linter.unusedSimpArgs false
set_option linter.unusedVariables false
set_option maxRecDepth 100000
set_option maxHeartbeats 4000000
namespace Go.Proofs.Ytchfjglofmphfaa
open Go.ChangeShapes Go.WideShapes Go.ChangeAt Go.RowKit
def rackOut (p : MacM) (t : Int) : List EvM := if okMac p && rackB t then rackAllM p t else []
def rackCode (p : MacM) (t : Int) : Int := if okMac p then if rackB t then 0 else 2 else 1
theorem allB_at {f : Nat → Bool} {n : Nat} (h : allB f n = true) : ∀ i, i < n → f i = true := fun i hi => (List.all_eq_true.1 h) i (List.mem_range.2 hi)
theorem okMac_few {p : MacM} (h : okMac p = true) : FewM p ∧ 1 ≤ p.fr.length ∧ (-3 ≤ p.rk ∧ p.rk ≤ 3) := by
  unfold okMac at h
  simp only [Bool.and_eq_true] at h
  obtain ⟨⟨⟨⟨⟨hh, hf, hb⟩, -⟩, -⟩, -⟩, -⟩ := h
  unfold headB at hh
  simp only [Bool.and_eq_true, decide_eq_true_eq] at hh
  obtain ⟨⟨⟨⟨⟨h1, h2⟩, h3⟩, h4⟩, -⟩, -⟩ := hh
  have h1 : 1 ≤ p.wd ∧ p.wd ≤ 24 := by simpa [inB] using h1
  have h2 : -3 ≤ p.rk ∧ p.rk ≤ 3 := by simpa [rackB, inB] using h2
  refine ⟨⟨by omega, by omega, by omega, fun i hi => ?_, fun i hi => ?_⟩, by omega, h2⟩
  · have := of_decide_eq_true (allB_at hf i hi)
    rwa [getD_eq hi] at this
  · have := of_decide_eq_true (allB_at hb i hi)
    rwa [getD_eq hi] at this
theorem pRackEvents_any (w : World) (M H L : Nat → Prop) (v : Value) (p : MacM) (t : Int) (h : MacV w M H L v p) :
    Calls Try.prog 10 #[v, .int .i64 t] w fun e w' => ∃ u, e = .returned (.tuple #[u, .int .i64 (rackCode p t)]) ∧ Evs w' (New w.heap.size w'.heap.size) u (rackOut p t) ∧ Up w w' := by
  obtain ⟨A0, c0, A1, c1, A2, c2, A3, c3, A4, c4, rfl, h⟩ := h.val
  have HV := Lib.hid h
  have q := cell_new w #[.int .i64 p.wd, .int .i64 p.rk, .slice A0 p.fr.length c0, .slice A1 p.bk.length c1, .slice A2 p.cs.length c2, .slice A3 p.ls.length c3, .slice A4 p.dr.length c4] 35
  have UB := Lib.hid ((Chg.refl Nowhere w).alloc (.cells #[.int .i64 p.wd, .int .i64 p.rk, .slice A0 p.fr.length c0, .slice A1 p.bk.length c1, .slice A2 p.cs.length c2, .slice A3 p.ls.length c3, .slice A4 p.dr.length c4] 35))
  go_enter Try.func10, Try.ntmps10
  go_wp2_with fail
  refine (ValidMachine_any _ M H L _ p (HV.out.up (by repeat (first | exact Chg.refl _ _ | apply Chg.drew | apply Chg.drewN | refine Chg.alloc ?_ _)))).mono ?_
  rintro e w1 ⟨rfl, g1⟩
  have U1 := Lib.hid (Chg.trans UB.out (Chg.trans (by repeat (first | exact Chg.refl _ _ | apply Chg.drew | apply Chg.drewN | refine Chg.alloc ?_ _)) g1))
  have q0 := Chg.cell g1 (q 0) id
  have q1 := Chg.cell g1 (q 1) id
  have q2 := Chg.cell g1 (q 2) id
  have q3 := Chg.cell g1 (q 3) id
  have q4 := Chg.cell g1 (q 4) id
  have q5 := Chg.cell g1 (q 5) id
  have q6 := Chg.cell g1 (q 6) id
  clear g1 q
  cases hok : okMac p with
  | false =>
    have HC := Lib.hid (show rackCode p t = 1 by unfold rackCode; rw [hok]; rfl)
    have HO := Lib.hid (show rackOut p t = [] by unfold rackOut; rw [hok]; rfl)
    go_wp2
    go_ret2
    rw [HC.out, HO.out]
    exact ⟨_, rfl, Evs.nil _ _ _ _ (by omega), Chg.trans U1.out (by repeat (first | exact Chg.refl _ _ | apply Chg.drew | apply Chg.drewN | refine Chg.alloc ?_ _))⟩
  | true =>
    have HF := Lib.hid (okMac_few hok)
    have HRK := Lib.hid (isRack_any t)
    go_wp2_with fail
    refine (isRack_any t _).mono ?_
    rintro e w' ⟨rfl, rfl⟩
    cases hr : rackB t with
    | false =>
      have HC := Lib.hid (show rackCode p t = 2 by unfold rackCode; rw [hok, hr]; rfl)
      have HO := Lib.hid (show rackOut p t = [] by unfold rackOut; rw [hok, hr]; rfl)
      go_wp2
      go_ret2
      rw [HC.out, HO.out]
      exact ⟨_, rfl, Evs.nil _ _ _ _ (by omega), Chg.trans U1.out (by repeat (first | exact Chg.refl _ _ | apply Chg.drew | apply Chg.drewN | refine Chg.alloc ?_ _))⟩
    | true =>
      have HC := Lib.hid (show rackCode p t = 0 by unfold rackCode; rw [hok, hr]; rfl)
      have HO := Lib.hid (show rackOut p t = rackAllM p t by unfold rackOut; rw [hok, hr]; rfl)
      have HT := Lib.hid (show -3 ≤ t ∧ t ≤ 3 from of_decide_eq_true hr)
      have HRA : Hid (Calls Try.prog 56 #[.pointer (some ⟨w.heap.size, 0, none⟩), .int .i64 t] w1 fun e w' => ∃ v, e = .returned v ∧ Evs w' (New w1.heap.size w'.heap.size) v (rackAllM p t) ∧ Up w1 w') := Lib.hid (by
        obtain ⟨hfw, hn0, hrk⟩ := HF.out
        obtain ⟨B0, d0, B1, d1, B2, d2, B3, d3, B4, d4, he, h0, h1, -⟩ := HV.out.up U1.out
        simp only [Value.agg.injEq, Array.mk.injEq, List.cons.injEq, Value.slice.injEq] at he
        obtain ⟨-, -, ⟨rfl, -, rfl⟩, ⟨rfl, -, rfl⟩, -⟩ := he
        unfold rackAllM
        by_cases hs : p.rk ≤ t
        · rw [if_pos hs]
          exact rackAll_up w1 M H L w.heap.size p hfw hn0 hrk t HT.out hs _ _ _ _ _ _ _ _ _ _ _ _ _ q0 q1 q2 q3 h0 h1 q4 q5 q6
        · rw [if_neg hs]
          exact rackAll_down w1 M H L w.heap.size p hfw hn0 hrk t HT.out (by omega) _ _ _ _ _ _ _ _ _ _ _ _ _ q0 q1 q2 q3 h0 h1 q4 q5 q6)
      go_wp2_with fail
      refine HRA.out.mono ?_
      rintro e w2 ⟨u, rfl, k2, g2⟩
      go_wp2
      go_ret2
      rw [HC.out, HO.out]
      exact ⟨_, rfl, (k2.up (by repeat (first | exact Chg.refl _ _ | apply Chg.drew | apply Chg.drewN | refine Chg.alloc ?_ _))).mono (fun b _ h => ⟨by have h1 := h.1; have h2 := U1.out.size; omega, by have h1 := h.2; simpa using h1⟩), Chg.trans U1.out (Chg.trans g2 (by repeat (first | exact Chg.refl _ _ | apply Chg.drew | apply Chg.drewN | refine Chg.alloc ?_ _)))⟩
end Go.Proofs.Ytchfjglofmphfaa
end
section
set_option linter.unusedSimpArgs false
set_option linter.unusedVariables false
set_option maxRecDepth 100000
set_option maxHeartbeats 2000000
namespace Go.Proofs.Ytchfjglofmphfaa
open Go.ChangeShapes Go.WideShapes Go.ChangeAt Go.RowKit
theorem ints_blkB {w : World} {S : Nat → Prop} {b o c n : Nat} {xs : List Int} (h : Ints w S (.slice (some ⟨b, o, none⟩) n c) xs) (hp : 0 < xs.length) : S b := by
  obtain ⟨A', c', he, _, _, _, hr, _⟩ := h
  obtain ⟨b', o', hA, hs, _⟩ := hr hp
  simp at he
  obtain ⟨rfl, rfl, rfl⟩ := he
  simp at hA
  rw [hA.1]
  exact hs
structure KeptB (w w' : World) : Prop where
  int : ∀ {b o : Nat} {i : Int}, w.cell? ⟨b, o, none⟩ = some (.int .i64 i) → ∃ i', w'.cell? ⟨b, o, none⟩ = some (.int .i64 i')
  slc : ∀ {b o : Nat} {A : Option Addr} {n c : Nat}, w.cell? ⟨b, o, none⟩ = some (.slice A n c) → w'.cell? ⟨b, o, none⟩ = some (.slice A n c)
  fz : ∀ {b o : Nat} {i : Int}, w.cell? ⟨b, o, none⟩ = some (.int .i64 i) → w'.frozen? ⟨b, o, none⟩ = w.frozen? ⟨b, o, none⟩
  bl : ∀ {b o : Nat} {i : Bool}, w.cell? ⟨b, o, none⟩ = some (.bool i) → ∃ i', w'.cell? ⟨b, o, none⟩ = some (.bool i')
  fzb : ∀ {b o : Nat} {i : Bool}, w.cell? ⟨b, o, none⟩ = some (.bool i) → w'.frozen? ⟨b, o, none⟩ = w.frozen? ⟨b, o, none⟩
theorem KeptB.refl (w : World) : KeptB w w := ⟨fun h => ⟨_, h⟩, fun h => h, fun _ => rfl, fun h => ⟨_, h⟩, fun _ => rfl⟩
theorem KeptB.up {w w' : World} (g : Up w w') : KeptB w w' := ⟨fun h => ⟨_, Chg.cell g h id⟩, fun h => Chg.cell g h id, fun h => Chg.frozen g h id, fun h => ⟨_, Chg.cell g h id⟩, fun h => Chg.frozen g h id⟩
theorem KeptB.trans {a b c : World} (h : KeptB a b) (k : KeptB b c) : KeptB a c :=
  ⟨fun e => let ⟨_, e2⟩ := h.int e; k.int e2, fun e => k.slc (h.slc e), fun e => let ⟨_, e2⟩ := h.int e; (k.fz e2).trans (h.fz e), fun e => let ⟨_, e2⟩ := h.bl e; k.bl e2, fun e => let ⟨_, e2⟩ := h.bl e; (k.fzb e2).trans (h.fzb e)⟩
theorem KeptB.setInt {w : World} {b o : Nat} {i : Int} (h : w.cell? ⟨b, o, none⟩ = some (.int .i64 i)) (i' : Int) : KeptB w (w.setCell ⟨b, o, none⟩ (.int .i64 i')) := by
  refine ⟨fun {b2 o2 j} e => ?_, fun {b2 o2 A n c} e => ?_, fun _ => World.frozen?_setCell .., fun {b2 o2 j} e => ?_, fun _ => World.frozen?_setCell ..⟩
  · by_cases hh : (⟨b, o, none⟩ : Addr) = ⟨b2, o2, none⟩
    · rw [← hh]; exact ⟨_, World.cell?_setCell_same _ _ _ h⟩
    · exact ⟨_, (World.cell?_setCell_other w ⟨b, o, none⟩ ⟨b2, o2, none⟩ _ hh).trans e⟩
  · by_cases hh : (⟨b, o, none⟩ : Addr) = ⟨b2, o2, none⟩
    · rw [← hh, h] at e; cases e
    · exact (World.cell?_setCell_other w ⟨b, o, none⟩ ⟨b2, o2, none⟩ _ hh).trans e
  · by_cases hh : (⟨b, o, none⟩ : Addr) = ⟨b2, o2, none⟩
    · rw [← hh, h] at e; cases e
    · exact ⟨_, (World.cell?_setCell_other w ⟨b, o, none⟩ ⟨b2, o2, none⟩ _ hh).trans e⟩
theorem KeptB.setBl {w : World} {b o : Nat} {i : Bool} (h : w.cell? ⟨b, o, none⟩ = some (.bool i)) (i' : Bool) : KeptB w (w.setCell ⟨b, o, none⟩ (.bool i')) := by
  refine ⟨fun {b2 o2 j} e => ?_, fun {b2 o2 A n c} e => ?_, fun _ => World.frozen?_setCell .., fun {b2 o2 j} e => ?_, fun _ => World.frozen?_setCell ..⟩
  · by_cases hh : (⟨b, o, none⟩ : Addr) = ⟨b2, o2, none⟩
    · rw [← hh, h] at e; cases e
    · exact ⟨_, (World.cell?_setCell_other w ⟨b, o, none⟩ ⟨b2, o2, none⟩ _ hh).trans e⟩
  · by_cases hh : (⟨b, o, none⟩ : Addr) = ⟨b2, o2, none⟩
    · rw [← hh, h] at e; cases e
    · exact (World.cell?_setCell_other w ⟨b, o, none⟩ ⟨b2, o2, none⟩ _ hh).trans e
  · by_cases hh : (⟨b, o, none⟩ : Addr) = ⟨b2, o2, none⟩
    · rw [← hh]; exact ⟨_, World.cell?_setCell_same _ _ _ h⟩
    · exact ⟨_, (World.cell?_setCell_other w ⟨b, o, none⟩ ⟨b2, o2, none⟩ _ hh).trans e⟩
theorem KeptB.set {a w : World} (h : KeptB a w) {b o : Nat} {i : Int} (hc : a.cell? ⟨b, o, none⟩ = some (.int .i64 i)) (i' : Int) : KeptB a (w.setCell ⟨b, o, none⟩ (.int .i64 i')) :=
  let ⟨_, e⟩ := h.int hc; h.trans (KeptB.setInt e i')
theorem KeptB.setb {a w : World} (h : KeptB a w) {b o : Nat} {i : Bool} (hc : a.cell? ⟨b, o, none⟩ = some (.bool i)) (i' : Bool) : KeptB a (w.setCell ⟨b, o, none⟩ (.bool i')) :=
  let ⟨_, e⟩ := h.bl hc; h.trans (KeptB.setBl e i')
def cSSB (xss : List (List Int)) : Nat := cntF List.length xss xss.length
def cIn (x : InfM) : Nat := 5 + x.ps.length
def cIS (xs : List InfM) : Nat := cntF cIn xs xs.length
def cMac (p : MacM) : Nat := cSSB p.fr + cSSB p.bk + 2 * p.cs.length + cIS p.ls + p.dr.length
theorem mkIntsB (w0 w : World) (S : Nat → Prop) (v : Value) (xs : List Int) (k : Int) (hk : 0 ≤ k) (hb : k + (xs.length : Nat) ≤ 4611686018427387904) (h : Ints w0 S v xs) (kp : KeptB w0 w) :
    Calls Try.prog 65 #[v, .int .i64 k] w fun e w' => e = .returned (.int .i64 (k + (xs.length : Nat))) ∧ Chg (S) w w' ∧ KeptB w w' := by
  obtain ⟨A, c, rfl, hlc, hcm, -⟩ := h.shape
  have H := Lib.hid h
  have KP := Lib.hid kp
  clear h kp
  go_enter Try.func65, Try.ntmps65
  go_wp2
  go_loopw [1, 5] (fun q i wr => ∃ j : Nat, j ≤ xs.length ∧ i = .int .i64 j ∧ q = .int .i64 (k + (j : Nat)) ∧ Hid (Chg S w wr) ∧ Hid (KeptB w wr)) (fun _ i _ => xs.length - (intOf i).toNat)
  case atStart => exact ⟨0, by omega, rfl, by simp, Chg.refl _ _, KeptB.refl _⟩
  case round =>
    obtain ⟨j, hj, rfl, rfl, hg, hp⟩ := hrel
    by_cases hlt : j < xs.length
    · obtain ⟨b, o, rfl, -, hc⟩ := ints_ixf H.out hlt
      have HS := Lib.hid (ints_blkB H.out (by omega))
      obtain ⟨p1, p2⟩ := hc j hlt
      obtain ⟨i0, c0⟩ := KP.out.int p1
      have z0 := (KP.out.fz p1).trans p2
      obtain ⟨i1, f0⟩ := hp.out.int c0
      have q0 := (hp.out.fz c0).trans z0
      have C0 := Lib.hid c0
      clear hc p1 p2 c0 z0
      go_wp2
      go_roundw
      case rel => exact ⟨j + 1, by omega, by go_num, by simp only [Value.int.injEq, true_and]; omega, Chg.setCell hg.out (p := ⟨b, o + j, none⟩) (.inl HS.out) _, hp.out.set C0.out _⟩
      case measure => first | (simp [intOf]; done) | (simp [intOf]; omega)
    · obtain rfl : j = xs.length := by omega
      go_wp2
      go_ret
      exact ⟨ret_int (by omega), hg.out, hp.out⟩
theorem mkSSB (w0 w : World) (M H L : Nat → Prop) (v : Value) (xs : List (List Int)) (k : Int) (hk : 0 ≤ k) (hb : k + (cSSB xs : Nat) ≤ 4611686018427387904) (h : IntSSV w0 M H L v xs) (kp : KeptB w0 w) :
    Calls Try.prog 62 #[v, .int .i64 k] w fun e w' => e = .returned (.int .i64 (k + (cSSB xs : Nat))) ∧ Chg (L) w w' ∧ KeptB w w' := by
  obtain ⟨A, c, rfl, hlc, hcm, -⟩ := h.shape
  have H := Lib.hid h
  have KP := Lib.hid kp
  clear h kp
  unfold cSSB at hb ⊢
  go_enter Try.func62, Try.ntmps62
  go_wp2
  go_loopw [1, 5] (fun q i wr => ∃ j : Nat, j ≤ xs.length ∧ i = .int .i64 j ∧ q = .int .i64 (k + (cntF List.length xs j : Nat)) ∧ Hid (Chg L w wr) ∧ Hid (KeptB w wr)) (fun _ i _ => xs.length - (intOf i).toNat)
  case atStart => exact ⟨0, by omega, rfl, by simp [cntF], Chg.refl _ _, KeptB.refl _⟩
  case round =>
    obtain ⟨j, hj, rfl, rfl, hg, hp⟩ := hrel
    by_cases hlt : j < xs.length
    · obtain ⟨b, o, c', vs, he, -, -, -, hE, hc⟩ := H.out.at_ hlt
      obtain ⟨rfl, rfl⟩ : A = some ⟨b, o, none⟩ ∧ c = c' := by simpa using he
      obtain ⟨A3, k3, rfl, hv, -⟩ := hE.val
      have p1 := (hc 0 _ rfl).1
      simp only [Nat.mul_one, Nat.add_zero] at p1
      have f0 := hp.out.slc (KP.out.slc p1)
      have HV := Lib.hid hv
      have HC := Lib.hid (cntF_succ (f := List.length) hlt)
      have hle := cntF_le (f := List.length) (xs := xs) (show j + 1 ≤ xs.length by omega)
      rw [HC.out] at hle
      have HB := Lib.hid (show k + (cntF List.length xs j : Nat) + ((List.length xs[j] : Nat) : Int) ≤ 4611686018427387904 by omega)
      have HK := Lib.hid (show 0 ≤ k + (cntF List.length xs j : Nat) by omega)
      clear hc he hE hv p1 hle
      go_wp2_with fail
      refine (mkIntsB w0 _ L _ xs[j] _ HK.out HB.out HV.out (KP.out.trans hp.out)).mono ?_
      rintro e w1 ⟨rfl, g1, k1⟩
      have HG := Lib.hid (Chg.trans hg.out g1)
      have HP := Lib.hid (hp.out.trans k1)
      clear g1 k1 f0
      go_wp2
      go_roundw
      case rel => exact ⟨j + 1, by omega, by go_num, by rw [HC.out]; simp only [Value.int.injEq, true_and]; omega, HG.out, HP.out⟩
      case measure => first | (simp [intOf]; done) | (simp [intOf]; omega)
    · obtain rfl : j = xs.length := by omega
      go_wp2
      go_ret
      exact ⟨rfl, hg.out, hp.out⟩
theorem mkCarsB (w0 w : World) (S : Nat → Prop) (v : Value) (xs : List CarM) (k : Int) (hk : 0 ≤ k) (hb : k + (2 * xs.length : Nat) ≤ 4611686018427387904) (h : Cars w0 S v xs) (kp : KeptB w0 w) :
    Calls Try.prog 63 #[v, .int .i64 k] w fun e w' => e = .returned (.int .i64 (k + (2 * xs.length : Nat))) ∧ Chg (S) w w' ∧ KeptB w w' := by
  obtain ⟨A, c, rfl, hlc, hcm, -⟩ := h.shape
  have H := Lib.hid h
  have KP := Lib.hid kp
  clear h kp
  go_enter Try.func63, Try.ntmps63
  go_wp2
  go_loopw [1, 5] (fun q i wr => ∃ j : Nat, j ≤ xs.length ∧ i = .int .i64 j ∧ q = .int .i64 (k + 2 * (j : Nat)) ∧ Hid (Chg S w wr) ∧ Hid (KeptB w wr)) (fun _ i _ => xs.length - (intOf i).toNat)
  case atStart => exact ⟨0, by omega, rfl, by simp, Chg.refl _ _, KeptB.refl _⟩
  case round =>
    obtain ⟨j, hj, rfl, rfl, hg, hp⟩ := hrel
    by_cases hlt : j < xs.length
    · obtain ⟨b, o, c', he, hs, -, hc⟩ := H.out.at_ hlt
      obtain ⟨rfl, rfl⟩ : A = some ⟨b, o, none⟩ ∧ c = c' := by simpa using he
      have HS := Lib.hid hs
      obtain ⟨p0, y0⟩ := hc 0 _ rfl
      obtain ⟨i0, c0⟩ := KP.out.bl p0
      have z0 := (KP.out.fzb p0).trans y0
      obtain ⟨x0, f0⟩ := hp.out.bl c0
      have q0 := (hp.out.fzb c0).trans z0
      have C0 := Lib.hid c0
      clear p0 y0 c0 z0
      obtain ⟨p1, y1⟩ := hc 1 _ rfl
      obtain ⟨i1, c1⟩ := KP.out.int p1
      have z1 := (KP.out.fz p1).trans y1
      obtain ⟨x1, f1⟩ := hp.out.int c1
      have q1 := (hp.out.fz c1).trans z1
      have C1 := Lib.hid c1
      clear p1 y1 c1 z1
      rw [Nat.add_zero] at f0 q0
      have C0 : Hid (w.cell? ⟨b, o + j * 2, none⟩ = some (.bool i0)) := C0
      clear hc he hs
      go_wp2
      go_roundw
      case rel => exact ⟨j + 1, by omega, by go_num, by simp only [Value.int.injEq, true_and]; omega, Chg.setCell (Chg.setCell hg.out (p := ⟨b, o + j * 2, none⟩) (.inl HS.out) _) (p := ⟨b, o + j * 2 + 1, none⟩) (.inl HS.out) _, KeptB.set (KeptB.setb hp.out C0.out _) C1.out _⟩
      case measure => first | (simp [intOf]; done) | (simp [intOf]; omega)
    · obtain rfl : j = xs.length := by omega
      go_wp2
      go_ret
      exact ⟨ret_int (by omega), hg.out, hp.out⟩
theorem mkInfB (w0 w : World) (M H L : Nat → Prop) (v : Value) (xs : List InfM) (k : Int) (hk : 0 ≤ k) (hb : k + (cIS xs : Nat) ≤ 4611686018427387904) (h : InfoSV w0 M H L v xs) (kp : KeptB w0 w) :
    Calls Try.prog 64 #[v, .int .i64 k] w fun e w' => e = .returned (.int .i64 (k + (cIS xs : Nat))) ∧ Chg (fun b => M b ∨ L b) w w' ∧ KeptB w w' := by
  obtain ⟨A, c, rfl, hlc, hcm, -⟩ := h.shape
  have HY := Lib.hid h
  have KP := Lib.hid kp
  clear h kp
  unfold cIS at hb ⊢
  go_enter Try.func64, Try.ntmps64
  go_wp2
  go_loopw [1, 5] (fun q i wr => ∃ j : Nat, j ≤ xs.length ∧ i = .int .i64 j ∧ q = .int .i64 (k + (cntF cIn xs j : Nat)) ∧ Hid (Chg (fun b => M b ∨ L b) w wr) ∧ Hid (KeptB w wr)) (fun _ i _ => xs.length - (intOf i).toNat)
  case atStart => exact ⟨0, by omega, rfl, by simp [cntF], Chg.refl _ _, KeptB.refl _⟩
  case round =>
    obtain ⟨j, hj, rfl, rfl, hg, hp⟩ := hrel
    by_cases hlt : j < xs.length
    · obtain ⟨b, o, c', vs, he, hs, -, -, hE, hc⟩ := HY.out.at_ hlt
      obtain ⟨rfl, rfl⟩ : A = some ⟨b, o, none⟩ ∧ c = c' := by simpa using he
      obtain ⟨A3, k3, rfl, hv, -⟩ := hE
      have HS := Lib.hid hs
      obtain ⟨p0, y0⟩ := hc 0 _ rfl
      obtain ⟨i0, c0⟩ := KP.out.int p0
      have z0 := (KP.out.fz p0).trans y0
      obtain ⟨x0, f0⟩ := hp.out.int c0
      have q0 := (hp.out.fz c0).trans z0
      have C0 := Lib.hid c0
      clear p0 y0 c0 z0
      obtain ⟨p1, y1⟩ := hc 1 _ rfl
      obtain ⟨i1, c1⟩ := KP.out.int p1
      have z1 := (KP.out.fz p1).trans y1
      obtain ⟨x1, f1⟩ := hp.out.int c1
      have q1 := (hp.out.fz c1).trans z1
      have C1 := Lib.hid c1
      clear p1 y1 c1 z1
      obtain ⟨p2, y2⟩ := hc 2 _ rfl
      obtain ⟨i2, c2⟩ := KP.out.int p2
      have z2 := (KP.out.fz p2).trans y2
      obtain ⟨x2, f2⟩ := hp.out.int c2
      have q2 := (hp.out.fz c2).trans z2
      have C2 := Lib.hid c2
      clear p2 y2 c2 z2
      obtain ⟨p3, y3⟩ := hc 3 _ rfl
      obtain ⟨i3, c3⟩ := KP.out.int p3
      have z3 := (KP.out.fz p3).trans y3
      obtain ⟨x3, f3⟩ := hp.out.int c3
      have q3 := (hp.out.fz c3).trans z3
      have C3 := Lib.hid c3
      clear p3 y3 c3 z3
      obtain ⟨p4, y4⟩ := hc 4 _ rfl
      obtain ⟨i4, c4⟩ := KP.out.int p4
      have z4 := (KP.out.fz p4).trans y4
      obtain ⟨x4, f4⟩ := hp.out.int c4
      have q4 := (hp.out.fz c4).trans z4
      have C4 := Lib.hid c4
      clear p4 y4 c4 z4
      rw [Nat.add_zero] at f0 q0
      have C0 : Hid (w.cell? ⟨b, o + j * 6, none⟩ = some (.int .i64 i0)) := C0
      have c5 := KP.out.slc (hc 5 _ rfl).1
      have f5 := hp.out.slc c5
      have HV := Lib.hid hv
      have HC := Lib.hid (cntF_succ (f := cIn) hlt)
      have hle := cntF_le (f := cIn) (xs := xs) (show j + 1 ≤ xs.length by omega)
      rw [HC.out] at hle
      have hcn : cIn xs[j] = 5 + xs[j].ps.length := rfl
      obtain ⟨m, hm⟩ : ∃ m : Nat, m = cntF cIn xs j := ⟨_, rfl⟩
      rw [← hm] at hle ⊢
      have HM := Lib.hid hm
      have HCN := Lib.hid hcn
      have HB := Lib.hid (show k + (m : Nat) + 1 + 1 + 1 + 1 + 1 + ((xs[j].ps.length : Nat) : Int) ≤ 4611686018427387904 by omega)
      have HK := Lib.hid (show 0 ≤ k + (m : Nat) + 1 + 1 + 1 + 1 + 1 by omega)
      have hb2 : k + (m : Int) + 5 ≤ 4611686018427387904 := by omega
      have WD := Lib.hid (show Chg (fun b => M b ∨ L b) w (((((wr.setCell ⟨b, o + j * 6, none⟩ (.int .i64 (k + m))).setCell ⟨b, o + j * 6 + 1, none⟩ (.int .i64 (k + m + 1))).setCell ⟨b, o + j * 6 + 2, none⟩ (.int .i64 (k + m + 1 + 1))).setCell ⟨b, o + j * 6 + 3, none⟩ (.int .i64 (k + m + 1 + 1 + 1))).setCell ⟨b, o + j * 6 + 4, none⟩ (.int .i64 (k + m + 1 + 1 + 1 + 1))) from Chg.setCell (Chg.setCell (Chg.setCell (Chg.setCell (Chg.setCell (hg.out) (p := ⟨b, o + j * 6, none⟩) (.inl (.inl HS.out)) _) (p := ⟨b, o + j * 6 + 1, none⟩) (.inl (.inl HS.out)) _) (p := ⟨b, o + j * 6 + 2, none⟩) (.inl (.inl HS.out)) _) (p := ⟨b, o + j * 6 + 3, none⟩) (.inl (.inl HS.out)) _) (p := ⟨b, o + j * 6 + 4, none⟩) (.inl (.inl HS.out)) _)
      have KD := Lib.hid (show KeptB w (((((wr.setCell ⟨b, o + j * 6, none⟩ (.int .i64 (k + m))).setCell ⟨b, o + j * 6 + 1, none⟩ (.int .i64 (k + m + 1))).setCell ⟨b, o + j * 6 + 2, none⟩ (.int .i64 (k + m + 1 + 1))).setCell ⟨b, o + j * 6 + 3, none⟩ (.int .i64 (k + m + 1 + 1 + 1))).setCell ⟨b, o + j * 6 + 4, none⟩ (.int .i64 (k + m + 1 + 1 + 1 + 1))) from KeptB.set (KeptB.set (KeptB.set (KeptB.set (KeptB.set (hp.out) C0.out _) C1.out _) C2.out _) C3.out _) C4.out _)
      have f5' := KD.out.slc c5
      clear hc he hv hle hm hcn c5 hs
      go_wp2_with fail
      refine (mkIntsB w0 _ L _ xs[j].ps _ HK.out HB.out HV.out (KP.out.trans KD.out)).mono ?_
      rintro e w1 ⟨rfl, g1, k1⟩
      have HG := Lib.hid (Chg.trans WD.out (g1.mono (fun b _ hb => .inr hb)))
      have HP := Lib.hid (KD.out.trans k1)
      clear g1 k1 f0 f1 f2 f3 f4 f5 q0 q1 q2 q3 q4 f5'
      go_wp2
      go_roundw
      case rel => exact ⟨j + 1, by omega, by go_num, by rw [HC.out, HCN.out, ← HM.out]; simp only [Value.int.injEq, true_and]; omega, HG.out, HP.out⟩
      case measure => first | (simp [intOf]; done) | (simp [intOf]; omega)
    · obtain rfl : j = xs.length := by omega
      go_wp2
      go_ret
      exact ⟨rfl, hg.out, hp.out⟩
theorem mkMacB (w0 w : World) (M H L : Nat → Prop) (v : Value) (p : MacM) (k : Int) (hk : 0 ≤ k) (hb : k + (cMac p : Nat) ≤ 4611686018427387904) (h : MacV w0 M H L v p) (kp : KeptB w0 w) :
    Calls Try.prog 13 #[v, .int .i64 k] w fun e w' => e = .returned (.int .i64 (k + (cMac p : Nat))) ∧ Chg (fun b => M b ∨ H b ∨ L b) w w' ∧ KeptB w w' := by
  obtain ⟨A0, c0, A1, c1, A2, c2, A3, c3, A4, c4, rfl, h0, h1, h2, h3, h4, ⟨hl0, hc0⟩, ⟨hl1, hc1⟩, ⟨hl2, hc2⟩, ⟨hl3, hc3⟩, ⟨hl4, hc4⟩, -, -⟩ := h
  have H0 := Lib.hid h0
  have H1 := Lib.hid h1
  have H2 := Lib.hid h2
  have H3 := Lib.hid h3
  have H4 := Lib.hid h4
  have KP := Lib.hid kp
  have UB := Lib.hid (show Up w (w.alloc (.cells #[.int .i64 p.wd, .int .i64 p.rk, .slice A0 p.fr.length c0, .slice A1 p.bk.length c1, .slice A2 p.cs.length c2, .slice A3 p.ls.length c3, .slice A4 p.dr.length c4] 35)) from (Chg.refl Nowhere w).alloc _)
  have q0 := (show (w.alloc (.cells #[.int .i64 p.wd, .int .i64 p.rk, .slice A0 p.fr.length c0, .slice A1 p.bk.length c1, .slice A2 p.cs.length c2, .slice A3 p.ls.length c3, .slice A4 p.dr.length c4] 35)).cell? ⟨w.heap.size, 2, none⟩ = some (.slice A0 p.fr.length c0) from cell_new _ _ _ _)
  have q1 := (show (w.alloc (.cells #[.int .i64 p.wd, .int .i64 p.rk, .slice A0 p.fr.length c0, .slice A1 p.bk.length c1, .slice A2 p.cs.length c2, .slice A3 p.ls.length c3, .slice A4 p.dr.length c4] 35)).cell? ⟨w.heap.size, 3, none⟩ = some (.slice A1 p.bk.length c1) from cell_new _ _ _ _)
  have q2 := (show (w.alloc (.cells #[.int .i64 p.wd, .int .i64 p.rk, .slice A0 p.fr.length c0, .slice A1 p.bk.length c1, .slice A2 p.cs.length c2, .slice A3 p.ls.length c3, .slice A4 p.dr.length c4] 35)).cell? ⟨w.heap.size, 4, none⟩ = some (.slice A2 p.cs.length c2) from cell_new _ _ _ _)
  have q3 := (show (w.alloc (.cells #[.int .i64 p.wd, .int .i64 p.rk, .slice A0 p.fr.length c0, .slice A1 p.bk.length c1, .slice A2 p.cs.length c2, .slice A3 p.ls.length c3, .slice A4 p.dr.length c4] 35)).cell? ⟨w.heap.size, 5, none⟩ = some (.slice A3 p.ls.length c3) from cell_new _ _ _ _)
  have q4 := (show (w.alloc (.cells #[.int .i64 p.wd, .int .i64 p.rk, .slice A0 p.fr.length c0, .slice A1 p.bk.length c1, .slice A2 p.cs.length c2, .slice A3 p.ls.length c3, .slice A4 p.dr.length c4] 35)).cell? ⟨w.heap.size, 6, none⟩ = some (.slice A4 p.dr.length c4) from cell_new _ _ _ _)
  have KB := Lib.hid (KeptB.up UB.out)
  have hcp : cMac p = cSSB p.fr + cSSB p.bk + 2 * p.cs.length + cIS p.ls + p.dr.length := rfl
  have HCP := Lib.hid hcp
  have HK0 := Lib.hid (show 0 ≤ k by omega)
  have HB0 := Lib.hid (show k + ((cSSB p.fr : Nat) : Int) ≤ 4611686018427387904 by omega)
  have HK1 := Lib.hid (show 0 ≤ k + ((cSSB p.fr : Nat) : Int) by omega)
  have HB1 := Lib.hid (show k + ((cSSB p.fr : Nat) : Int) + ((cSSB p.bk : Nat) : Int) ≤ 4611686018427387904 by omega)
  have HK2 := Lib.hid (show 0 ≤ k + ((cSSB p.fr : Nat) : Int) + ((cSSB p.bk : Nat) : Int) by omega)
  have HB2 := Lib.hid (show k + ((cSSB p.fr : Nat) : Int) + ((cSSB p.bk : Nat) : Int) + ((2 * p.cs.length : Nat) : Int) ≤ 4611686018427387904 by omega)
  have HK3 := Lib.hid (show 0 ≤ k + ((cSSB p.fr : Nat) : Int) + ((cSSB p.bk : Nat) : Int) + ((2 * p.cs.length : Nat) : Int) by omega)
  have HB3 := Lib.hid (show k + ((cSSB p.fr : Nat) : Int) + ((cSSB p.bk : Nat) : Int) + ((2 * p.cs.length : Nat) : Int) + ((cIS p.ls : Nat) : Int) ≤ 4611686018427387904 by omega)
  have HK4 := Lib.hid (show 0 ≤ k + ((cSSB p.fr : Nat) : Int) + ((cSSB p.bk : Nat) : Int) + ((2 * p.cs.length : Nat) : Int) + ((cIS p.ls : Nat) : Int) by omega)
  have HB4 := Lib.hid (show k + ((cSSB p.fr : Nat) : Int) + ((cSSB p.bk : Nat) : Int) + ((2 * p.cs.length : Nat) : Int) + ((cIS p.ls : Nat) : Int) + ((p.dr.length : Nat) : Int) ≤ 4611686018427387904 by omega)
  clear h0 h1 h2 h3 h4 kp hcp
  go_enter Try.func13, Try.ntmps13
  go_wp2_with fail
  refine (mkSSB w0 _ M H L _ p.fr _ HK0.out HB0.out H0.out (KP.out.trans (KB.out))).mono ?_
  rintro e w1 ⟨rfl, g1, k1⟩
  have K1 := Lib.hid k1
  have G1 := Lib.hid g1
  clear g1 k1 q0
  have q1 := K1.out.slc q1
  have q2 := K1.out.slc q2
  have q3 := K1.out.slc q3
  have q4 := K1.out.slc q4
  go_wp2_with fail
  refine (mkSSB w0 _ M H L _ p.bk _ HK1.out HB1.out H1.out (KP.out.trans (KeptB.trans (KB.out) K1.out))).mono ?_
  rintro e w2 ⟨rfl, g1, k1⟩
  have K2 := Lib.hid k1
  have G2 := Lib.hid g1
  clear g1 k1 q1
  have q2 := K2.out.slc q2
  have q3 := K2.out.slc q3
  have q4 := K2.out.slc q4
  go_wp2_with fail
  refine (mkCarsB w0 _ L _ p.cs _ HK2.out HB2.out H2.out (KP.out.trans (KeptB.trans (KeptB.trans (KB.out) K1.out) K2.out))).mono ?_
  rintro e w3 ⟨rfl, g1, k1⟩
  have K3 := Lib.hid k1
  have G3 := Lib.hid g1
  clear g1 k1 q2
  have q3 := K3.out.slc q3
  have q4 := K3.out.slc q4
  go_wp2_with fail
  refine (mkInfB w0 _ M H L _ p.ls _ HK3.out HB3.out H3.out (KP.out.trans (KeptB.trans (KeptB.trans (KeptB.trans (KB.out) K1.out) K2.out) K3.out))).mono ?_
  rintro e w4 ⟨rfl, g1, k1⟩
  have K4 := Lib.hid k1
  have G4 := Lib.hid g1
  clear g1 k1 q3
  have q4 := K4.out.slc q4
  go_wp2_with fail
  refine (mkIntsB w0 _ L _ p.dr _ HK4.out HB4.out H4.out (KP.out.trans (KeptB.trans (KeptB.trans (KeptB.trans (KeptB.trans (KB.out) K1.out) K2.out) K3.out) K4.out))).mono ?_
  rintro e w5 ⟨rfl, g1, k1⟩
  have K5 := Lib.hid k1
  have G5 := Lib.hid g1
  clear g1 k1 q4
  go_wp2
  go_ret
  exact ⟨ret_int (by rw [HCP.out]; omega), Chg.trans (Chg.trans (Chg.trans (Chg.trans (Chg.trans (Chg.of_up UB.out) (G1.out.mono (fun b _ hb => .inr (.inr hb)))) (G2.out.mono (fun b _ hb => .inr (.inr hb)))) (G3.out.mono (fun b _ hb => .inr (.inr hb)))) (G4.out.mono (fun b _ hb => hb.elim .inl (fun h => .inr (.inr h))))) (G5.out.mono (fun b _ hb => .inr (.inr hb))), KeptB.trans (KeptB.trans (KeptB.trans (KeptB.trans (KeptB.trans (KB.out) K1.out) K2.out) K3.out) K4.out) K5.out⟩
theorem MacA.keep {S T : Nat → Prop} {w w' : World} {v : Value} {p : MacM} (h : MacA w S v p) (g : Chg T w w') (hd : ∀ b, b < w.heap.size → S b → ¬ T b) : MacA w' S v p :=
  MacV.mono (MacV.keep (MacV.mono (M' := fun b => S b ∧ b < w.heap.size) (H' := fun b => S b ∧ b < w.heap.size) (L' := fun b => S b ∧ b < w.heap.size) h (fun b hb h => ⟨h, hb⟩) (fun b hb h => ⟨h, hb⟩) (fun b hb h => ⟨h, hb⟩)) g
    (fun b hb => by rcases hb with hb | hb | hb <;> exact hd b hb.2 hb.1)) (fun b _ h => h.1) (fun b _ h => h.1) (fun b _ h => h.1)
theorem markMacA_any (w : World) (S : Nat → Prop) (v : Value) (p : MacM) (k : Int) (hk : 0 ≤ k) (hb : k + (cMac p : Nat) ≤ 4611686018427387904) (h : MacA w S v p) :
    Calls Try.prog 13 #[v, .int .i64 k] w fun e w' => e = .returned (.int .i64 (k + (cMac p : Nat))) ∧ Chg S w w' :=
  (mkMacB w w S S S v p k hk hb h (KeptB.refl w)).mono fun _ _ ⟨he, hg, _⟩ => ⟨he, hg.mono fun _ _ hb => hb.elim id (fun h => h.elim id id)⟩
theorem cntF_linB {α : Type} {f g : α → Nat} (a c : Nat) (h : ∀ x, f x ≤ a + c * g x) (xs : List α) : ∀ j, j ≤ xs.length → cntF f xs j ≤ a * j + c * cntF g xs j
  | 0, _ => by simp [cntF]
  | j + 1, hj => by
    have h1 := cntF_linB a c h xs j (by omega)
    have h2 := h (xs[j]'(by omega))
    rw [cntF_succ (show j < xs.length by omega), cntF_succ (show j < xs.length by omega), Nat.mul_add, Nat.mul_add]
    omega
theorem cMac_le (p : MacM) : cMac p ≤ 6 * szMc p := by
  have h1 := cntF_linB (f := cIn) (g := fun x : InfM => x.ps.length) 5 1 (fun x => by unfold cIn; omega) p.ls p.ls.length (Nat.le_refl _)
  unfold cMac cSSB cIS szMc
  rw [show szF List.length p.fr = p.fr.length + cntF List.length p.fr p.fr.length from rfl, show szF List.length p.bk = p.bk.length + cntF List.length p.bk p.bk.length from rfl, show szF (fun x : InfM => x.ps.length) p.ls = p.ls.length + cntF (fun x : InfM => x.ps.length) p.ls p.ls.length from rfl]
  omega
end Go.Proofs.Ytchfjglofmphfaa
end
section
set_option linter.unusedSimpArgs false
set_option linter.unusedVariables false
set_option maxRecDepth 100000
set_option maxHeartbeats 4000000
namespace Go.Proofs.Ytchfjglofmphfaa
open Go.ChangeShapes Go.WideShapes Go.ChangeAt Go.RowKit
theorem nodup_len : ∀ {l m : List Int}, l.Nodup → (∀ x ∈ l, x ∈ m) → l.length ≤ m.length := by
  intro l
  induction l with
  | nil => intro m _ _; simp
  | cons x xs ih =>
    intro m hn hm
    rw [List.nodup_cons] at hn
    have hx := hm x (by simp)
    obtain ⟨a, b, rfl⟩ := List.append_of_mem hx
    have h2 := ih (m := a ++ b) hn.2 (fun y hy => by
      have := hm y (by simp [hy])
      rcases List.mem_append.1 this with h | h
      · exact List.mem_append.2 (.inl h)
      · rcases List.mem_cons.1 h with rfl | h
        · exact absurd hy hn.1
        · exact List.mem_append.2 (.inr h))
    simp only [List.length_append, List.length_cons] at h2 ⊢
    omega
theorem apart_len {xs : List Int} {n : Nat} (h : apartB xs n = true) : xs.length ≤ n := by
  obtain ⟨h1, h2⟩ := of_decide_eq_true h
  have := nodup_len (m := (List.range n).map Int.ofNat) h1 (fun x hx => by
    obtain ⟨a, b⟩ := h2 x hx
    exact List.mem_map.2 ⟨x.toNat, List.mem_range.2 (by omega), by simp; omega⟩)
  simpa using this
theorem okMac_few2 {p : MacM} (h : okMac p = true) : Few2 p := by
  unfold okMac at h
  simp only [Bool.and_eq_true] at h
  obtain ⟨⟨⟨⟨⟨hh, -, -⟩, -⟩, hi⟩, -⟩, ha⟩ := h
  unfold headB at hh
  simp only [Bool.and_eq_true, decide_eq_true_eq] at hh
  obtain ⟨⟨⟨⟨⟨-, -⟩, -⟩, -⟩, h5⟩, h6⟩ := hh
  refine ⟨by omega, by omega, fun i hi2 => ?_, ?_⟩
  · have := allB_at hi i hi2
    rw [getD_eq hi2] at this
    unfold infoB at this
    simp only [Bool.and_eq_true, decide_eq_true_eq] at this
    obtain ⟨⟨⟨⟨-, h⟩, -⟩, -⟩, -⟩ := this
    omega
  · have h1 := apart_len (apart_app ha)
    omega
theorem callBr {f : FuncId} {args : Array Value} {w : World} {b c : Bool} (h : Calls Try.prog f args w fun e w' => e = .returned (.bool b) ∧ Up w w') (hb : b = c) : Calls Try.prog f args w fun e w' => e = .returned (.bool c) ∧ Up w w' := hb ▸ h
theorem rackOut_len (p : MacM) (t : Int) : (rackOut p t).length ≤ 3000 := by
  unfold rackOut
  split
  · rename_i h
    simp only [Bool.and_eq_true] at h
    obtain ⟨hf, -, hr⟩ := okMac_few h.1
    have ht : -3 ≤ t ∧ t ≤ 3 := of_decide_eq_true h.2
    unfold rackAllM
    split
    · have := racksTo_length hf p.rk 1 (t - p.rk).toNat
      omega
    · have := racksTo_length hf p.rk (-1) (p.rk - t).toNat
      omega
  · simp
theorem pRackEvents_A (w : World) (S : Nat → Prop) (v : Value) (p : MacM) (h : MacA w S v p) (t : Int) :
    Calls Try.prog 10 #[v, .int .i64 t] w fun e w' => ∃ u, e = .returned (.tuple #[u, .int .i64 (rackCode p t)]) ∧ Evs w' (New w.heap.size w'.heap.size) u (rackOut p t) ∧ Up w w' :=
  pRackEvents_any w S S S v p t h
theorem sRackEvents_A (w : World) (S : Nat → Prop) (v : Value) (p : MacM) (h : MacA w S v p) (t : Int) :
    Calls Try.prog 8 #[v, .int .i64 t] w fun e w' => ∃ u, e = .returned (.tuple #[u, .int .i64 (rackCode p t)]) ∧ Evs w' (New w.heap.size w'.heap.size) u (rackOut p t) ∧ Up w w' := by
  obtain ⟨A0, c0, A1, c1, A2, c2, A3, c3, A4, c4, rfl, h0, h1, h2, h3, h4, hl0, hl1, hl2, hl3, hl4, hi0, hi1⟩ := h
  have UB := Lib.hid ((Chg.refl Nowhere w).alloc (.cells #[.int .i64 p.wd, .int .i64 p.rk, .slice A0 p.fr.length c0, .slice A1 p.bk.length c1, .slice A2 p.cs.length c2, .slice A3 p.ls.length c3, .slice A4 p.dr.length c4] 35))
  have H0 := Lib.hid (h0.up UB.out)
  have H1 := Lib.hid (h1.up UB.out)
  have H2 := Lib.hid (h2.up UB.out)
  have H3 := Lib.hid (h3.up UB.out)
  have H4 := Lib.hid (h4.up UB.out)
  have Q0 := Lib.hid (show (w.alloc (.cells #[.int .i64 p.wd, .int .i64 p.rk, .slice A0 p.fr.length c0, .slice A1 p.bk.length c1, .slice A2 p.cs.length c2, .slice A3 p.ls.length c3, .slice A4 p.dr.length c4] 35)).cell? ⟨w.heap.size, 0, none⟩ = some (.int .i64 p.wd) from cell_new _ _ _ _)
  have Q1 := Lib.hid (show (w.alloc (.cells #[.int .i64 p.wd, .int .i64 p.rk, .slice A0 p.fr.length c0, .slice A1 p.bk.length c1, .slice A2 p.cs.length c2, .slice A3 p.ls.length c3, .slice A4 p.dr.length c4] 35)).cell? ⟨w.heap.size, 1, none⟩ = some (.int .i64 p.rk) from cell_new _ _ _ _)
  have Q2 := Lib.hid (show (w.alloc (.cells #[.int .i64 p.wd, .int .i64 p.rk, .slice A0 p.fr.length c0, .slice A1 p.bk.length c1, .slice A2 p.cs.length c2, .slice A3 p.ls.length c3, .slice A4 p.dr.length c4] 35)).cell? ⟨w.heap.size, 2, none⟩ = some (.slice A0 p.fr.length c0) from cell_new _ _ _ _)
  have Q3 := Lib.hid (show (w.alloc (.cells #[.int .i64 p.wd, .int .i64 p.rk, .slice A0 p.fr.length c0, .slice A1 p.bk.length c1, .slice A2 p.cs.length c2, .slice A3 p.ls.length c3, .slice A4 p.dr.length c4] 35)).cell? ⟨w.heap.size, 3, none⟩ = some (.slice A1 p.bk.length c1) from cell_new _ _ _ _)
  have Q4 := Lib.hid (show (w.alloc (.cells #[.int .i64 p.wd, .int .i64 p.rk, .slice A0 p.fr.length c0, .slice A1 p.bk.length c1, .slice A2 p.cs.length c2, .slice A3 p.ls.length c3, .slice A4 p.dr.length c4] 35)).cell? ⟨w.heap.size, 4, none⟩ = some (.slice A2 p.cs.length c2) from cell_new _ _ _ _)
  have Q5 := Lib.hid (show (w.alloc (.cells #[.int .i64 p.wd, .int .i64 p.rk, .slice A0 p.fr.length c0, .slice A1 p.bk.length c1, .slice A2 p.cs.length c2, .slice A3 p.ls.length c3, .slice A4 p.dr.length c4] 35)).cell? ⟨w.heap.size, 5, none⟩ = some (.slice A3 p.ls.length c3) from cell_new _ _ _ _)
  have Q6 := Lib.hid (show (w.alloc (.cells #[.int .i64 p.wd, .int .i64 p.rk, .slice A0 p.fr.length c0, .slice A1 p.bk.length c1, .slice A2 p.cs.length c2, .slice A3 p.ls.length c3, .slice A4 p.dr.length c4] 35)).cell? ⟨w.heap.size, 6, none⟩ = some (.slice A4 p.dr.length c4) from cell_new _ _ _ _)
  have I0 := Lib.hid hi0
  have I1 := Lib.hid hi1
  have HL4 := Lib.hid hl4
  clear h0 h1 h2 h3 h4 hl0 hl1 hl2 hl3 hl4 hi0 hi1
  have HOKC := Lib.hid (fun bb (hbb : okMac p = bb) => callBr (l07Ok_any (w.alloc (.cells #[.int .i64 p.wd, .int .i64 p.rk, .slice A0 p.fr.length c0, .slice A1 p.bk.length c1, .slice A2 p.cs.length c2, .slice A3 p.ls.length c3, .slice A4 p.dr.length c4] 35)) S S S w.heap.size p A0 A1 A2 A3 A4 c0 c1 c2 c3 c4 Q0.out Q1.out Q2.out Q3.out Q4.out Q5.out Q6.out H0.out H1.out H2.out H3.out H4.out HL4.out) hbb)
  cases hok : okMac p with
  | false =>
    have HC := Lib.hid (show rackCode p t = 1 by unfold rackCode; rw [hok]; rfl)
    have HO := Lib.hid (show rackOut p t = [] by unfold rackOut; rw [hok]; rfl)
    have HK := Lib.hid hok
    clear hok
    go_enter Try.func8, Try.ntmps8
    go_wp2_with fail
    refine (HOKC.out _ HK.out).mono ?_
    rintro e w1 ⟨rfl, g1⟩
    have U1 := Lib.hid (show Up w w1 from Chg.trans UB.out g1)
    clear g1
    go_wp2
    go_ret2
    rw [HC.out, HO.out]
    exact ⟨_, rfl, Evs.nil _ _ _ _ (by omega), Chg.trans U1.out (by repeat (first | exact Chg.refl _ _ | apply Chg.drew | apply Chg.drewN | refine Chg.alloc ?_ _))⟩
  | true =>
    have HF := Lib.hid (okMac_few hok)
    have HF2 := Lib.hid (okMac_few2 hok)
    cases hr : rackB t with
    | false =>
      have HC := Lib.hid (show rackCode p t = 2 by unfold rackCode; rw [hok, hr]; rfl)
      have HO := Lib.hid (show rackOut p t = [] by unfold rackOut; rw [hok, hr]; rfl)
      have HK := Lib.hid hok
      have HR := Lib.hid (show inB t (-3) 3 = false from hr)
      clear hok hr
      go_enter Try.func8, Try.ntmps8
      go_wp2_with fail
      refine (HOKC.out _ HK.out).mono ?_
      rintro e w1 ⟨rfl, g1⟩
      have U1 := Lib.hid (show Up w w1 from Chg.trans UB.out g1)
      clear g1
      go_wp2_with fail
      refine (l00In_any t (-3) 3 _).mono ?_
      rintro e w' ⟨rfl, rfl⟩
      rw [HR.out]
      go_wp2
      go_ret2
      rw [HC.out, HO.out]
      exact ⟨_, rfl, Evs.nil _ _ _ _ (by omega), Chg.trans U1.out (by repeat (first | exact Chg.refl _ _ | apply Chg.drew | apply Chg.drewN | refine Chg.alloc ?_ _))⟩
    | true =>
      have HC := Lib.hid (show rackCode p t = 0 by unfold rackCode; rw [hok, hr]; rfl)
      have HO := Lib.hid (show rackOut p t = rackAllM p t by unfold rackOut; rw [hok, hr]; rfl)
      have HK := Lib.hid hok
      have HR := Lib.hid (show inB t (-3) 3 = true from hr)
      have HT := Lib.hid (show -3 ≤ t ∧ t ≤ 3 from of_decide_eq_true hr)
      clear hok hr
      go_enter Try.func8, Try.ntmps8
      go_wp2_with fail
      refine (HOKC.out _ HK.out).mono ?_
      rintro e w1 ⟨rfl, g1⟩
      have G1 := Lib.hid g1
      have U1 := Lib.hid (show Up w w1 from Chg.trans UB.out g1)
      clear g1
      go_wp2_with fail
      refine (l00In_any t (-3) 3 _).mono ?_
      rintro e w' ⟨rfl, rfl⟩
      rw [HR.out]
      go_wp2_with fail
      refine (l07Own_any _ S S S w.heap.size p HF.out.1 HF2.out I0.out I1.out A0 A1 A2 A3 A4 c0 c1 c2 c3 c4 (Chg.cell (Chg.trans G1.out (by repeat (first | exact Chg.refl _ _ | apply Chg.drew | apply Chg.drewN | refine Chg.alloc ?_ _))) Q0.out id) (Chg.cell (Chg.trans G1.out (by repeat (first | exact Chg.refl _ _ | apply Chg.drew | apply Chg.drewN | refine Chg.alloc ?_ _))) Q1.out id) (Chg.cell (Chg.trans G1.out (by repeat (first | exact Chg.refl _ _ | apply Chg.drew | apply Chg.drewN | refine Chg.alloc ?_ _))) Q2.out id) (Chg.cell (Chg.trans G1.out (by repeat (first | exact Chg.refl _ _ | apply Chg.drew | apply Chg.drewN | refine Chg.alloc ?_ _))) Q3.out id) (Chg.cell (Chg.trans G1.out (by repeat (first | exact Chg.refl _ _ | apply Chg.drew | apply Chg.drewN | refine Chg.alloc ?_ _))) Q4.out id) (Chg.cell (Chg.trans G1.out (by repeat (first | exact Chg.refl _ _ | apply Chg.drew | apply Chg.drewN | refine Chg.alloc ?_ _))) Q5.out id) (Chg.cell (Chg.trans G1.out (by repeat (first | exact Chg.refl _ _ | apply Chg.drew | apply Chg.drewN | refine Chg.alloc ?_ _))) Q6.out id) (H0.out.up (Chg.trans G1.out (by repeat (first | exact Chg.refl _ _ | apply Chg.drew | apply Chg.drewN | refine Chg.alloc ?_ _)))) (H1.out.up (Chg.trans G1.out (by repeat (first | exact Chg.refl _ _ | apply Chg.drew | apply Chg.drewN | refine Chg.alloc ?_ _)))) (H2.out.up (Chg.trans G1.out (by repeat (first | exact Chg.refl _ _ | apply Chg.drew | apply Chg.drewN | refine Chg.alloc ?_ _)))) (H3.out.up (Chg.trans G1.out (by repeat (first | exact Chg.refl _ _ | apply Chg.drew | apply Chg.drewN | refine Chg.alloc ?_ _)))) (H4.out.up (Chg.trans G1.out (by repeat (first | exact Chg.refl _ _ | apply Chg.drew | apply Chg.drewN | refine Chg.alloc ?_ _))))).mono ?_
      rintro e w2 ⟨B0, B1, d0, d1, F2, F3, F4, m2, m3, m4, f2, f3, f4, rfl, k0, k1, g2⟩
      have K0 := Lib.hid k0
      have K1 := Lib.hid k1
      have U2 := Lib.hid (show Up w w2 from Chg.trans U1.out (Chg.trans (by repeat (first | exact Chg.refl _ _ | apply Chg.drew | apply Chg.drewN | refine Chg.alloc ?_ _)) g2))
      have hz2 := U1.out.size
      have hz22 := g2.size
      clear k0 k1 g2
      have C0 := cell_new w2 #[.int .i64 p.wd, .int .i64 p.rk, .slice B0 p.fr.length d0, .slice B1 p.bk.length d1, .slice F2 m2 f2, .slice F3 m3 f3, .slice F4 m4 f4] 35
      have UA := (Chg.refl Nowhere (w2.alloc (.cells #[.int .i64 p.wd, .int .i64 p.rk, .slice B0 p.fr.length d0, .slice B1 p.bk.length d1, .slice F2 m2 f2, .slice F3 m3 f3, .slice F4 m4 f4] 35))).alloc (.cells #[.int .i64 7, .int .i64 0, .int .i64 0, .int .i64 0, .int .i64 0, .int .i64 0, .int .i64 0, .int .i64 t] 104)
      have a0 := Lib.hid (Chg.cell UA (C0 0) id)
      have a1 := Lib.hid (Chg.cell UA (C0 1) id)
      have a2 := Lib.hid (Chg.cell UA (C0 2) id)
      have a3 := Lib.hid (Chg.cell UA (C0 3) id)
      have y1 := Lib.hid ((Chg.frozen UA (C0 1) id).trans (frozen_new w2 _ _ 1))
      have D0 := Lib.hid (cell_new2 w2 (.cells #[.int .i64 p.wd, .int .i64 p.rk, .slice B0 p.fr.length d0, .slice B1 p.bk.length d1, .slice F2 m2 f2, .slice F3 m3 f3, .slice F4 m4 f4] 35) #[.int .i64 7, .int .i64 0, .int .i64 0, .int .i64 0, .int .i64 0, .int .i64 0, .int .i64 0, .int .i64 t] 104 0)
      have D7 := Lib.hid (cell_new2 w2 (.cells #[.int .i64 p.wd, .int .i64 p.rk, .slice B0 p.fr.length d0, .slice B1 p.bk.length d1, .slice F2 m2 f2, .slice F3 m3 f3, .slice F4 m4 f4] 35) #[.int .i64 7, .int .i64 0, .int .i64 0, .int .i64 0, .int .i64 0, .int .i64 0, .int .i64 0, .int .i64 t] 104 7)
      have UA2 := Lib.hid (show Up w2 ((w2.alloc (.cells #[.int .i64 p.wd, .int .i64 p.rk, .slice B0 p.fr.length d0, .slice B1 p.bk.length d1, .slice F2 m2 f2, .slice F3 m3 f3, .slice F4 m4 f4] 35)).alloc (.cells #[.int .i64 7, .int .i64 0, .int .i64 0, .int .i64 0, .int .i64 0, .int .i64 0, .int .i64 0, .int .i64 t] 104)) from Chg.trans ((Chg.refl Nowhere w2).alloc _) UA)
      have HU1 := Lib.hid (show w.heap.size ≤ w1.heap.size from U1.out.size)
      clear C0 UA
      have HMM := Lib.hid (fun (b : Nat) (h : New w1.heap.size w2.heap.size b ∨ New w1.heap.size w2.heap.size b ∨ New w1.heap.size w2.heap.size b) => (show b ≠ w2.heap.size from by rcases h with h | h | h <;> (have := h.2; omega)))
      have HDO := Lib.hid (l10Do_rack ((w2.alloc (.cells #[.int .i64 p.wd, .int .i64 p.rk, .slice B0 p.fr.length d0, .slice B1 p.bk.length d1, .slice F2 m2 f2, .slice F3 m3 f3, .slice F4 m4 f4] 35)).alloc (.cells #[.int .i64 7, .int .i64 0, .int .i64 0, .int .i64 0, .int .i64 0, .int .i64 0, .int .i64 0, .int .i64 t] 104)) (New w1.heap.size w2.heap.size) (New w1.heap.size w2.heap.size) (New w1.heap.size w2.heap.size) w2.heap.size (w2.heap.size + 1) p HF.out.1 HF.out.2.2 t HT.out B0 B1 d0 d1 a0.out a1.out a2.out a3.out ((show IntSSV w2 (New w1.heap.size w2.heap.size) (New w1.heap.size w2.heap.size) (New w1.heap.size w2.heap.size) _ _ from K0.out).up UA2.out) ((show IntSSV w2 (New w1.heap.size w2.heap.size) (New w1.heap.size w2.heap.size) (New w1.heap.size w2.heap.size) _ _ from K1.out).up UA2.out) y1.out (by omega) D0.out D7.out HMM.out)
      go_wp2_with fail
      refine HDO.out.mono ?_
      rintro e w4 ⟨v4, rfl, k4, g4⟩
      have K4 := Lib.hid k4
      have U4 := Lib.hid (show Up w w4 from Chg.new (Chg.trans U2.out UA2.out) g4 (fun i hi e => by have e : i = w2.heap.size := e; have := U2.out.size; omega))
      have hz4 := UA2.out.size
      clear g4 k4
      go_wp2
      go_ret2
      rw [HC.out, HO.out]
      exact ⟨_, rfl, K4.out.mono (fun b _ h => ⟨by have := h.1; have := U2.out.size; omega, h.2⟩), U4.out⟩
end Go.Proofs.Ytchfjglofmphfaa
end
