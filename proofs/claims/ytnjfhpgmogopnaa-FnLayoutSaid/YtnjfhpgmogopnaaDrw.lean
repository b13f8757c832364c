/- The reference's draw of stitches: it ends, with some list. No condition but room. -/
import Derived.Test.YtnjfhpgmogopnaaSrc
import Derived.Test.YtnjfhpgmogopnaaRow1
set_option linter.unusedSimpArgs false
set_option linter.unusedVariables false
set_option maxRecDepth 100000
set_option maxHeartbeats 2000000
namespace Go.Proofs.Ytnjfhpgmogopnaa
open Go.ChangeShapes Go.WideShapes Go.ChangeAt Go.RowKit
def muG (g : Nat → Nat) (L t seed : Nat) : Nat := if t < L then (L - t) + 1099511627777 else g seed
def GOk (g : Nat → Nat) : Prop := (∀ x, g x ≤ 1099511627776) ∧ ∀ x, bitL (lcgF x) = 1 → g (lcgF x) + 1 = g x
theorem muG_lt {g : Nat → Nat} {L t seed : Nat} (h : t < L) : muG g L t seed = (L - t) + 1099511627777 := by unfold muG; exact if_pos h
theorem muG_ge {g : Nat → Nat} {L t seed : Nat} (h : ¬ t < L) : muG g L t seed = g seed := by unfold muG; exact if_neg h
theorem mu_odd {g : Nat → Nat} (hg : GOk g) {L t seed x seed' : Nat} (h : L ≤ t → seed' = lcgF seed ∧ x % 2 = bitL seed') (hx : x % 2 = 1) : muG g L (t + 1) seed' < muG g L t seed := by
  have h1 := hg.1 seed'
  by_cases ht : t < L
  · have e1 := muG_lt (g := g) (seed := seed) ht
    by_cases ht2 : t + 1 < L
    · have e2 := muG_lt (g := g) (seed := seed') ht2
      omega
    · have e2 := muG_ge (g := g) (seed := seed') ht2
      omega
  · obtain ⟨hs, h2⟩ := h (by omega)
    have e1 := muG_ge (g := g) (seed := seed) ht
    have e2 := muG_ge (g := g) (L := L) (t := t + 1) (seed := seed') (by omega)
    have h3 := hg.2 seed (by rw [← hs]; omega)
    rw [← hs] at h3
    omega
theorem mu_any {g : Nat → Nat} (hg : GOk g) (L t seed seed' : Nat) : muG g L (t + 1) seed' ≤ muG g L t seed ∨ muG g L (t + 1) seed' ≤ 1099511627776 := by
  have h1 := hg.1 seed'
  by_cases ht2 : t + 1 < L
  · have e1 := muG_lt (g := g) (seed := seed) (show t < L by omega)
    have e2 := muG_lt (g := g) (seed := seed') ht2
    exact .inl (by omega)
  · have e2 := muG_ge (g := g) (seed := seed') ht2
    exact .inr (by omega)
theorem mu_le {g : Nat → Nat} (hg : GOk g) (L t seed : Nat) : muG g L t seed ≤ L + 1099511627777 := by
  have h1 := hg.1 seed
  by_cases ht : t < L
  · have e1 := muG_lt (g := g) (seed := seed) ht
    omega
  · have e1 := muG_ge (g := g) (seed := seed) ht
    omega
def rdT (w : World) (b : Nat) : Nat := match w.cell? ⟨b, 1, none⟩ with | some (.int _ x) => x.toNat | _ => 0
def rdS (w : World) (b : Nat) : Nat := match w.cell? ⟨b, 2, none⟩ with | some (.int _ x) => x.toNat | _ => 0
theorem SrcAt.rdT {w : World} {b : Nat} {A : Option Addr} {cp : Nat} {bs : List Nat} {t seed : Nat} (h : SrcAt w b A cp bs t seed) : Go.Proofs.Ytnjfhpgmogopnaa.rdT w b = t := by unfold Go.Proofs.Ytnjfhpgmogopnaa.rdT; rw [h.c1]; simp
theorem SrcAt.rdS {w : World} {b : Nat} {A : Option Addr} {cp : Nat} {bs : List Nat} {t seed : Nat} (h : SrcAt w b A cp bs t seed) : Go.Proofs.Ytnjfhpgmogopnaa.rdS w b = seed := by unfold Go.Proofs.Ytnjfhpgmogopnaa.rdS; rw [h.c2]; simp
def xs14 : List Int := [1, 1, 1, 2, 2, 3, 4, 5, 6, 7, 8, 9, 10, 11]
theorem pick14 (x : Nat) : (1 ≤ ixm xs14 (x % xs14.length) ∧ ixm xs14 (x % xs14.length) ≤ 11) ∧ (ixm xs14 (x % xs14.length) = 3 → x % 2 = 1) := by
  have h : ∀ y, y < 14 → (1 ≤ ixm xs14 y ∧ ixm xs14 y ≤ 11) ∧ (ixm xs14 y = 3 → y = 5) := by decide
  have e : xs14.length = 14 := rfl
  rw [e]
  obtain ⟨h1, h2⟩ := h (x % 14) (Nat.mod_lt _ (by omega))
  exact ⟨h1, fun h3 => by have := h2 h3; omega⟩
theorem kind_tm {k : Int} (h1 : 1 ≤ k) (h2 : k ≤ 11) (h3 : k ≠ 3) : 1 ≤ takenK k ∧ madeK k ≤ takenK k ∧ 1 ≤ madeK k ∧ takenK k ≤ 4 := by
  have : k = 1 ∨ k = 2 ∨ k = 4 ∨ k = 5 ∨ k = 6 ∨ k = 7 ∨ k = 8 ∨ k = 9 ∨ k = 10 ∨ k = 11 := by omega
  rcases this with rfl | rfl | rfl | rfl | rfl | rfl | rfl | rfl | rfl | rfl <;> decide
theorem list14 (w : World) : Ints (w.alloc (.cells #[.int .i64 1, .int .i64 1, .int .i64 1, .int .i64 2, .int .i64 2, .int .i64 3, .int .i64 4, .int .i64 5, .int .i64 6, .int .i64 7, .int .i64 8, .int .i64 9, .int .i64 10, .int .i64 11] 2)) (fun x => x = w.heap.size) (.slice (some ⟨w.heap.size, 0, none⟩) 14 14) xs14 :=
  Ints.of_cells (xs := xs14) rfl (by simp) (by decide) (by omega) (fun x hx => by
    have h : ∀ x ∈ xs14, (1 : Int) ≤ x ∧ x ≤ 11 := by decide
    have := h x hx
    unfold I64; omega) (fun t ht => by
    refine ⟨?_, frozen_new _ _ _ _⟩
    rw [cell_new]
    have h : ∀ t (ht : t < xs14.length), (#[Value.int .i64 1, Value.int .i64 1, Value.int .i64 1, Value.int .i64 2, Value.int .i64 2, Value.int .i64 3, Value.int .i64 4, Value.int .i64 5, Value.int .i64 6, Value.int .i64 7, Value.int .i64 8, Value.int .i64 9, Value.int .i64 10, Value.int .i64 11] : Array Value)[t]? = some (.int .i64 xs14[t]) := by
      intro t ht
      have ht2 : t < 14 := ht
      have : t = 0 ∨ t = 1 ∨ t = 2 ∨ t = 3 ∨ t = 4 ∨ t = 5 ∨ t = 6 ∨ t = 7 ∨ t = 8 ∨ t = 9 ∨ t = 10 ∨ t = 11 ∨ t = 12 ∨ t = 13 := by omega
      rcases this with rfl | rfl | rfl | rfl | rfl | rfl | rfl | rfl | rfl | rfl | rfl | rfl | rfl | rfl <;> rfl
    exact h t ht)
theorem Chg.later {T : Nat → Prop} {a b c : World} {S : Nat → Prop} (h : Chg T a b) (g : Chg S b c) (hS : ∀ i, i < a.heap.size → ¬ S i := by intro i hi h9; omega) : Chg T a c :=
  ⟨g.os.trans h.os, g.tape.trans h.tape, g.output.trans h.output, Nat.le_trans h.size g.size, fun i hi hn => (g.block i (Nat.lt_of_lt_of_le hi h.size) (hS i hi)).trans (h.block i hi hn)⟩
theorem l14Draw_any (w : World) (b : Nat) (A : Option Addr) (cp : Nat) (bs : List Nat) (t seed n : Nat) (h : SrcAt w b A cp bs t seed) (ht : t ≤ 1000) (hn : n ≤ 8) :
    Calls Try.prog 243 #[.pointer (some ⟨b, 0, none⟩), .int .i64 (n : Int)] w fun e w' => ∃ (v : Value) (xs : List Int) (t' seed' : Nat), e = .returned v ∧ OwnI w' w.heap.size v xs ∧ xs.length ≤ 24 ∧ SrcAt w' b A cp bs t' seed' ∧ t' ≤ 1152921504606846976 ∧ Chg (fun k => k = b) w w' := by
  obtain ⟨g, hg⟩ : ∃ g, Hid (GOk g) := by
    obtain ⟨g, h1, h2⟩ := lcg_fn
    exact ⟨g, Lib.hid ⟨h1, h2⟩⟩
  have hbw := h.lt
  have HAB : Hid (0 < bs.length → ∀ x, w.heap.size ≤ x → ∀ o, A ≠ some ⟨x, o, none⟩) := Lib.hid (fun hp x hx o hA => by
    obtain ⟨gb, go, hA2, -, hc⟩ := h.rd hp
    rw [hA] at hA2
    injection hA2 with hA3
    injection hA3 with hA4 _ _
    have := World.block_lt_of_cell? _ _ (hc 0 hp).1
    simp only [] at this
    omega)
  have hm0 := mu_le hg.out bs.length t seed
  have hbl := h.len
  obtain ⟨T0, hT0⟩ : ∃ T, T = t + 2 * ((2 * n + 8 - (0 + n)) * 1099511627778 + muG g bs.length t seed) := ⟨_, rfl⟩
  have hTB : T0 ≤ 1152921504606846976 := by omega
  have HS := Lib.hid h
  have HT0 := Lib.hid hT0
  clear h hm0 hT0
  go_enter Try.func243, Try.ntmps243
  go_wp2
  go_loopw [5, 6, 7] (fun q0 m0 l0 wr => ∃ (xs : List Int) (q : Value) (mk lf t' sd : Nat), q = q0 ∧ m0 = .int .i64 (mk : Int) ∧ l0 = .int .i64 (lf : Int) ∧ mk + lf ≤ 8 ∧ xs.length + (2 * lf + 8 - (mk + lf)) ≤ 24 ∧ Hid (t' + 2 * ((2 * lf + 8 - (mk + lf)) * 1099511627778 + muG g bs.length t' sd) ≤ T0) ∧ Hid (OwnI wr w.heap.size q xs) ∧ Hid (SrcAt wr b A cp bs t' sd) ∧ Hid (Chg (fun k => k = b) w wr)) (fun _ m0 l0 wr => (2 * (intOf l0).toNat + 8 - ((intOf m0).toNat + (intOf l0).toNat)) * 1099511627778 + muG g bs.length (rdT wr b) (rdS wr b))
  case atStart => exact ⟨[], _, 0, n, t, seed, rfl, rfl, rfl, by omega, by simp; omega, Lib.hid (by rw [HT0.out]; exact Nat.le_refl _), Lib.hid (OwnI.made w _ (Nat.le_refl _)), Lib.hid (HS.out.up ((Chg.refl _ _).alloc _)), Lib.hid ((Chg.refl _ _).alloc _)⟩
  case round =>
    obtain ⟨xs, q, mk, lf, t', sd, rfl, rfl, rfl, hml, hxl, ht0, hq, hs, hc⟩ := hrel
    obtain ⟨Aq, cq, rfl, hlq, hcq, -⟩ := hq.out.ints.shape
    by_cases hl : 0 < lf
    · have HV14 := Lib.hid (list14 wr)
      have hsz : w.heap.size ≤ wr.heap.size := hc.out.size
      have ht62 : t' < 4611686018427387904 := by have := ht0.out; omega
      have t0 : decide ((0 : Int) < (lf : Int)) = true := decide_eq_true (by omega)
      go_wp2_with fail
      refine (among_any _ b A cp bs t' sd (hs.out.up ((Chg.refl _ _).alloc _)) ht62 (fun x => x = wr.heap.size) _ xs14 HV14.out (fun x hx => by have hx : x = wr.heap.size := hx; omega) (by decide) (by decide)).mono ?_
      rintro e w1 ⟨x, sd1, rfl, hx, s1, g1, hl1⟩
      obtain ⟨hk11, hk3o⟩ := pick14 x
      obtain ⟨kd, hkd⟩ : ∃ k, k = ixm xs14 (x % xs14.length) := ⟨_, rfl⟩
      rw [← hkd] at hk11 hk3o ⊢
      have S1 := Lib.hid s1
      have HQ1 := Lib.hid ((hq.out.alloc ((.cells #[.int .i64 1, .int .i64 1, .int .i64 1, .int .i64 2, .int .i64 2, .int .i64 3, .int .i64 4, .int .i64 5, .int .i64 6, .int .i64 7, .int .i64 8, .int .i64 9, .int .i64 10, .int .i64 11] 2))).kept g1 (fun g hg h9 => by have := (hq.out.lt hg).1; have h9 : g = b := h9; omega))
      have HC1 := Lib.hid (show Chg (fun k => k = b) w w1 from Chg.trans (hc.out.alloc ((.cells #[.int .i64 1, .int .i64 1, .int .i64 1, .int .i64 2, .int .i64 2, .int .i64 3, .int .i64 4, .int .i64 5, .int .i64 6, .int .i64 7, .int .i64 8, .int .i64 9, .int .i64 10, .int .i64 11] 2))) g1)
      have HMO := Lib.hid (fun (hx : x % 2 = 1) => mu_odd hg.out hl1 hx)
      have HMA := Lib.hid (mu_any hg.out bs.length t' sd sd1)
      clear s1 g1 hl1 hkd
      by_cases hk3 : kd = 3
      · subst hk3
        have hodd := hk3o rfl
        have HM1 := Lib.hid (HMO.out hodd)
        by_cases hf : 8 ≤ mk + lf
        · have t1 : decide ((8 : Int) ≤ (mk : Int) + (lf : Int)) = true := decide_eq_true (by omega)
          go_wp2
          go_roundw
          case rel => exact ⟨xs, _, mk, lf, t' + 1, sd1, rfl, rfl, rfl, hml, hxl, Lib.hid (by have := ht0.out; have := HM1.out; omega), HQ1, S1, HC1⟩
          case measure => rw [S1.out.rdT, S1.out.rdS, hs.out.rdT, hs.out.rdS]; have := HM1.out; simp only [intOf]; omega
        · have t1 : decide ((8 : Int) ≤ (mk : Int) + (lf : Int)) = false := decide_eq_false (by omega)
          by_cases hg16 : 16 ≤ xs.length + lf
          · have t2 : decide ((16 : Int) ≤ (xs.length : Int) + (lf : Int)) = true := decide_eq_true (by omega)
            go_wp2
            go_roundw
            case rel => exact ⟨xs, _, mk, lf, t' + 1, sd1, rfl, rfl, rfl, hml, hxl, Lib.hid (by have := ht0.out; have := HM1.out; omega), HQ1, S1, HC1⟩
            case measure => rw [S1.out.rdT, S1.out.rdS, hs.out.rdT, hs.out.rdS]; have := HM1.out; simp only [intOf]; omega
          · have t2 : decide ((16 : Int) ≤ (xs.length : Int) + (lf : Int)) = false := decide_eq_false (by omega)
            have t3 : decide ((lf : Int) < 0) = false := decide_eq_false (by omega)
            have HTK := Lib.hid (fun (w : World) => (show Calls Try.prog 129 #[.int .i64 3] w fun e w' => e = .returned (.int .i64 ((0 : Nat) : Int)) ∧ Up w w' from sColumnsTaken_any 3 w))
            have HMK := Lib.hid (fun (w : World) => (show Calls Try.prog 131 #[.int .i64 3] w fun e w' => e = .returned (.int .i64 ((1 : Nat) : Int)) ∧ Up w w' from sColumnsMade_any 3 w))
            have HKI : Hid (I64 (3 : Int)) := Lib.hid (by unfold I64; omega)
            have HXL : Hid (xs.length ≤ 1099511627776) := Lib.hid (by omega)
            go_wp2_with (first
              | (go_at_call 129; refine (HTK.out _).mono ?_; rintro e w6 ⟨rfl, u6⟩; have U6 := Lib.hid (show Up w5 w6 from Chg.trans (by repeat (first | exact Chg.refl _ _ | apply Chg.drew | apply Chg.drewN | refine Chg.alloc ?_ _)) u6); have HO6 := Lib.hid (HO5.out.up U6.out); have HS6 := Lib.hid (HS5.out.up U6.out); have HC6 := Lib.hid (show Chg (fun k => k = b) w w6 from Chg.trans HC5.out (Chg.of_up U6.out)); clear u6)
              | (go_at_call 129; refine (HTK.out _).mono ?_; rintro e w2 ⟨rfl, u2⟩; have U2 := Lib.hid (show Up w1 w2 from Chg.trans (by repeat (first | exact Chg.refl _ _ | apply Chg.drew | apply Chg.drewN | refine Chg.alloc ?_ _)) u2); have HQ2 := Lib.hid (HQ1.out.up U2.out); have HS2 := Lib.hid (S1.out.up U2.out); have HC2 := Lib.hid (show Chg (fun k => k = b) w w2 from Chg.trans HC1.out (Chg.of_up U2.out)); clear u2)
              | (go_at_call 131; refine (HMK.out _).mono ?_; rintro e w7 ⟨rfl, u7⟩; have U7 := Lib.hid (show Up w6 w7 from Chg.trans (by repeat (first | exact Chg.refl _ _ | apply Chg.drew | apply Chg.drewN | refine Chg.alloc ?_ _)) u7); have HO7 := Lib.hid (HO6.out.up U7.out); have HS7 := Lib.hid (HS6.out.up U7.out); have HC7 := Lib.hid (show Chg (fun k => k = b) w w7 from Chg.trans HC6.out (Chg.of_up U7.out)); clear u7)
              | (at_builtin; refine wp_append_int rfl _ _ rfl w.heap.size _ xs rfl (HQ2.out.up (by repeat (first | exact Chg.refl _ _ | apply Chg.drew | apply Chg.drewN | refine Chg.alloc ?_ _))) _ 3 rfl (cell_new _ _ _ _) HKI.out HXL.out (by have := HC2.out.size; simp [World.size_alloc]; omega) ?_; intro v5 w5 ho5 _ g5; have HO5 := Lib.hid ho5; have HS5 := Lib.hid ((HS2.out.up (by repeat (first | exact Chg.refl _ _ | apply Chg.drew | apply Chg.drewN | refine Chg.alloc ?_ _))).keep g5 (fun h9 => by omega) (fun hp y _ hy o => HAB.out hp y hy o)); have HC5 := Lib.hid (show Chg (fun k => k = b) w w5 from Chg.later (Chg.trans HC2.out (by repeat (first | exact Chg.refl _ _ | apply Chg.drew | apply Chg.drewN | refine Chg.alloc ?_ _))) g5 (fun i hi h9 => by omega)); clear ho5 g5))
            go_roundw
            case rel => exact ⟨xs ++ [3], _, mk + 1, lf - 0, (t' + 1), sd1, rfl, by simp only [Value.int.injEq, true_and]; omega, by simp only [Value.int.injEq, true_and]; omega, by omega, by simp; omega, Lib.hid (by have := ht0.out; have := HMA.out; omega), HO7, HS7, HC7⟩
            case measure => rw [HS7.out.rdT, HS7.out.rdS, hs.out.rdT, hs.out.rdS]; have := HMA.out; simp only [intOf]; omega
      · have hk3b : (kd == 3) = false := by simpa using hk3
        obtain ⟨tk1, tk2, tk3, tk4⟩ := kind_tm hk11.1 hk11.2 hk3
        have hkb : kindB kd = true := decide_eq_true hk11
        obtain ⟨tn, htn⟩ : ∃ m : Nat, takenK kd = (m : Int) := Int.eq_ofNat_of_zero_le (by omega)
        obtain ⟨mn, hmn⟩ : ∃ m : Nat, madeK kd = (m : Int) := Int.eq_ofNat_of_zero_le (by omega)
        rw [htn] at tk1 tk2 tk4
        rw [hmn] at tk2 tk3
        have HTK := Lib.hid (fun (w : World) => (show Calls Try.prog 129 #[.int .i64 kd] w fun e w' => e = .returned (.int .i64 (tn : Int)) ∧ Up w w' from by
          have := sColumnsTaken_any kd w
          unfold takenOf at this
          rw [if_pos hkb, htn] at this
          exact this))
        have HMK := Lib.hid (fun (w : World) => (show Calls Try.prog 131 #[.int .i64 kd] w fun e w' => e = .returned (.int .i64 (mn : Int)) ∧ Up w w' from by
          have := sColumnsMade_any kd w
          unfold madeOf at this
          rw [if_pos hkb, hmn] at this
          exact this))
        have HKI : Hid (I64 kd) := Lib.hid (by unfold I64; omega)
        clear hkb htn hmn hk3 hk3o
        go_wp2_with fail
        refine (HTK.out _).mono ?_
        rintro e w2 ⟨rfl, u2⟩
        have HQ2 := Lib.hid (HQ1.out.up u2)
        have HS2 := Lib.hid (S1.out.up u2)
        have HC2 := Lib.hid (Chg.trans HC1.out (Chg.of_up u2))
        clear u2
        by_cases hgt : lf < tn
        · have t3 : decide ((lf : Int) < (tn : Int)) = true := decide_eq_true (by omega)
          go_wp2_with fail
          refine (pick_any _ b A cp bs (t' + 1) sd1 2 HS2.out (by have := ht0.out; omega) (by omega) (by omega)).mono ?_
          rintro e w3 ⟨x2, sd2, rfl, hx2, s3, g3, hl3⟩
          have HS3 := Lib.hid s3
          have HQ3 := Lib.hid (HQ2.out.kept g3 (fun g hg h9 => by have := (HQ2.out.lt hg).1; have h9 : g = b := h9; omega))
          have HC3 := Lib.hid (Chg.trans HC2.out g3)
          have HMB := Lib.hid (mu_any hg.out bs.length (t' + 1) sd1 sd2)
          have hy2 : x2 % 2 < 2 := Nat.mod_lt _ (by omega)
          obtain ⟨y, hy⟩ : ∃ y, y = x2 % 2 := ⟨_, rfl⟩
          rw [← hy] at hy2 ⊢
          have hy12 : (1 : Int) + (y : Int) = 1 ∨ (1 : Int) + (y : Int) = 2 := by omega
          have HTK := Lib.hid (fun (w : World) => (show Calls Try.prog 129 #[.int .i64 (1 + (y : Int))] w fun e w' => e = .returned (.int .i64 ((1 : Nat) : Int)) ∧ Up w w' from by
            rcases hy12 with e | e
            · rw [e]; exact sColumnsTaken_any 1 w
            · rw [e]; exact sColumnsTaken_any 2 w))
          have HMK := Lib.hid (fun (w : World) => (show Calls Try.prog 131 #[.int .i64 (1 + (y : Int))] w fun e w' => e = .returned (.int .i64 ((1 : Nat) : Int)) ∧ Up w w' from by
            rcases hy12 with e | e
            · rw [e]; exact sColumnsMade_any 1 w
            · rw [e]; exact sColumnsMade_any 2 w))
          have HKI : Hid (I64 (1 + (y : Int))) := Lib.hid (by unfold I64; omega)
          clear s3 g3 hl3 hy hy12 HQ2 HS2 HC2
          have HQ2 := HQ3
          have HS2 := HS3
          have HC2 := HC3
          have HXL : Hid (xs.length ≤ 1099511627776) := Lib.hid (by omega)
          go_wp2_with (first
            | (go_at_call 129; refine (HTK.out _).mono ?_; rintro e w6 ⟨rfl, u6⟩; have U6 := Lib.hid (show Up w5 w6 from Chg.trans (by repeat (first | exact Chg.refl _ _ | apply Chg.drew | apply Chg.drewN | refine Chg.alloc ?_ _)) u6); have HO6 := Lib.hid (HO5.out.up U6.out); have HS6 := Lib.hid (HS5.out.up U6.out); have HC6 := Lib.hid (show Chg (fun k => k = b) w w6 from Chg.trans HC5.out (Chg.of_up U6.out)); clear u6)
            | (go_at_call 131; refine (HMK.out _).mono ?_; rintro e w7 ⟨rfl, u7⟩; have U7 := Lib.hid (show Up w6 w7 from Chg.trans (by repeat (first | exact Chg.refl _ _ | apply Chg.drew | apply Chg.drewN | refine Chg.alloc ?_ _)) u7); have HO7 := Lib.hid (HO6.out.up U7.out); have HS7 := Lib.hid (HS6.out.up U7.out); have HC7 := Lib.hid (show Chg (fun k => k = b) w w7 from Chg.trans HC6.out (Chg.of_up U7.out)); clear u7)
            | (at_builtin; refine wp_append_int rfl _ _ rfl w.heap.size _ xs rfl (HQ2.out.up (by repeat (first | exact Chg.refl _ _ | apply Chg.drew | apply Chg.drewN | refine Chg.alloc ?_ _))) _ (1 + (y : Int)) rfl (cell_new _ _ _ _) HKI.out HXL.out (by have := HC2.out.size; simp [World.size_alloc]; omega) ?_; intro v5 w5 ho5 _ g5; have HO5 := Lib.hid ho5; have HS5 := Lib.hid ((HS2.out.up (by repeat (first | exact Chg.refl _ _ | apply Chg.drew | apply Chg.drewN | refine Chg.alloc ?_ _))).keep g5 (fun h9 => by omega) (fun hp y _ hy o => HAB.out hp y hy o)); have HC5 := Lib.hid (show Chg (fun k => k = b) w w5 from Chg.later (Chg.trans HC2.out (by repeat (first | exact Chg.refl _ _ | apply Chg.drew | apply Chg.drewN | refine Chg.alloc ?_ _))) g5 (fun i hi h9 => by omega)); clear ho5 g5))
          go_roundw
          case rel => exact ⟨xs ++ [(1 + (y : Int))], _, mk + 1, lf - 1, (t' + 1 + 1), sd2, rfl, by simp only [Value.int.injEq, true_and]; omega, by simp only [Value.int.injEq, true_and]; omega, by omega, by simp; omega, Lib.hid (by have := ht0.out; have := HMA.out; have := HMB.out; omega), HO7, HS7, HC7⟩
          case measure => rw [HS7.out.rdT, HS7.out.rdS, hs.out.rdT, hs.out.rdS]; have := HMA.out; have := HMB.out; simp only [intOf]; omega
        · have t3 : decide ((lf : Int) < (tn : Int)) = false := decide_eq_false (by omega)
          have HXL : Hid (xs.length ≤ 1099511627776) := Lib.hid (by omega)
          go_wp2_with (first
            | (go_at_call 129; refine (HTK.out _).mono ?_; rintro e w6 ⟨rfl, u6⟩; have U6 := Lib.hid (show Up w5 w6 from Chg.trans (by repeat (first | exact Chg.refl _ _ | apply Chg.drew | apply Chg.drewN | refine Chg.alloc ?_ _)) u6); have HO6 := Lib.hid (HO5.out.up U6.out); have HS6 := Lib.hid (HS5.out.up U6.out); have HC6 := Lib.hid (show Chg (fun k => k = b) w w6 from Chg.trans HC5.out (Chg.of_up U6.out)); clear u6)
            | (go_at_call 131; refine (HMK.out _).mono ?_; rintro e w7 ⟨rfl, u7⟩; have U7 := Lib.hid (show Up w6 w7 from Chg.trans (by repeat (first | exact Chg.refl _ _ | apply Chg.drew | apply Chg.drewN | refine Chg.alloc ?_ _)) u7); have HO7 := Lib.hid (HO6.out.up U7.out); have HS7 := Lib.hid (HS6.out.up U7.out); have HC7 := Lib.hid (show Chg (fun k => k = b) w w7 from Chg.trans HC6.out (Chg.of_up U7.out)); clear u7)
            | (at_builtin; refine wp_append_int rfl _ _ rfl w.heap.size _ xs rfl (HQ2.out.up (by repeat (first | exact Chg.refl _ _ | apply Chg.drew | apply Chg.drewN | refine Chg.alloc ?_ _))) _ kd rfl (cell_new _ _ _ _) HKI.out HXL.out (by have := HC2.out.size; simp [World.size_alloc]; omega) ?_; intro v5 w5 ho5 _ g5; have HO5 := Lib.hid ho5; have HS5 := Lib.hid ((HS2.out.up (by repeat (first | exact Chg.refl _ _ | apply Chg.drew | apply Chg.drewN | refine Chg.alloc ?_ _))).keep g5 (fun h9 => by omega) (fun hp y _ hy o => HAB.out hp y hy o)); have HC5 := Lib.hid (show Chg (fun k => k = b) w w5 from Chg.later (Chg.trans HC2.out (by repeat (first | exact Chg.refl _ _ | apply Chg.drew | apply Chg.drewN | refine Chg.alloc ?_ _))) g5 (fun i hi h9 => by omega)); clear ho5 g5))
          go_roundw
          case rel => exact ⟨xs ++ [kd], _, mk + mn, lf - tn, (t' + 1), sd1, rfl, by simp only [Value.int.injEq, true_and]; omega, by simp only [Value.int.injEq, true_and]; omega, by omega, by simp; omega, Lib.hid (by have := ht0.out; have := HMA.out; omega), HO7, HS7, HC7⟩
          case measure => rw [HS7.out.rdT, HS7.out.rdS, hs.out.rdT, hs.out.rdS]; have := HMA.out; simp only [intOf]; omega
    · obtain rfl : lf = 0 := by omega
      have t0 : decide ((0 : Int) < ((0 : Nat) : Int)) = false := rfl
      go_wp2
      go_ret
      exact ⟨_, xs, t', sd, rfl, hq.out, by omega, hs.out, by have := ht0.out; omega, hc.out⟩
end Go.Proofs.Ytnjfhpgmogopnaa
