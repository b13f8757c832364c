/- The reference's blocks of events. No condition. -/
import Derived.Test.YtplabnjdhkmmkaaBlN
import Derived.Test.YtplabnjdhkmmkaaEvW
import Derived.Deep.RegionHeld3
set_option maxRecDepth 100000
set_option maxHeartbeats 4000000
set_option linter.unusedSimpArgs false
set_option linter.unusedVariables false
namespace Go.Proofs.Ytplabnjdhkmmkaa
open Go.ChangeShapes Go.WideShapes Go.ChangeAt Go.RowKit
theorem l13Blocks_any (w : World) (S : Nat → Prop) (vx : Value) (xs : List EvM) (m : Int) (h : Evs w S vx xs) (hS : ∀ b, S b → b < w.heap.size) (hv : stM xs 0 = some m) (hl : xs.length ≤ 100000) :
    Calls Try.prog 75 #[vx] w fun e w' => BlkRes w w' e (blkR xs 0 [] [⟨0, [], []⟩]) ∧ Up w w' := by
  obtain ⟨Ax, cx, rfl, -, -, -⟩ := h.shape
  have H := Lib.hid h
  have HS := Lib.hid hS
  have HV := Lib.hid hv
  obtain ⟨B, hB⟩ : ∃ x, x = blkR xs 0 [] [⟨0, [], []⟩] := ⟨_, rfl⟩
  rw [← hB]
  have HB := Lib.hid hB
  clear h hS hv hB
  go_enter Try.func75, Try.ntmps75
  go_wp2_with fail
  have HC0 := Lib.hid ((BCore.lit w w.heap.size (Nat.le_refl _)).up ((Chg.refl Nowhere (w.alloc (.cells #[.int .i64 0, .slice none 0 0, .slice none 0 0] 98))).alloc (.cells #[] 2)))
  have HO0 := Lib.hid (show OwnI ((w.alloc (.cells #[.int .i64 0, .slice none 0 0, .slice none 0 0] 98)).alloc (.cells #[] 2)) w.heap.size (.slice (some ⟨w.heap.size + 1, 0, none⟩) 0 0) [] from by have h := OwnI.made (w.alloc (.cells #[.int .i64 0, .slice none 0 0, .slice none 0 0] 98)) w.heap.size (by simp); simpa using h)
  go_loopw [4, 5, 6, 7] (fun v sn wv i wr => ∃ (j : Nat) (n : Int) (word : List Int) (bs : List BlkM) (cs : List Value) (q : Nat → Option Nat) (Q : Nat → Prop), i = .int .i64 (j : Int) ∧ sn = .int .i64 n ∧ Hid (BCore wr w.heap.size v bs cs q Q) ∧ Hid (OwnI wr w.heap.size wv (redM word)) ∧ Hid (∀ b, wv.ownBlock = some b → ¬ BK v bs.length q Q b) ∧ Hid (Chg (fun b => w.heap.size ≤ b) w wr) ∧ Hid (1 ≤ bs.length ∧ bs.length ≤ j + 1) ∧ Hid (∀ b ∈ bs, b.st.length ≤ j) ∧ Hid (j ≤ xs.length ∧ blkR (xs.drop j) n word bs = B ∧ stM (xs.take j) 0 = some n ∧ (0 ≤ n ∧ n ≤ 12) ∧ LettN n.toNat word ∧ word.length ≤ j)) (fun _ _ _ i _ => xs.length + 1 - (intOf i).toNat)
  case atStart => exact ⟨0, 0, [], _, _, _, _, rfl, rfl, HC0, HO0, Lib.hid (fun b e hb => by injection e with e; have e : w.heap.size + 1 = b := e; exact hb.elim (fun hb => by injection hb with hb; have hb : w.heap.size = b := hb; omega) (fun hb => hb.elim id (fun ⟨i, _, hb⟩ => by cases hb))), Lib.hid (((Chg.refl _ _).alloc _).alloc _), Lib.hid ⟨Nat.le_refl _, by simp⟩, Lib.hid (fun b hb => by rw [List.mem_singleton.1 hb]; exact Nat.zero_le _), Lib.hid ⟨by omega, by rw [List.drop_zero]; exact HB.out.symm, rfl, by omega, fun x hx => by simp at hx, by simp⟩⟩
  case round =>
    obtain ⟨j, n, word, bs, cs, q, Q, rfl, rfl, hc, ho, hb, hg, hlen, hstj, hf⟩ := hrel
    obtain ⟨Av, cv, hv, -, -, -⟩ := hc.out.val
    subst hv
    obtain ⟨R, hR⟩ : ∃ x, x = redM word := ⟨_, rfl⟩
    rw [← hR] at ho
    have HR := Lib.hid hR
    obtain ⟨Aw, cw, hw, -, -, -⟩ := ho.out.ints.shape
    subst hw
    have HE := Lib.hid (H.out.keep hg.out (fun b _ hs => by have := HS.out b hs; show ¬ w.heap.size ≤ b; omega))
    have HUP := Lib.hid (show Up w wr from Chg.new (Chg.refl _ _) hg.out (fun i hi e => by have e : w.heap.size ≤ i := e; omega))
    obtain ⟨hj, -, -, ⟨hn0, hn1⟩, -, -⟩ := hf.out
    have HBN := Lib.hid hf.out.2.1
    obtain ⟨nn, rfl⟩ : ∃ nn : Nat, n = (nn : Int) := ⟨n.toNat, by omega⟩
    have HLN := Lib.hid (show LettN nn word by have := hf.out.2.2.2.2.1; rwa [Int.toNat_natCast] at this)
    have HLR := Lib.hid (show LettN nn R by rw [hR]; exact HLN.out.red)
    have hn12 : nn ≤ 12 := by omega
    have HWL := Lib.hid (show word.length ≤ 100000 by have := hf.out.2.2.2.2.2; omega)
    have HRL := Lib.hid (show R.length ≤ 100000 by have := redM_len word; rw [hR]; have := HWL.out; omega)
    have HRL3 := Lib.hid (show R.length + 1 ≤ 100000 ∨ j = xs.length by have := redM_len word; rw [hR]; have := hf.out.2.2.2.2.2; omega)
    have HRD := Lib.hid (show Ints wr _ (.slice Aw R.length cw) R from ho.out.rd)
    have hsz := hg.out.size
    clear hR
    by_cases hlt : j < xs.length
    · obtain ⟨b1, o1, c1', hx1, hs1, -, hcells⟩ := HE.out.at_ hlt
      obtain ⟨e1, e2, e3⟩ := stM_at HV.out hlt hf.out.2.2.1
      have HXO := Lib.hid (H.out.2 _ (List.getElem_mem hlt))
      have HCR := Lib.hid (fun (hk : xs[j].kind = 1) => blkR_cross (n := (nn : Int)) (word := word) (bs := bs) hlt hk)
      have HST := Lib.hid (fun (hk : xs[j].kind ≠ 1) (h40 : ¬ 40 < (redM word).length) => blkR_step (n := (nn : Int)) (word := word) (bs := bs) hlt hk h40)
      have HAF := Lib.hid (fun (hk : xs[j].kind ≠ 1) => (show atFlush xs j from .inr ⟨hlt, hk⟩))
      obtain ⟨x, hxe⟩ : ∃ x, x = xs[j] := ⟨_, rfl⟩
      rw [← hxe] at e1 e2 e3 HXO HCR HST HAF hcells
      have f0 := (hcells 0 _ rfl).1
      have f1 := (hcells 1 _ rfl).1
      have f2 := (hcells 2 _ rfl).1
      have f3 := (hcells 3 _ rfl).1
      have f4 := (hcells 4 _ rfl).1
      have f5 := (hcells 5 _ rfl).1
      rw [Nat.add_zero] at f0
      injection hx1 with hA hL hC
      obtain rfl := hA
      have HEO := Lib.hid e1
      have HN1 := Lib.hid (And.intro (evAfter_bd e1 ⟨hn0, hn1⟩) e2)
      have HSN := Lib.hid e3
      have hjl : (j : Int) < (xs.length : Int) := by omega
      have hj0 : (0 : Int) ≤ (j : Int) := by omega
      have hjt : decide ((j : Int) < (xs.length : Int)) = true := decide_eq_true hjl
      clear e1 e2 e3 hxe hL hC hcells
      go_upto_region 8 with fail
      obtain ⟨we, hwe⟩ : ∃ z, z = wr.alloc (.cells #[.int .i64 x.kind, .int .i64 x.place, .int .i64 x.count, .int .i64 x.bed, .int .i64 x.car, .int .i64 x.dir] 92) := ⟨_, rfl⟩
      obtain ⟨eb, heb⟩ : ∃ z, z = wr.heap.size := ⟨_, rfl⟩
      have FE0 := Lib.hid (show CellF we ⟨eb, 0, none⟩ (.int .i64 x.kind) by rw [hwe]; exact cellF_at heb rfl)
      have FE1 := Lib.hid (show CellF we ⟨eb, 1, none⟩ (.int .i64 x.place) by rw [hwe]; exact cellF_at heb rfl)
      have FE2 := Lib.hid (show CellF we ⟨eb, 2, none⟩ (.int .i64 x.count) by rw [hwe]; exact cellF_at heb rfl)
      have FE3 := Lib.hid (show CellF we ⟨eb, 3, none⟩ (.int .i64 x.bed) by rw [hwe]; exact cellF_at heb rfl)
      have FE4 := Lib.hid (show CellF we ⟨eb, 4, none⟩ (.int .i64 x.car) by rw [hwe]; exact cellF_at heb rfl)
      have FE5 := Lib.hid (show CellF we ⟨eb, 5, none⟩ (.int .i64 x.dir) by rw [hwe]; exact cellF_at heb rfl)
      have UE := Lib.hid (show Up wr we by rw [hwe]; exact (Chg.refl _ _).alloc _)
      have HEB := Lib.hid (show eb = wr.heap.size ∧ we.heap.size = wr.heap.size + 1 ∧ w.heap.size ≤ wr.heap.size by rw [hwe]; exact ⟨heb, by simp, hsz⟩)
      try simp only []
      rw [← hwe, ← heb]
      clear hwe heb hsz f0 f1 f2 f3 f4 f5
      by_cases hk : x.kind = 1
      · obtain ⟨⟨l1, l2⟩, l3, l4, l5⟩ := evLet_ok HEO.out hk ⟨hn0, hn1⟩
        have f0 := FE0.out.1
        have f1 := FE1.out.1
        have f2 := FE2.out.1
        rw [hk] at f0
        have HLX := Lib.hid (And.intro l1 l2)
        have wp1 : IntKind.i64.wrap (x.place + 1) = x.place + 1 := IntWalk.i64_in _ (by omega)
        have wm : IntKind.i64.wrap (x.count * (x.place + 1)) = evLet x := by show _ = x.count * (x.place + 1); exact IntWalk.i64_in _ (by rcases l3 with e | e <;> rw [e] <;> omega)
        have HIL := Lib.hid (show I64 (evLet x) by unfold I64; omega)
        have HRL2 := Lib.hid (show R.length ≤ 1099511627776 by have := HRL.out; omega)
        have HRC := Lib.hid (HCR.out hk)
        have HSN2 := Lib.hid (show stM (xs.take (j + 1)) 0 = some (nn : Int) by rw [HSN.out, evAfter_cross hk])
        clear l1 l2 l3 l4 l5 hk
        go_wp2_with (at_builtin; refine wp_append_int2 rfl _ _ rfl w.heap.size _ R rfl (ho.out.up (Chg.trans UE.out ((Chg.refl _ _).alloc _))) we.heap.size (evLet x) rfl (by rw [cell_new]; rfl) HIL.out HRL2.out (by have := HEB.out; simp; omega) ?_; intro v' w' h1 h2 h3 h4; have HO := Lib.hid h1.ints; have HOC := Lib.hid (show Chg (fun b => (Value.slice Aw R.length cw).ownBlock = some b) wr w' from Chg.trans (Chg.of_up (Chg.trans UE.out ((Chg.refl _ _).alloc _))) h2); clear h1 h2 h3 h4)
        refine (l03ReduceI_any _ _ _ (R ++ [evLet x]) (HO.out.up (by repeat (first | exact Chg.refl _ _ | apply Chg.drew | apply Chg.drewN | refine Chg.alloc ?_ _))) (by have := HRL3.out.resolve_right (by omega); simp; omega) (fun y hy => (List.mem_append.1 hy).elim (fun h => by have := HLR.out y h; omega) (fun h => by rw [List.mem_singleton.1 h]; have := HLX.out; omega))).mono ?_
        rintro e w1 ⟨v1, rfl, k1, g1⟩
        have G1 := Lib.hid (show Up w' w1 from Chg.trans (by repeat (first | exact Chg.refl _ _ | apply Chg.drew | apply Chg.drewN | refine Chg.alloc ?_ _)) g1)
        have HRX := Lib.hid (show redM (R ++ [evLet x]) = redM (word ++ [evLet x]) by rw [HR.out]; exact redM_more _ _)
        rw [HRX.out] at k1
        have HZ := Lib.hid (show wr.heap.size ≤ w'.heap.size from HOC.out.size)
        have K1 := Lib.hid k1
        clear g1 k1
        have HC1 := Lib.hid ((hc.out.keep HOC.out (fun b _ hk e => hb.out b e hk)).up G1.out)
        have HB1 := Lib.hid (show ∀ b, v1.ownBlock = some b → ¬ BK (.slice Av bs.length cv) bs.length q Q b from fun b e hk => by have h1 := (K1.out.lt e).1; have := (hc.out.lt hk).2; have := HZ.out; (try simp at h1); omega)
        have HG1 := Lib.hid (show Chg (fun b => w.heap.size ≤ b) w w1 from Chg.trans hg.out (Chg.trans (HOC.out.mono (fun b _ e => (ho.out.lt e).1)) (Chg.of_up G1.out)))
        have HK1 := Lib.hid (show OwnI w1 w.heap.size v1 (redM (word ++ [evLet x])) from K1.out.more (by have := HZ.out; have := HEB.out; simp; omega))
        have HF1 := Lib.hid (show j + 1 ≤ xs.length ∧ blkR (xs.drop (j + 1)) (nn : Int) (word ++ [evLet x]) bs = B ∧ stM (xs.take (j + 1)) 0 = some (nn : Int) ∧ (0 ≤ (nn : Int) ∧ (nn : Int) ≤ 12) ∧ LettN (nn : Int).toNat (word ++ [evLet x]) ∧ (word ++ [evLet x]).length ≤ j + 1 from ⟨hlt, by rw [← HRC.out]; exact HBN.out, HSN2.out, ⟨hn0, hn1⟩, fun y hy => (List.mem_append.1 hy).elim (hf.out.2.2.2.2.1 y) (fun hy => by rw [List.mem_singleton.1 hy]; exact HLX.out), by have := hf.out.2.2.2.2.2; simp; omega⟩)
        go_wp2
        go_roundw
        case rel => exact ⟨j + 1, (nn : Int), word ++ [evLet x], bs, cs, q, Q, by go_num, rfl, HC1, HK1, HB1, HG1, Lib.hid (by have := hlen.out; omega), Lib.hid (fun b h => Nat.le_succ_of_le (hstj.out b h)), HF1⟩
        case measure => first | (simp [intOf]; done) | (simp [intOf]; omega)
      have f0 := FE0.out.1
      have hk2 : (x.kind == 1) = false := by simpa using hk
      by_cases h40 : 40 < R.length
      · have hgt : decide ((R.length : Int) > 40) = true := decide_eq_true (by omega)
        go_wp2
        go_ret2
        exact ⟨by rw [← HBN.out, blkR_big (HAF.out hk) (by rw [← HR.out]; exact h40)]; rfl, Chg.trans HUP.out (Chg.trans UE.out (by repeat (first | exact Chg.refl _ _ | apply Chg.drew | apply Chg.drewN | refine Chg.alloc ?_ _)))⟩
      have hgt : decide ((R.length : Int) > 40) = false := decide_eq_false (by omega)
      have H40 := Lib.hid h40
      clear h40
      go_wp2_with fail
      refine (l04EqualNil_any _ _ _ nn R (HRD.out.up (Chg.trans UE.out (by repeat (first | exact Chg.refl _ _ | apply Chg.drew | apply Chg.drewN | refine Chg.alloc ?_ _)))) HLR.out hn12 HRL.out).mono ?_
      rintro e w1 ⟨rfl, g1⟩
      have G1 := Lib.hid (show Up we w1 from Chg.trans (by repeat (first | exact Chg.refl _ _ | apply Chg.drew | apply Chg.drewN | refine Chg.alloc ?_ _)) g1)
      have HU1 := Lib.hid (show Up wr w1 from Chg.trans UE.out G1.out)
      clear g1
      cases htr : trivB nn R with
      | true =>
        obtain ⟨FB, hFBe⟩ : ∃ x, x = bs := ⟨_, rfl⟩
        have HFB := Lib.hid (show flushM (nn : Int) word bs = FB by rw [hFBe]; exact flushM_yes (by rw [Int.toNat_natCast, ← HR.out]; exact htr))
        have HC2 := Lib.hid (hc.out.up HU1.out)
        have HG2 := Lib.hid (show Chg (fun b => w.heap.size ≤ b) w w1 from Chg.trans hg.out (Chg.of_up HU1.out))
        have HL2 := Lib.hid (show 1 ≤ bs.length ∧ bs.length ≤ j + 2 by have := hlen.out; omega)
        obtain ⟨cs2, hcs⟩ : ∃ x, x = cs := ⟨_, rfl⟩
        obtain ⟨q2, hq⟩ : ∃ x, x = q := ⟨_, rfl⟩
        obtain ⟨Q2, hQ⟩ : ∃ x, x = Q := ⟨_, rfl⟩
        have HSTJ := hstj
        rw [← hcs, ← hq, ← hQ] at HC2
        have HNE := Lib.hid (show ¬ BK (.slice Av bs.length cv) bs.length q2 Q2 eb from fun e => by rw [hq, hQ] at e; have := (hc.out.lt e).2; have := HEB.out; omega)
        have HCE := Lib.hid (show Chg (fun b => (Value.slice Av bs.length cv).ownBlock = some b) we w1 from Chg.of_up G1.out)
        skip
        rw [← hFBe] at HC2 HL2 HSTJ HNE ⊢
        clear hcs hq hQ hFBe
        go_upto_region 15 with fail
        obtain ⟨wq, hwq⟩ : ∃ z, z = w1.alloc (.cells #[] 2) := ⟨_, rfl⟩
        obtain ⟨nb, hnb⟩ : ∃ z, z = w1.heap.size := ⟨_, rfl⟩
        have HWZ := Lib.hid (show w.heap.size ≤ w1.heap.size from HG2.out.size)
        have UQ := Lib.hid (show Up w1 wq by rw [hwq]; exact (Chg.refl _ _).alloc _)
        have HOQ := Lib.hid (show OwnI wq w.heap.size (.slice (some ⟨nb, 0, none⟩) 0 0) [] by rw [hwq, hnb]; exact OwnI.made _ _ HWZ.out)
        have HCQ := Lib.hid (HC2.out.up UQ.out)
        have HQZ := Lib.hid (show w1.heap.size = nb ∧ wq.heap.size = nb + 1 ∧ w.heap.size ≤ nb by rw [hwq]; have := HWZ.out; exact ⟨hnb.symm, by simp [hnb], by omega⟩)
        have HLB := Lib.hid (fun (b : Nat) (hb : BK (.slice Av FB.length cv) FB.length q2 Q2 b) => (show w.heap.size ≤ b ∧ b < nb from by have := HC2.out.lt hb; have := HQZ.out; omega))
        have NBE : ¬ ((Value.slice Av bs.length cv).ownBlock = some eb) := fun e => by have := (hc.out.lt (.inl e)).2; have := HEB.out; omega
        have FQ0 := Lib.hid (CellF.up UQ.out (CellF.chg FE0.out HCE.out NBE))
        have FQ1 := Lib.hid (CellF.up UQ.out (CellF.chg FE1.out HCE.out NBE))
        have FQ2 := Lib.hid (CellF.up UQ.out (CellF.chg FE2.out HCE.out NBE))
        have FQ3 := Lib.hid (CellF.up UQ.out (CellF.chg FE3.out HCE.out NBE))
        have FQ4 := Lib.hid (CellF.up UQ.out (CellF.chg FE4.out HCE.out NBE))
        have FQ5 := Lib.hid (CellF.up UQ.out (CellF.chg FE5.out HCE.out NBE))
        try simp only []
        rw [← hwq, ← hnb]
        clear hwq hnb NBE
        have hk0 : xs.length = xs.length := rfl
        have HST2 := Lib.hid (HST.out hk (by rw [← HR.out]; exact H40.out))
        rw [HFB.out] at HST2
        obtain ⟨i0, hi0⟩ : ∃ i0, FB.length = i0 + 1 := ⟨FB.length - 1, by have := HL2.out; omega⟩
        have hil : i0 < FB.length := by omega
        obtain ⟨fb, g, cg, As, ks, hfb, hvg, hgb, T2, Z2, o2, hq2⟩ := HCQ.out.at2 hil
        injection hvg with hA2 hL2 hC2
        obtain rfl := hA2
        have HO2 := Lib.hid o2
        have HQ2 := Lib.hid hq2
        have HGB := Lib.hid (show w.heap.size ≤ g ∧ g < nb from HLB.out g (.inl rfl))
        have HIL := Lib.hid hil
        have HI0 := Lib.hid hi0
        have HSL := Lib.hid (show fb.st.length ≤ 1000000 by rw [hfb]; have := HSTJ.out _ (List.getElem_mem hil); omega)
        have HFBE := Lib.hid hfb
        clear hfb
        have wq0 : IntKind.i64.wrap ((FB.length : Int) - 1) = (FB.length : Int) - 1 := IntWalk.i64_in _ (by have := HL2.out; omega)
        have hq0 : (0 : Int) ≤ (FB.length : Int) - 1 := by omega
        have hqn : ((FB.length : Int) - 1).toNat = i0 := by omega
        have hql : (FB.length : Int) - 1 < (FB.length : Int) := by omega
        clear hgb o2 hq2 hL2 hC2 hi0
        go_upto_region 16 with fail
        have f0 := FQ0.out.1
        have p0 := Chg.cell ((Chg.refl Nowhere wq).alloc (.cells #[.int .i64 x.kind, .int .i64 x.place, .int .i64 x.count, .int .i64 x.bed, .int .i64 x.car, .int .i64 x.dir] 92)) f0 id
        have f1 := FQ1.out.1
        have p1 := Chg.cell ((Chg.refl Nowhere wq).alloc (.cells #[.int .i64 x.kind, .int .i64 x.place, .int .i64 x.count, .int .i64 x.bed, .int .i64 x.car, .int .i64 x.dir] 92)) f1 id
        have f2 := FQ2.out.1
        have p2 := Chg.cell ((Chg.refl Nowhere wq).alloc (.cells #[.int .i64 x.kind, .int .i64 x.place, .int .i64 x.count, .int .i64 x.bed, .int .i64 x.car, .int .i64 x.dir] 92)) f2 id
        have f3 := FQ3.out.1
        have p3 := Chg.cell ((Chg.refl Nowhere wq).alloc (.cells #[.int .i64 x.kind, .int .i64 x.place, .int .i64 x.count, .int .i64 x.bed, .int .i64 x.car, .int .i64 x.dir] 92)) f3 id
        have f4 := FQ4.out.1
        have p4 := Chg.cell ((Chg.refl Nowhere wq).alloc (.cells #[.int .i64 x.kind, .int .i64 x.place, .int .i64 x.count, .int .i64 x.bed, .int .i64 x.car, .int .i64 x.dir] 92)) f4 id
        have f5 := FQ5.out.1
        have p5 := Chg.cell ((Chg.refl Nowhere wq).alloc (.cells #[.int .i64 x.kind, .int .i64 x.place, .int .i64 x.count, .int .i64 x.bed, .int .i64 x.car, .int .i64 x.dir] 92)) f5 id
        have T3 := Chg.cell ((Chg.refl Nowhere wq).alloc (.cells #[.int .i64 x.kind, .int .i64 x.place, .int .i64 x.count, .int .i64 x.bed, .int .i64 x.car, .int .i64 x.dir] 92)) T2 id
        go_region_law (refine step_append1EvsB rfl (.tmp 61) (.tmp 63) rfl w.heap.size (.slice As fb.st.length ks) fb.st (by simp [Act.eval, Act.put]) (HO2.out.up (by repeat (first | exact Chg.refl _ _ | apply Chg.drew | apply Chg.drewN | refine Chg.alloc ?_ _))) wq.heap.size x (by simp [Act.eval, Act.put]) (heap_alloc_new _ _) HXO.out HSL.out (by have := HQZ.out; simp; omega) ?_; intro v' w' h1 h2 h3; obtain ⟨s5, hs5⟩ : ∃ z, z = fb.st ++ [x] := ⟨_, rfl⟩; rw [← hs5] at h1; have HS5 := Lib.hid hs5; clear hs5; obtain ⟨A8, c8, rfl, -⟩ := h1.val; have HOV := Lib.hid h1; have HCV := Lib.hid (show Chg (fun b => q2 i0 = some b) wq w' from Chg.trans (by repeat (first | exact Chg.refl _ _ | apply Chg.drew | apply Chg.drewN | refine Chg.alloc ?_ _)) (h2.mono (fun b _ e => HQ2.out.symm.trans e))); have HBV := Lib.hid (show ∀ b, (Value.slice A8 s5.length c8).ownBlock = some b → q2 i0 = some b ∨ wq.heap.size ≤ b from fun b e => (h3 b e).imp (fun e => HQ2.out.symm.trans e) (fun h => by simp at h; omega)); obtain ⟨q1c, q1f⟩ := CellF.chg (show CellF wq ⟨g, i0 * 3 + 2, none⟩ _ from ⟨T2, Z2⟩) HCV.out (fun e => (HCQ.out.qv i0 g HIL.out e).1 rfl); clear h1 h2 h3)
        all_goals
          have HP := Lib.hid (HCQ.out.put HIL.out rfl HCV.out HOV.out HBV.out)
          have HAD := Lib.hid (show FB.set i0 ⟨(FB[i0]'HIL.out).n, (FB[i0]'HIL.out).word, s5⟩ = addLast FB x by rw [HS5.out, HFBE.out]; exact addLast_set HI0.out x)
          have CY := Lib.hid (show Chg (fun b => q2 i0 = some b ∨ b = g) wq (w'.setCell ⟨g, i0 * 3 + 2, none⟩ (.slice A8 s5.length c8)) from Chg.trans (HCV.out.mono (fun b _ e => .inl e)) (HP.out.2.mono (fun b _ e => .inr e)))
          have CZ := Lib.hid (show Chg (fun b => w.heap.size ≤ b) wq (w'.setCell ⟨g, i0 * 3 + 2, none⟩ (.slice A8 s5.length c8)) from CY.out.mono (fun b _ e => e.elim (fun e => (HLB.out b (.inr (.inr ⟨i0, HIL.out, e⟩))).1) (fun e => by have := HGB.out; omega)))
          have NBE : ¬ (q2 i0 = some eb ∨ eb = g) := fun e => e.elim (fun e => HNE.out (.inr (.inr ⟨i0, HIL.out, e⟩))) (fun e => HNE.out (.inl (by rw [e]; rfl)))
          have g0 := (CellF.chg FQ0.out CY.out NBE).1
          have g1 := (CellF.chg FQ1.out CY.out NBE).1
          have g2 := (CellF.chg FQ2.out CY.out NBE).1
          have g3 := (CellF.chg FQ3.out CY.out NBE).1
          have g4 := (CellF.chg FQ4.out CY.out NBE).1
          have g5 := (CellF.chg FQ5.out CY.out NBE).1
          have HC5 := Lib.hid (show BCore (w'.setCell ⟨g, i0 * 3 + 2, none⟩ (.slice A8 s5.length c8)) w.heap.size (.slice (some ⟨g, 0, none⟩) FB.length cv) (addLast FB x) _ _ Q2 from HAD.out ▸ HP.out.1)
          have HB5 := Lib.hid (show ∀ b, (Value.slice (some ⟨nb, 0, none⟩) 0 0).ownBlock = some b → ¬ BK (.slice (some ⟨g, 0, none⟩) FB.length cv) (addLast FB x).length (fun j => if j = i0 then (Value.slice A8 s5.length c8).ownBlock else q2 j) Q2 b from fun b e hk => by
            injection e with e
            have e : nb = b := e
            subst e
            have hsz := HQZ.out
            rcases hk with hk | hk | ⟨i, hi, hk⟩
            · have := (HLB.out _ (.inl hk)).2; omega
            · have := (HLB.out _ (.inr (.inl hk))).2; omega
            · rw [addLast_len] at hi
              by_cases e : i = i0
              · simp only [if_pos e] at hk
                rcases HBV.out _ hk with h | h
                · have := (HLB.out _ (.inr (.inr ⟨i0, HIL.out, h⟩))).2; omega
                · omega
              · simp only [if_neg e] at hk
                have := (HLB.out _ (.inr (.inr ⟨i, hi, hk⟩))).2; omega)
          have HO5 := Lib.hid (HOQ.out.kept CY.out (fun b e hk => by injection e with e; have e : nb = b := e; subst e; exact hk.elim (fun h => by have := (HLB.out _ (.inr (.inr ⟨i0, HIL.out, h⟩))).2; omega) (fun h => by have := HGB.out; omega)))
          clear NBE
          go_wp2_with fail
          refine (l10Event_any _ eb 0 x.kind x.place x.count x.bed x.car x.dir (nn : Int) ⟨hn0, hn1⟩ (Chg.cell (S := Nowhere) (by repeat (first | exact Chg.refl _ _ | apply Chg.drew | apply Chg.drewN | refine Chg.alloc ?_ _)) g0 id) (Chg.cell (S := Nowhere) (by repeat (first | exact Chg.refl _ _ | apply Chg.drew | apply Chg.drewN | refine Chg.alloc ?_ _)) g1 id) (Chg.cell (S := Nowhere) (by repeat (first | exact Chg.refl _ _ | apply Chg.drew | apply Chg.drewN | refine Chg.alloc ?_ _)) g2 id) (Chg.cell (S := Nowhere) (by repeat (first | exact Chg.refl _ _ | apply Chg.drew | apply Chg.drewN | refine Chg.alloc ?_ _)) g3 id) (Chg.cell (S := Nowhere) (by repeat (first | exact Chg.refl _ _ | apply Chg.drew | apply Chg.drewN | refine Chg.alloc ?_ _)) g4 id) (Chg.cell (S := Nowhere) (by repeat (first | exact Chg.refl _ _ | apply Chg.drew | apply Chg.drewN | refine Chg.alloc ?_ _)) g5 id)).mono ?_
          rintro e w6 ⟨m6, rfl, hm6, g6⟩
          obtain rfl := hm6 HEO.out
          have G6 := Lib.hid (show Up (w'.setCell ⟨g, i0 * 3 + 2, none⟩ (.slice A8 s5.length c8)) w6 from Chg.trans (by repeat (first | exact Chg.refl _ _ | apply Chg.drew | apply Chg.drewN | refine Chg.alloc ?_ _)) g6)
          clear g6 hm6
          obtain ⟨n2, hn2⟩ : ∃ z, z = evAfter x.kind x.count (nn : Int) := ⟨_, rfl⟩
          rw [← hn2] at HN1 HSN HST2 ⊢
          clear hn2
          go_wp2
          go_roundw
          case rel => exact ⟨j + 1, n2, [], addLast FB x, _, _, Q2, by go_num, rfl, Lib.hid (HC5.out.up G6.out), Lib.hid (HO5.out.up G6.out), HB5, Lib.hid (Chg.trans HG2.out (Chg.trans (Chg.of_up UQ.out) (Chg.trans CZ.out (Chg.of_up G6.out)))), Lib.hid (by rw [addLast_len]; have := HL2.out; omega), Lib.hid (addLast_st HSTJ.out), Lib.hid ⟨hlt, by rw [← HBN.out]; exact HST2.out.symm, HSN.out, HN1.out, fun y hy => by simp at hy, by simp⟩⟩
          case measure => first | (simp [intOf]; done) | (simp [intOf]; omega)
      | false =>
        have HFN := Lib.hid (show flushM (nn : Int) word bs = bs ++ [⟨(nn : Int), R, []⟩] by rw [HR.out]; exact flushM_no (by rw [Int.toNat_natCast, ← HR.out]; exact htr))
        have HWZ0 := Lib.hid (show w.heap.size ≤ wr.heap.size ∧ wr.heap.size ≤ w1.heap.size from ⟨hg.out.size, HU1.out.size⟩)
        have HUW := Lib.hid (show Up wr (w1.alloc (.cells #[.int .i64 (nn : Int), .slice Aw R.length cw, .slice none 0 0] 98)) from Chg.trans HU1.out ((Chg.refl _ _).alloc _))
        go_upto_region 14 with (at_builtin; refine wp_append_blk rfl _ _ rfl w.heap.size (.slice Av bs.length cv) bs cs q Q rfl (hc.out.up HUW.out) w1.heap.size (nn : Int) R Aw cw rfl (by rw [cell_new]; rfl) (by rw [cell_new]; rfl) (by rw [cell_new]; rfl) (fun b => (Value.slice Aw R.length cw).ownBlock = some b ∧ w.heap.size ≤ b ∧ b < wr.heap.size) (HRD.out.up HUW.out) (fun b h => ⟨h.2.1, by have := HWZ0.out; have := h.2.2; simp; omega, hb.out b h.1⟩) (by have := hlen.out.2; omega) (by have := HWZ0.out; simp; omega) ?_; intro vb wb cs2 q2 Q2 h1 h1b h3; obtain ⟨FB, hFB⟩ : ∃ z, z = bs ++ [⟨(nn : Int), R, []⟩] := ⟨_, rfl⟩; rw [← hFB] at h1; obtain ⟨Ab, cb, rfl, -⟩ := h1.val; have HFE := Lib.hid hFB; have HC2 := Lib.hid h1; have HG2 := Lib.hid (show Chg (fun b => w.heap.size ≤ b) w wb from Chg.trans hg.out (Chg.trans (Chg.of_up HUW.out) (h3.mono (fun b _ e => (hc.out.lt (.inl e)).1)))); have HKB := Lib.hid h1b; have HC3 := Lib.hid h3; clear hFB h1 h1b h3)
        have HFB := Lib.hid (HFN.out.trans HFE.out.symm)
        have HFL := Lib.hid (show FB.length = bs.length + 1 by rw [HFE.out]; simp)
        have HL2 := Lib.hid (show 1 ≤ FB.length ∧ FB.length ≤ j + 2 by have := HFL.out; have := hlen.out; omega)
        have HSTJ := Lib.hid (show ∀ b ∈ FB, b.st.length ≤ j by rw [HFE.out]; exact fun b h => (List.mem_append.1 h).elim (hstj.out b) (fun h => by rw [List.mem_singleton.1 h]; exact Nat.zero_le _))
        have HNE := Lib.hid (show ¬ BK (.slice Ab FB.length cb) FB.length q2 Q2 eb from fun e => (HKB.out eb (by rw [← HFL.out]; exact e)).elim (fun e => by have := (hc.out.lt e).2; have := HEB.out; omega) (fun e => e.elim (fun e => by have := e.2.2; have := HEB.out; omega) (fun e => by have := G1.out.size; have := HEB.out; simp at e; omega)))
        have HCE := Lib.hid (show Chg (fun b => (Value.slice Av bs.length cv).ownBlock = some b) we wb from Chg.trans (Chg.of_up (Chg.trans G1.out ((Chg.refl _ _).alloc _))) HC3.out)
        clear HFE HFN HKB HC3
        go_upto_region 15 with fail
        obtain ⟨wq, hwq⟩ : ∃ z, z = wb.alloc (.cells #[] 2) := ⟨_, rfl⟩
        obtain ⟨nb, hnb⟩ : ∃ z, z = wb.heap.size := ⟨_, rfl⟩
        have HWZ := Lib.hid (show w.heap.size ≤ wb.heap.size from HG2.out.size)
        have UQ := Lib.hid (show Up wb wq by rw [hwq]; exact (Chg.refl _ _).alloc _)
        have HOQ := Lib.hid (show OwnI wq w.heap.size (.slice (some ⟨nb, 0, none⟩) 0 0) [] by rw [hwq, hnb]; exact OwnI.made _ _ HWZ.out)
        have HCQ := Lib.hid (HC2.out.up UQ.out)
        have HQZ := Lib.hid (show wb.heap.size = nb ∧ wq.heap.size = nb + 1 ∧ w.heap.size ≤ nb by rw [hwq]; have := HWZ.out; exact ⟨hnb.symm, by simp [hnb], by omega⟩)
        have HLB := Lib.hid (fun (b : Nat) (hb : BK (.slice Ab FB.length cb) FB.length q2 Q2 b) => (show w.heap.size ≤ b ∧ b < nb from by have := HC2.out.lt hb; have := HQZ.out; omega))
        have NBE : ¬ ((Value.slice Av bs.length cv).ownBlock = some eb) := fun e => by have := (hc.out.lt (.inl e)).2; have := HEB.out; omega
        have FQ0 := Lib.hid (CellF.up UQ.out (CellF.chg FE0.out HCE.out NBE))
        have FQ1 := Lib.hid (CellF.up UQ.out (CellF.chg FE1.out HCE.out NBE))
        have FQ2 := Lib.hid (CellF.up UQ.out (CellF.chg FE2.out HCE.out NBE))
        have FQ3 := Lib.hid (CellF.up UQ.out (CellF.chg FE3.out HCE.out NBE))
        have FQ4 := Lib.hid (CellF.up UQ.out (CellF.chg FE4.out HCE.out NBE))
        have FQ5 := Lib.hid (CellF.up UQ.out (CellF.chg FE5.out HCE.out NBE))
        try simp only []
        rw [← hwq, ← hnb]
        clear hwq hnb NBE
        have hk0 : xs.length = xs.length := rfl
        have HST2 := Lib.hid (HST.out hk (by rw [← HR.out]; exact H40.out))
        rw [HFB.out] at HST2
        obtain ⟨i0, hi0⟩ : ∃ i0, FB.length = i0 + 1 := ⟨FB.length - 1, by have := HL2.out; omega⟩
        have hil : i0 < FB.length := by omega
        obtain ⟨fb, g, cg, As, ks, hfb, hvg, hgb, T2, Z2, o2, hq2⟩ := HCQ.out.at2 hil
        injection hvg with hA2 hL2 hC2
        obtain rfl := hA2
        have HO2 := Lib.hid o2
        have HQ2 := Lib.hid hq2
        have HGB := Lib.hid (show w.heap.size ≤ g ∧ g < nb from HLB.out g (.inl rfl))
        have HIL := Lib.hid hil
        have HI0 := Lib.hid hi0
        have HSL := Lib.hid (show fb.st.length ≤ 1000000 by rw [hfb]; have := HSTJ.out _ (List.getElem_mem hil); omega)
        have HFBE := Lib.hid hfb
        clear hfb
        have wq0 : IntKind.i64.wrap ((FB.length : Int) - 1) = (FB.length : Int) - 1 := IntWalk.i64_in _ (by have := HL2.out; omega)
        have hq0 : (0 : Int) ≤ (FB.length : Int) - 1 := by omega
        have hqn : ((FB.length : Int) - 1).toNat = i0 := by omega
        have hql : (FB.length : Int) - 1 < (FB.length : Int) := by omega
        clear hgb o2 hq2 hL2 hC2 hi0
        go_upto_region 16 with fail
        have f0 := FQ0.out.1
        have p0 := Chg.cell ((Chg.refl Nowhere wq).alloc (.cells #[.int .i64 x.kind, .int .i64 x.place, .int .i64 x.count, .int .i64 x.bed, .int .i64 x.car, .int .i64 x.dir] 92)) f0 id
        have f1 := FQ1.out.1
        have p1 := Chg.cell ((Chg.refl Nowhere wq).alloc (.cells #[.int .i64 x.kind, .int .i64 x.place, .int .i64 x.count, .int .i64 x.bed, .int .i64 x.car, .int .i64 x.dir] 92)) f1 id
        have f2 := FQ2.out.1
        have p2 := Chg.cell ((Chg.refl Nowhere wq).alloc (.cells #[.int .i64 x.kind, .int .i64 x.place, .int .i64 x.count, .int .i64 x.bed, .int .i64 x.car, .int .i64 x.dir] 92)) f2 id
        have f3 := FQ3.out.1
        have p3 := Chg.cell ((Chg.refl Nowhere wq).alloc (.cells #[.int .i64 x.kind, .int .i64 x.place, .int .i64 x.count, .int .i64 x.bed, .int .i64 x.car, .int .i64 x.dir] 92)) f3 id
        have f4 := FQ4.out.1
        have p4 := Chg.cell ((Chg.refl Nowhere wq).alloc (.cells #[.int .i64 x.kind, .int .i64 x.place, .int .i64 x.count, .int .i64 x.bed, .int .i64 x.car, .int .i64 x.dir] 92)) f4 id
        have f5 := FQ5.out.1
        have p5 := Chg.cell ((Chg.refl Nowhere wq).alloc (.cells #[.int .i64 x.kind, .int .i64 x.place, .int .i64 x.count, .int .i64 x.bed, .int .i64 x.car, .int .i64 x.dir] 92)) f5 id
        have T3 := Chg.cell ((Chg.refl Nowhere wq).alloc (.cells #[.int .i64 x.kind, .int .i64 x.place, .int .i64 x.count, .int .i64 x.bed, .int .i64 x.car, .int .i64 x.dir] 92)) T2 id
        go_region_law (refine step_append1EvsB rfl (.tmp 61) (.tmp 63) rfl w.heap.size (.slice As fb.st.length ks) fb.st (by simp [Act.eval, Act.put]) (HO2.out.up (by repeat (first | exact Chg.refl _ _ | apply Chg.drew | apply Chg.drewN | refine Chg.alloc ?_ _))) wq.heap.size x (by simp [Act.eval, Act.put]) (heap_alloc_new _ _) HXO.out HSL.out (by have := HQZ.out; simp; omega) ?_; intro v' w' h1 h2 h3; obtain ⟨s5, hs5⟩ : ∃ z, z = fb.st ++ [x] := ⟨_, rfl⟩; rw [← hs5] at h1; have HS5 := Lib.hid hs5; clear hs5; obtain ⟨A8, c8, rfl, -⟩ := h1.val; have HOV := Lib.hid h1; have HCV := Lib.hid (show Chg (fun b => q2 i0 = some b) wq w' from Chg.trans (by repeat (first | exact Chg.refl _ _ | apply Chg.drew | apply Chg.drewN | refine Chg.alloc ?_ _)) (h2.mono (fun b _ e => HQ2.out.symm.trans e))); have HBV := Lib.hid (show ∀ b, (Value.slice A8 s5.length c8).ownBlock = some b → q2 i0 = some b ∨ wq.heap.size ≤ b from fun b e => (h3 b e).imp (fun e => HQ2.out.symm.trans e) (fun h => by simp at h; omega)); obtain ⟨q1c, q1f⟩ := CellF.chg (show CellF wq ⟨g, i0 * 3 + 2, none⟩ _ from ⟨T2, Z2⟩) HCV.out (fun e => (HCQ.out.qv i0 g HIL.out e).1 rfl); clear h1 h2 h3)
        all_goals
          have HP := Lib.hid (HCQ.out.put HIL.out rfl HCV.out HOV.out HBV.out)
          have HAD := Lib.hid (show FB.set i0 ⟨(FB[i0]'HIL.out).n, (FB[i0]'HIL.out).word, s5⟩ = addLast FB x by rw [HS5.out, HFBE.out]; exact addLast_set HI0.out x)
          have CY := Lib.hid (show Chg (fun b => q2 i0 = some b ∨ b = g) wq (w'.setCell ⟨g, i0 * 3 + 2, none⟩ (.slice A8 s5.length c8)) from Chg.trans (HCV.out.mono (fun b _ e => .inl e)) (HP.out.2.mono (fun b _ e => .inr e)))
          have CZ := Lib.hid (show Chg (fun b => w.heap.size ≤ b) wq (w'.setCell ⟨g, i0 * 3 + 2, none⟩ (.slice A8 s5.length c8)) from CY.out.mono (fun b _ e => e.elim (fun e => (HLB.out b (.inr (.inr ⟨i0, HIL.out, e⟩))).1) (fun e => by have := HGB.out; omega)))
          have NBE : ¬ (q2 i0 = some eb ∨ eb = g) := fun e => e.elim (fun e => HNE.out (.inr (.inr ⟨i0, HIL.out, e⟩))) (fun e => HNE.out (.inl (by rw [e]; rfl)))
          have g0 := (CellF.chg FQ0.out CY.out NBE).1
          have g1 := (CellF.chg FQ1.out CY.out NBE).1
          have g2 := (CellF.chg FQ2.out CY.out NBE).1
          have g3 := (CellF.chg FQ3.out CY.out NBE).1
          have g4 := (CellF.chg FQ4.out CY.out NBE).1
          have g5 := (CellF.chg FQ5.out CY.out NBE).1
          have HC5 := Lib.hid (show BCore (w'.setCell ⟨g, i0 * 3 + 2, none⟩ (.slice A8 s5.length c8)) w.heap.size (.slice (some ⟨g, 0, none⟩) FB.length cb) (addLast FB x) _ _ Q2 from HAD.out ▸ HP.out.1)
          have HB5 := Lib.hid (show ∀ b, (Value.slice (some ⟨nb, 0, none⟩) 0 0).ownBlock = some b → ¬ BK (.slice (some ⟨g, 0, none⟩) FB.length cb) (addLast FB x).length (fun j => if j = i0 then (Value.slice A8 s5.length c8).ownBlock else q2 j) Q2 b from fun b e hk => by
            injection e with e
            have e : nb = b := e
            subst e
            have hsz := HQZ.out
            rcases hk with hk | hk | ⟨i, hi, hk⟩
            · have := (HLB.out _ (.inl hk)).2; omega
            · have := (HLB.out _ (.inr (.inl hk))).2; omega
            · rw [addLast_len] at hi
              by_cases e : i = i0
              · simp only [if_pos e] at hk
                rcases HBV.out _ hk with h | h
                · have := (HLB.out _ (.inr (.inr ⟨i0, HIL.out, h⟩))).2; omega
                · omega
              · simp only [if_neg e] at hk
                have := (HLB.out _ (.inr (.inr ⟨i, hi, hk⟩))).2; omega)
          have HO5 := Lib.hid (HOQ.out.kept CY.out (fun b e hk => by injection e with e; have e : nb = b := e; subst e; exact hk.elim (fun h => by have := (HLB.out _ (.inr (.inr ⟨i0, HIL.out, h⟩))).2; omega) (fun h => by have := HGB.out; omega)))
          clear NBE
          go_wp2_with fail
          refine (l10Event_any _ eb 0 x.kind x.place x.count x.bed x.car x.dir (nn : Int) ⟨hn0, hn1⟩ (Chg.cell (S := Nowhere) (by repeat (first | exact Chg.refl _ _ | apply Chg.drew | apply Chg.drewN | refine Chg.alloc ?_ _)) g0 id) (Chg.cell (S := Nowhere) (by repeat (first | exact Chg.refl _ _ | apply Chg.drew | apply Chg.drewN | refine Chg.alloc ?_ _)) g1 id) (Chg.cell (S := Nowhere) (by repeat (first | exact Chg.refl _ _ | apply Chg.drew | apply Chg.drewN | refine Chg.alloc ?_ _)) g2 id) (Chg.cell (S := Nowhere) (by repeat (first | exact Chg.refl _ _ | apply Chg.drew | apply Chg.drewN | refine Chg.alloc ?_ _)) g3 id) (Chg.cell (S := Nowhere) (by repeat (first | exact Chg.refl _ _ | apply Chg.drew | apply Chg.drewN | refine Chg.alloc ?_ _)) g4 id) (Chg.cell (S := Nowhere) (by repeat (first | exact Chg.refl _ _ | apply Chg.drew | apply Chg.drewN | refine Chg.alloc ?_ _)) g5 id)).mono ?_
          rintro e w6 ⟨m6, rfl, hm6, g6⟩
          obtain rfl := hm6 HEO.out
          have G6 := Lib.hid (show Up (w'.setCell ⟨g, i0 * 3 + 2, none⟩ (.slice A8 s5.length c8)) w6 from Chg.trans (by repeat (first | exact Chg.refl _ _ | apply Chg.drew | apply Chg.drewN | refine Chg.alloc ?_ _)) g6)
          clear g6 hm6
          obtain ⟨n2, hn2⟩ : ∃ z, z = evAfter x.kind x.count (nn : Int) := ⟨_, rfl⟩
          rw [← hn2] at HN1 HSN HST2 ⊢
          clear hn2
          go_wp2
          go_roundw
          case rel => exact ⟨j + 1, n2, [], addLast FB x, _, _, Q2, by go_num, rfl, Lib.hid (HC5.out.up G6.out), Lib.hid (HO5.out.up G6.out), HB5, Lib.hid (Chg.trans HG2.out (Chg.trans (Chg.of_up UQ.out) (Chg.trans CZ.out (Chg.of_up G6.out)))), Lib.hid (by rw [addLast_len]; have := HL2.out; omega), Lib.hid (addLast_st HSTJ.out), Lib.hid ⟨hlt, by rw [← HBN.out]; exact HST2.out.symm, HSN.out, HN1.out, fun y hy => by simp at hy, by simp⟩⟩
          case measure => first | (simp [intOf]; done) | (simp [intOf]; omega)
    have HJ := Lib.hid (show j = xs.length by omega)
    have htd : decide ((j : Int) < (xs.length : Int)) = false := decide_eq_false (by omega)
    by_cases h40 : 40 < R.length
    · have hgt : decide ((R.length : Int) > 40) = true := decide_eq_true (by omega)
      go_wp2
      go_ret2
      exact ⟨by rw [← HBN.out, blkR_big (.inl HJ.out) (by rw [← HR.out]; exact h40)]; rfl, Chg.trans HUP.out (Chg.trans (Chg.refl Nowhere wr) (by repeat (first | exact Chg.refl _ _ | apply Chg.drew | apply Chg.drewN | refine Chg.alloc ?_ _)))⟩
    have hgt : decide ((R.length : Int) > 40) = false := decide_eq_false (by omega)
    have H40 := Lib.hid h40
    clear h40
    go_wp2_with fail
    refine (l04EqualNil_any _ _ _ nn R (HRD.out.up (Chg.trans (Chg.refl Nowhere wr) (by repeat (first | exact Chg.refl _ _ | apply Chg.drew | apply Chg.drewN | refine Chg.alloc ?_ _)))) HLR.out hn12 HRL.out).mono ?_
    rintro e w1 ⟨rfl, g1⟩
    have G1 := Lib.hid (show Up wr w1 from Chg.trans (by repeat (first | exact Chg.refl _ _ | apply Chg.drew | apply Chg.drewN | refine Chg.alloc ?_ _)) g1)
    have HU1 := Lib.hid (show Up wr w1 from Chg.trans (Chg.refl Nowhere wr) G1.out)
    clear g1
    cases htr : trivB nn R with
    | true =>
      obtain ⟨FB, hFBe⟩ : ∃ x, x = bs := ⟨_, rfl⟩
      have HFB := Lib.hid (show flushM (nn : Int) word bs = FB by rw [hFBe]; exact flushM_yes (by rw [Int.toNat_natCast, ← HR.out]; exact htr))
      have HC2 := Lib.hid (hc.out.up HU1.out)
      have HG2 := Lib.hid (show Chg (fun b => w.heap.size ≤ b) w w1 from Chg.trans hg.out (Chg.of_up HU1.out))
      have HL2 := Lib.hid (show 1 ≤ bs.length ∧ bs.length ≤ j + 2 by have := hlen.out; omega)
      obtain ⟨cs2, hcs⟩ : ∃ x, x = cs := ⟨_, rfl⟩
      obtain ⟨q2, hq⟩ : ∃ x, x = q := ⟨_, rfl⟩
      obtain ⟨Q2, hQ⟩ : ∃ x, x = Q := ⟨_, rfl⟩
      rw [← hcs, ← hq, ← hQ] at HC2
      have HUZ := Lib.hid (show Up w w1 from Chg.trans HUP.out HU1.out)
      rw [← hFBe] at HC2 HL2 ⊢
      clear hcs hq hQ hFBe
      by_cases h60 : 60 < FB.length
      · have hg6 : decide ((FB.length : Int) > 60) = true := decide_eq_true (by omega)
        go_wp2
        go_ret2
        exact ⟨by rw [← HBN.out, blkR_many (.inl HJ.out) (by rw [HFB.out]; exact h60)]; rfl, Chg.trans HUZ.out (by repeat (first | exact Chg.refl _ _ | apply Chg.drew | apply Chg.drewN | refine Chg.alloc ?_ _))⟩
      have hg6 : decide ((FB.length : Int) > 60) = false := decide_eq_false (by omega)
      go_wp2
      go_ret2
      exact ⟨by rw [← HBN.out, HJ.out, List.drop_length, blkR_end (by rw [← HR.out]; exact H40.out) (by rw [HFB.out]; omega), HFB.out]; exact ⟨_, _, _, _, rfl, HC2.out.up (by repeat (first | exact Chg.refl _ _ | apply Chg.drew | apply Chg.drewN | refine Chg.alloc ?_ _))⟩, Chg.trans HUZ.out (by repeat (first | exact Chg.refl _ _ | apply Chg.drew | apply Chg.drewN | refine Chg.alloc ?_ _))⟩
    | false =>
      have HFN := Lib.hid (show flushM (nn : Int) word bs = bs ++ [⟨(nn : Int), R, []⟩] by rw [HR.out]; exact flushM_no (by rw [Int.toNat_natCast, ← HR.out]; exact htr))
      have HWZ0 := Lib.hid (show w.heap.size ≤ wr.heap.size ∧ wr.heap.size ≤ w1.heap.size from ⟨hg.out.size, HU1.out.size⟩)
      have HUW := Lib.hid (show Up wr (w1.alloc (.cells #[.int .i64 (nn : Int), .slice Aw R.length cw, .slice none 0 0] 98)) from Chg.trans HU1.out ((Chg.refl _ _).alloc _))
      go_upto_region 22 with (at_builtin; refine wp_append_blk rfl _ _ rfl w.heap.size (.slice Av bs.length cv) bs cs q Q rfl (hc.out.up HUW.out) w1.heap.size (nn : Int) R Aw cw rfl (by rw [cell_new]; rfl) (by rw [cell_new]; rfl) (by rw [cell_new]; rfl) (fun b => (Value.slice Aw R.length cw).ownBlock = some b ∧ w.heap.size ≤ b ∧ b < wr.heap.size) (HRD.out.up HUW.out) (fun b h => ⟨h.2.1, by have := HWZ0.out; have := h.2.2; simp; omega, hb.out b h.1⟩) (by have := hlen.out.2; omega) (by have := HWZ0.out; simp; omega) ?_; intro vb wb cs2 q2 Q2 h1 h1b h3; obtain ⟨FB, hFB⟩ : ∃ z, z = bs ++ [⟨(nn : Int), R, []⟩] := ⟨_, rfl⟩; rw [← hFB] at h1; obtain ⟨Ab, cb, rfl, -⟩ := h1.val; have HFE := Lib.hid hFB; have HC2 := Lib.hid h1; have HG2 := Lib.hid (show Chg (fun b => w.heap.size ≤ b) w wb from Chg.trans hg.out (Chg.trans (Chg.of_up HUW.out) (h3.mono (fun b _ e => (hc.out.lt (.inl e)).1)))); have HKB := Lib.hid h1b; have HC3 := Lib.hid h3; clear hFB h1 h1b h3)
      have HFB := Lib.hid (HFN.out.trans HFE.out.symm)
      have HFL := Lib.hid (show FB.length = bs.length + 1 by rw [HFE.out]; simp)
      have HL2 := Lib.hid (show 1 ≤ FB.length ∧ FB.length ≤ j + 2 by have := HFL.out; have := hlen.out; omega)
      have HSTJ := Lib.hid (show ∀ b ∈ FB, b.st.length ≤ j by rw [HFE.out]; exact fun b h => (List.mem_append.1 h).elim (hstj.out b) (fun h => by rw [List.mem_singleton.1 h]; exact Nat.zero_le _))
      have HUZ := Lib.hid (show Up w wb from Chg.new (Chg.trans HUP.out HUW.out) HC3.out (fun i hi e => by have := (hc.out.lt (.inl e)).1; omega))
      clear HFE HFN HKB HC3
      by_cases h60 : 60 < FB.length
      · have hg6 : decide ((FB.length : Int) > 60) = true := decide_eq_true (by omega)
        go_wp2
        go_ret2
        exact ⟨by rw [← HBN.out, blkR_many (.inl HJ.out) (by rw [HFB.out]; exact h60)]; rfl, Chg.trans HUZ.out (by repeat (first | exact Chg.refl _ _ | apply Chg.drew | apply Chg.drewN | refine Chg.alloc ?_ _))⟩
      have hg6 : decide ((FB.length : Int) > 60) = false := decide_eq_false (by omega)
      go_wp2
      go_ret2
      exact ⟨by rw [← HBN.out, HJ.out, List.drop_length, blkR_end (by rw [← HR.out]; exact H40.out) (by rw [HFB.out]; omega), HFB.out]; exact ⟨_, _, _, _, rfl, HC2.out.up (by repeat (first | exact Chg.refl _ _ | apply Chg.drew | apply Chg.drewN | refine Chg.alloc ?_ _))⟩, Chg.trans HUZ.out (by repeat (first | exact Chg.refl _ _ | apply Chg.drew | apply Chg.drewN | refine Chg.alloc ?_ _))⟩
end Go.Proofs.Ytplabnjdhkmmkaa
