/- The program's proof of events. No condition. -/
import Derived.Test.YtplabnjdhkmmkaaPF14
import Derived.Deep.RegionHeld3
set_option maxRecDepth 100000
set_option maxHeartbeats 4000000
set_option linter.unusedSimpArgs false
set_option linter.unusedVariables false
namespace Go.Proofs.Ytplabnjdhkmmkaa
open Go.ChangeShapes Go.WideShapes Go.ChangeAt Go.RowKit
/-- the value of a proof that was just made: its parts in blocks apart -/
def MadeP (w : World) (base : Nat) (v1 v2 : Value) (bs : List BlkM) : Prop := ∃ c1 lo hi c2 q, NRow w base v1 (formsM bs) c1 lo hi ∧ ERow w base v2 (stsM bs) c2 q ∧ ∀ b, NK v1 (formsM bs).length lo hi b → ¬ EK v2 (stsM bs).length q b
/-- what ProofOf answers -/
def PrfRes (w w' : World) (e : Ending) (xs : List EvM) : Prop := if okE xs = true then (match blkR xs 0 [] [⟨0, [], []⟩] with
  | none => e = .returned (.tuple #[.agg #[.slice none 0 0, .slice none 0 0], .int .i64 5])
  | some bs => ∃ v1 v2, e = .returned (.tuple #[.agg #[v1, v2], .int .i64 0]) ∧ MadeP w' w.heap.size v1 v2 bs) else e = .returned (.tuple #[.agg #[.slice none 0 0, .slice none 0 0], .int .i64 1])
theorem OwnEvs.more {w : World} {base base' : Nat} {v : Value} {xs : List EvM} (h : OwnEvs w base v xs) (hb : base' ≤ base) : OwnEvs w base' v xs := by
  refine ⟨⟨h.1.1, ?_⟩, h.2⟩
  rcases h.1.2 with h1 | ⟨g, cap, cur, e, hg, r⟩
  · exact .inl h1
  · exact .inr ⟨g, cap, cur, e, by omega, r⟩
theorem NRow.more {w : World} {base base' : Nat} {v : Value} {fs : List NormM} {cs : List Value} {lo hi : Nat → Nat} (h : NRow w base v fs cs lo hi) (hb : base' ≤ base) : NRow w base' v fs cs lo hi := by
  refine ⟨⟨h.own.1, ?_⟩, h.row, fun i hi' => ⟨Nat.le_trans hb (h.iv i hi').1, (h.iv i hi').2⟩, h.dj⟩
  rcases h.own.2 with h1 | ⟨g, cap, cur, e, hg, r⟩
  · exact .inl h1
  · exact .inr ⟨g, cap, cur, e, by omega, r⟩
/-- block i, by name: its three cells -/
theorem BCore.at3 {w : World} {base : Nat} {v : Value} {bs : List BlkM} {cs : List Value} {q : Nat → Option Nat} {P : Nat → Prop} (h : BCore w base v bs cs q P) {i : Nat} (hi : i < bs.length) : ∃ (fb : BlkM) (g c : Nat) (A : Option Addr) (k : Nat) (As : Option Addr) (ks : Nat), fb = bs[i] ∧ v = .slice (some ⟨g, 0, none⟩) bs.length c ∧ w.cell? ⟨g, i * 3, none⟩ = some (.int .i64 fb.n) ∧ w.cell? ⟨g, i * 3 + 1, none⟩ = some (.slice A fb.word.length k) ∧ w.cell? ⟨g, i * 3 + 2, none⟩ = some (.slice As fb.st.length ks) ∧ Ints w P (.slice A fb.word.length k) fb.word ∧ OwnEvs w base (.slice As fb.st.length ks) fb.st ∧ (Value.slice As fb.st.length ks).ownBlock = q i := by
  obtain ⟨g, c, A, k, vs, h1, h2, -, t0, t1, t2, h3, h4, h5⟩ := h.at_ hi
  obtain ⟨As, ks, rfl, -⟩ := h4.val
  exact ⟨bs[i], g, c, A, k, As, ks, rfl, h1, t0.1, t1.1, t2.1, h3, h4, h5⟩
theorem formsM_len (bs : List BlkM) : (formsM bs).length = bs.length := by simp [formsM]
theorem stsM_len (bs : List BlkM) : (stsM bs).length = bs.length := by simp [stsM]
theorem ProofOf_any (w : World) (S : Nat → Prop) (vx : Value) (xs : List EvM) (h : Evs w S vx xs) (hS : ∀ b, S b → b < w.heap.size) (hl : xs.length ≤ 2000000) :
    Calls Try.prog 18 #[vx] w fun e w' => PrfRes w w' e xs ∧ Up w w' := by
  obtain ⟨Ax, cx, rfl, -, -, -⟩ := h.shape
  have H := Lib.hid h
  have HS := Lib.hid hS
  clear h hS
  cases hok : okE xs with
  | false =>
    have HOK := Lib.hid hok
    clear hok
    go_enter Try.func18, Try.ntmps18
    go_wp2_with fail
    refine (BlocksOf_any _ S _ xs (H.out.up (by repeat (first | exact Chg.refl _ _ | apply Chg.drew | apply Chg.drewN | refine Chg.alloc ?_ _))) (fun b hb => Nat.lt_of_lt_of_le (HS.out b hb) (Chg.size (S := Nowhere) (by repeat (first | exact Chg.refl _ _ | apply Chg.drew | apply Chg.drewN | refine Chg.alloc ?_ _)))) hl).mono ?_
    rintro e w1 ⟨w0, hu0, hres, g1⟩
    obtain rfl : e = .returned (.tuple #[.slice none 0 0, .int .i64 1]) := by have h := hres; unfold BlkAll at h; rw [HOK.out] at h; exact h
    clear hres hu0
    have G1 := Lib.hid (show Up (w.alloc (.cells #[.slice none 0 0, .slice none 0 0] 57)) w1 from Chg.trans (by repeat (first | exact Chg.refl _ _ | apply Chg.drew | apply Chg.drewN | refine Chg.alloc ?_ _)) g1)
    have X0 := Lib.hid (CellF.up G1.out (show CellF (w.alloc (.cells #[.slice none 0 0, .slice none 0 0] 57)) ⟨w.heap.size, 0, none⟩ (.slice none 0 0) from cellF_at rfl rfl))
    have X1 := Lib.hid (CellF.up G1.out (show CellF (w.alloc (.cells #[.slice none 0 0, .slice none 0 0] 57)) ⟨w.heap.size, 1, none⟩ (.slice none 0 0) from cellF_at rfl rfl))
    have HUW := Lib.hid (show Up w w1 from Chg.trans ((Chg.refl _ _).alloc _) G1.out)
    clear g1
    obtain ⟨x0, y0⟩ := X0.out
    obtain ⟨x1, y1⟩ := X1.out
    go_wp2_with fail
    refine bodyPost_ret (v := .tuple #[.agg #[.slice none 0 0, .slice none 0 0], .int .i64 1]) (by simp [results, Try.results18, go_sem, x0, x1]) rfl ?_
    exact ⟨by unfold PrfRes; (rw [HOK.out]; rfl), Chg.new HUW.out (Chg.trans (box_chg _ _ _ _) (box_chg _ _ _ _)) (fun i hi e => by have e : i = w.heap.size := e; omega)⟩
  | true =>
    have HOK := Lib.hid hok
    obtain ⟨m, hm⟩ : ∃ m, stM xs 0 = some m := by unfold okE at hok; cases e : stM xs 0 with | none => (rw [e] at hok; cases hok) | some m => exact ⟨m, rfl⟩
    have HM := Lib.hid hm
    clear hok hm
    cases hB : blkR xs 0 [] [⟨0, [], []⟩] with
    | none =>
      have HB := Lib.hid hB
      clear hB
      go_enter Try.func18, Try.ntmps18
      go_wp2_with fail
      refine (BlocksOf_any _ S _ xs (H.out.up (by repeat (first | exact Chg.refl _ _ | apply Chg.drew | apply Chg.drewN | refine Chg.alloc ?_ _))) (fun b hb => Nat.lt_of_lt_of_le (HS.out b hb) (Chg.size (S := Nowhere) (by repeat (first | exact Chg.refl _ _ | apply Chg.drew | apply Chg.drewN | refine Chg.alloc ?_ _)))) hl).mono ?_
      rintro e w1 ⟨w0, hu0, hres, g1⟩
      obtain rfl : e = .returned (.tuple #[.slice none 0 0, .int .i64 5]) := by have h := hres; unfold BlkAll at h; rw [if_pos HOK.out, HB.out] at h; exact h
      clear hres hu0
      have G1 := Lib.hid (show Up (w.alloc (.cells #[.slice none 0 0, .slice none 0 0] 57)) w1 from Chg.trans (by repeat (first | exact Chg.refl _ _ | apply Chg.drew | apply Chg.drewN | refine Chg.alloc ?_ _)) g1)
      have X0 := Lib.hid (CellF.up G1.out (show CellF (w.alloc (.cells #[.slice none 0 0, .slice none 0 0] 57)) ⟨w.heap.size, 0, none⟩ (.slice none 0 0) from cellF_at rfl rfl))
      have X1 := Lib.hid (CellF.up G1.out (show CellF (w.alloc (.cells #[.slice none 0 0, .slice none 0 0] 57)) ⟨w.heap.size, 1, none⟩ (.slice none 0 0) from cellF_at rfl rfl))
      have HUW := Lib.hid (show Up w w1 from Chg.trans ((Chg.refl _ _).alloc _) G1.out)
      clear g1
      obtain ⟨x0, y0⟩ := X0.out
      obtain ⟨x1, y1⟩ := X1.out
      go_wp2_with fail
      refine bodyPost_ret (v := .tuple #[.agg #[.slice none 0 0, .slice none 0 0], .int .i64 5]) (by simp [results, Try.results18, go_sem, x0, x1]) rfl ?_
      exact ⟨by unfold PrfRes; (rw [if_pos HOK.out, HB.out]), Chg.new HUW.out (Chg.trans (box_chg _ _ _ _) (box_chg _ _ _ _)) (fun i hi e => by have e : i = w.heap.size := e; omega)⟩
    | some bs =>
      have HB := Lib.hid hB
      clear hB
      go_enter Try.func18, Try.ntmps18
      go_wp2_with fail
      refine (BlocksOf_any _ S _ xs (H.out.up (by repeat (first | exact Chg.refl _ _ | apply Chg.drew | apply Chg.drewN | refine Chg.alloc ?_ _))) (fun b hb => Nat.lt_of_lt_of_le (HS.out b hb) (Chg.size (S := Nowhere) (by repeat (first | exact Chg.refl _ _ | apply Chg.drew | apply Chg.drewN | refine Chg.alloc ?_ _)))) hl).mono ?_
      rintro e w1 ⟨w0, hu0, hres, g1⟩
      obtain ⟨v0, cs0, q0, Q0, rfl, hc0⟩ : ∃ v cs q Q, e = .returned (.tuple #[v, .int .i64 0]) ∧ BCore w1 w0.heap.size v bs cs q Q := by have h := hres; unfold BlkAll at h; rw [if_pos HOK.out, HB.out] at h; exact h
      have HC0 := Lib.hid hc0
      obtain ⟨Av, cv, rfl, -, -, -⟩ := hc0.val
      have HOKB := Lib.hid (blkR_ok HM.out HB.out)
      have HW0 := Lib.hid (show w.heap.size + 1 ≤ w0.heap.size by have := hu0.size; simpa using this)
      have HLN := Lib.hid (show bs.length ≤ 60 from HOKB.out.2)
      clear hres hc0 hu0
      have G1 := Lib.hid (show Up (w.alloc (.cells #[.slice none 0 0, .slice none 0 0] 57)) w1 from Chg.trans (by repeat (first | exact Chg.refl _ _ | apply Chg.drew | apply Chg.drewN | refine Chg.alloc ?_ _)) g1)
      have X0 := Lib.hid (CellF.up G1.out (show CellF (w.alloc (.cells #[.slice none 0 0, .slice none 0 0] 57)) ⟨w.heap.size, 0, none⟩ (.slice none 0 0) from cellF_at rfl rfl))
      have X1 := Lib.hid (CellF.up G1.out (show CellF (w.alloc (.cells #[.slice none 0 0, .slice none 0 0] 57)) ⟨w.heap.size, 1, none⟩ (.slice none 0 0) from cellF_at rfl rfl))
      have HUW := Lib.hid (show Up w w1 from Chg.trans ((Chg.refl _ _).alloc _) G1.out)
      clear g1
      go_wp2_with fail
      obtain ⟨ob, hob⟩ : ∃ z, z = w1.heap.size := ⟨_, rfl⟩
      obtain ⟨wf, hwf⟩ : ∃ z, z = w1.alloc (.cells #[.slice none 0 0, .slice none 0 0] 57) := ⟨_, rfl⟩
      have Y0 := Lib.hid (show CellF wf ⟨ob, 0, none⟩ (.slice none 0 0) by rw [hwf]; exact cellF_at hob rfl)
      have Y1 := Lib.hid (show CellF wf ⟨ob, 1, none⟩ (.slice none 0 0) by rw [hwf]; exact cellF_at hob rfl)
      have UF := Lib.hid (show Up w1 wf by rw [hwf]; exact (Chg.refl _ _).alloc _)
      have HCF := Lib.hid (HC0.out.up UF.out)
      skip
      have HOB := Lib.hid (show wf.heap.size = ob + 1 ∧ w1.heap.size = ob by rw [hwf]; exact ⟨by simp [hob], hob.symm⟩)
      have HW1 := Lib.hid (show w.heap.size + 1 ≤ ob by have := G1.out.size; rw [hob]; simpa using this)
      try simp only []
      rw [← hwf, ← hob]
      clear hwf hob
      go_loopw [21] (fun i wr => ∃ (j : Nat) (v1 v2 : Value) (c1 : List Value) (lo hi : Nat → Nat) (c2 : List Value) (q : Nat → Option Nat), j ≤ bs.length ∧ i = .int .i64 (j : Int) ∧ Hid (CellF wr ⟨ob, 0, none⟩ v1) ∧ Hid (CellF wr ⟨ob, 1, none⟩ v2) ∧ Hid (NRow wr (ob + 1) v1 (formsM (bs.take j)) c1 lo hi) ∧ Hid (ERow wr w.heap.size v2 (stsM (bs.take j)) c2 q) ∧ Hid (∀ t, t < j → q t = q0 t) ∧ Hid (∀ b, v2.ownBlock = some b → ob + 1 ≤ b ∧ ¬ NK v1 (formsM (bs.take j)).length lo hi b) ∧ Hid (Chg (fun b => ob ≤ b) wf wr)) (fun i _ => bs.length - (intOf i).toNat)
      case atStart => exact ⟨0, _, _, [], fun _ => 0, fun _ => 0, [], fun _ => none, by omega, rfl, Y0, Y1, Lib.hid (NRow.nil _ _), Lib.hid (ERow.nil _ _), Lib.hid (fun t h => by omega), Lib.hid (fun b e => by cases e), Lib.hid (Chg.refl _ _)⟩
      case round =>
        obtain ⟨j, v1, v2, c1, lo, hi, c2, q, hj, rfl, hy0, hy1, hn, he, hq, hd, hg⟩ := hrel
        have HUP := Lib.hid (show Up w wr from Chg.new (Chg.trans HUW.out UF.out) hg.out (fun i hi e => by have e : ob ≤ i := e; have := HW1.out; omega))
        by_cases hlt : j < bs.length
        rotate_left
        · obtain rfl : j = bs.length := by omega
          have htd : decide ((bs.length : Int) < (bs.length : Int)) = false := decide_eq_false (by omega)
          have HN := Lib.hid (show NRow wr (ob + 1) v1 (formsM bs) c1 lo hi by have := hn.out; rwa [List.take_length] at this)
          have HE := Lib.hid (show ERow wr w.heap.size v2 (stsM bs) c2 q by have := he.out; rwa [List.take_length] at this)
          have HD := Lib.hid (show ∀ b, v2.ownBlock = some b → ob + 1 ≤ b ∧ ¬ NK v1 (formsM bs).length lo hi b by have := hd.out; rwa [List.take_length] at this)
          obtain ⟨a0, b0⟩ := hy0.out
          obtain ⟨a1, b1⟩ := hy1.out
          have NB : ¬ (ob ≤ w.heap.size) := by have := HW1.out; omega
          obtain ⟨x0, y0⟩ := CellF.chg (CellF.up UF.out X0.out) hg.out NB
          obtain ⟨x1, y1⟩ := CellF.chg (CellF.up UF.out X1.out) hg.out NB
          have hbn1 : ¬ w.heap.size = ob := by omega
          have hbn2 : ¬ ob = w.heap.size := by omega
          obtain ⟨E1, k1, hv1, -⟩ := HN.out.val
          obtain ⟨E2, k2, hv2, -⟩ := HE.out.val
          subst hv1
          subst hv2
          clear NB
          go_wp2_with fail
          have CZ := Lib.hid (show Chg (fun b => b = w.heap.size) wr ((wr.setCell ⟨w.heap.size, 0, none⟩ (.slice E1 (formsM bs).length k1)).setCell ⟨w.heap.size, 1, none⟩ (.slice E2 (stsM bs).length k2)) from Chg.trans (box_chg _ _ _ _) (box_chg _ _ _ _))
          refine bodyPost_ret (v := .tuple #[.agg #[.slice E1 (formsM bs).length k1, .slice E2 (stsM bs).length k2], .int .i64 0]) (by simp [results, Try.results18, go_sem, x0, x1]) rfl ?_
          refine ⟨?_, Chg.new HUP.out CZ.out (fun i hi e => by have e : i = w.heap.size := e; omega)⟩
          unfold PrfRes
          rw [if_pos HOK.out, HB.out]
          have hct : ∀ t b, t < (stsM bs).length → q t = some b → w0.heap.size ≤ b ∧ b < ob := fun t b ht e => by
            rw [stsM_len] at ht
            have h1 := HC0.out.lt (.inr (.inr ⟨t, ht, (hq.out t ht).symm.trans e⟩))
            have := HOB.out
            omega
          have hnk : ∀ b, NK (.slice E1 (formsM bs).length k1) (formsM bs).length lo hi b → ob + 1 ≤ b := fun b h => (HN.out.lt h).1
          refine ⟨_, _, rfl, c1, lo, hi, c2, q, (HN.out.keep CZ.out (fun b _ h e => by have := hnk b h; have e : b = w.heap.size := e; have := HW1.out; omega)).more (by have := HW1.out; omega), HE.out.keep CZ.out (fun b _ h e => ?_), fun b h1 h2 => ?_⟩
          · have e : b = w.heap.size := e
            rcases h with h | ⟨t, ht, h⟩
            · have := (HD.out b h).1; have := HW1.out; omega
            · have := (hct t b ht h).1; have := HW0.out; omega
          · have h3 := hnk b h1
            rcases h2 with h | ⟨t, ht, h⟩
            · exact (HD.out b h).2 h1
            · have := (hct t b ht h).2; omega
        have HCR := Lib.hid (HCF.out.keep hg.out (fun b _ hk e => by have := (HC0.out.lt hk).2; have := HOB.out; have e : ob ≤ b := e; omega))
        obtain ⟨fb, g, cg, Ab, kb, As, ks, hfb, hvg, t0, t1, t2, ib, eb, hqb⟩ := HCR.out.at3 hlt
        have HOKF := Lib.hid (show okB fb by rw [hfb]; exact HOKB.out.1 _ (List.getElem_mem hlt))
        obtain ⟨nn, hnn⟩ : ∃ nn : Nat, fb.n = (nn : Int) := ⟨fb.n.toNat, by have := HOKF.out.1; omega⟩
        have HFT := Lib.hid (show formsM (bs.take (j + 1)) = formsM (bs.take j) ++ [normM nn fb.word] by rw [formsM_take hlt, ← hfb, hnn, Int.toNat_natCast])
        have HST := Lib.hid (show stsM (bs.take (j + 1)) = stsM (bs.take j) ++ [fb.st] by rw [stsM_take hlt, ← hfb])
        have HLT := Lib.hid (show LettN nn fb.word by have := HOKF.out.2.1; rwa [hnn, Int.toNat_natCast] at this)
        have hn12 : nn ≤ 12 := by have := HOKF.out.1; omega
        have HWL := Lib.hid (show fb.word.length ≤ 100000 by have := HOKF.out.2.2; omega)
        rw [hnn] at t0
        injection hvg with hA hL hC
        obtain rfl := hA
        have HIB := Lib.hid ib
        have HEB := Lib.hid eb
        have HQB := Lib.hid hqb
        have hjl : (j : Int) < (bs.length : Int) := by omega
        have hj0 : (0 : Int) ≤ (j : Int) := by omega
        have hjt : decide ((j : Int) < (bs.length : Int)) = true := decide_eq_true hjl
        obtain ⟨E1, k1, hv1, -⟩ := hn.out.val
        obtain ⟨E2, k2, hv2, -⟩ := he.out.val
        subst hv1
        subst hv2
        obtain ⟨FL, hFL⟩ : ∃ z, z = formsM (bs.take j) := ⟨_, rfl⟩
        obtain ⟨SL, hSL⟩ : ∃ z, z = stsM (bs.take j) := ⟨_, rfl⟩
        have HFLL := Lib.hid (show FL.length = j by rw [hFL, formsM_len, List.length_take]; omega)
        have HSLL := Lib.hid (show SL.length = j by rw [hSL, stsM_len, List.length_take]; omega)
        rw [← hFL] at hn hy0 hd HFT
        rw [← hSL] at he hy1 hd HST
        clear hfb hnn hL hC ib eb hqb hFL hSL
        go_upto_region 8 with fail
        obtain ⟨wb, hwb⟩ : ∃ z, z = wr.alloc (.cells #[.int .i64 (nn : Int), .slice Ab fb.word.length kb, .slice As fb.st.length ks] 98) := ⟨_, rfl⟩
        obtain ⟨bb, hbb⟩ : ∃ z, z = wr.heap.size := ⟨_, rfl⟩
        have HWB := Lib.hid (show wb.heap.size = bb + 1 ∧ wr.heap.size = bb ∧ ob + 1 ≤ bb by rw [hwb]; have := hg.out.size; have := HOB.out; exact ⟨by simp [hbb], hbb.symm, by omega⟩)
        have UB := Lib.hid (show Up wr wb by rw [hwb]; exact (Chg.refl _ _).alloc _)
        have Z0 := Lib.hid (show CellF wb ⟨bb, 0, none⟩ (.int .i64 (nn : Int)) by rw [hwb]; exact cellF_at hbb rfl)
        have Z1 := Lib.hid (show CellF wb ⟨bb, 1, none⟩ (.slice Ab fb.word.length kb) by rw [hwb]; exact cellF_at hbb rfl)
        have Z2 := Lib.hid (show CellF wb ⟨bb, 2, none⟩ (.slice As fb.st.length ks) by rw [hwb]; exact cellF_at hbb rfl)
        have P0 := Lib.hid (CellF.up UB.out hy0.out)
        have P1 := Lib.hid (CellF.up UB.out hy1.out)
        have HNB := Lib.hid (hn.out.up UB.out)
        have HIW := Lib.hid (HIB.out.up UB.out)
        have HQL := Lib.hid (show ∀ b, Q0 b → b < wb.heap.size from fun b hb => by have := (HCR.out.pv b hb).2.1; have := HWB.out; omega)
        try simp only []
        rw [← hwb, ← hbb]
        clear hwb hbb t0 t1 t2
        have z0 := Z0.out.1
        have z1 := Z1.out.1
        have p0 := P0.out.1
        go_region_law (first | (go_simp; go_at_call 46; (with_reducible refine (normalOf_any _ Q0 _ nn fb.word (HIW.out.up (by repeat (first | exact Chg.refl _ _ | apply Chg.drew | apply Chg.drewN | refine Chg.alloc ?_ _))) (fun b hb => Nat.lt_of_lt_of_le (HQL.out b hb) (Chg.size (S := Nowhere) (by repeat (first | exact Chg.refl _ _ | apply Chg.drew | apply Chg.drewN | refine Chg.alloc ?_ _)))) HLT.out hn12 HWL.out).mono ?_); rintro e w2 ⟨Qp, F, vF, rfl, hnm, hfr, hbd, g2⟩; obtain ⟨AF, cF, rfl, -⟩ := hfr.shape; have HNM := Lib.hid hnm; have HFR := Lib.hid (show FRow w2 wb.heap.size w2.heap.size (.slice AF F.length cF) F from hfr); have HBD := Lib.hid hbd; have G2 := Lib.hid (show Up wb w2 from Chg.trans (by repeat (first | exact Chg.refl _ _ | apply Chg.drew | apply Chg.drewN | refine Chg.alloc ?_ _)) g2); have p2 := Chg.cell G2.out P0.out.1 id; have p3 := Chg.cell ((Chg.refl Nowhere w2).alloc (.cells #[.int .i64 (nn : Int), .int .i64 Qp, .slice AF F.length cF] 100)) p2 id; clear hnm hfr hbd g2) | (refine step_append_norm rfl (.tmp 26) (.tmp 34) rfl (ob + 1) (.slice E1 FL.length k1) FL c1 lo hi (by simp [Act.eval, Act.put]) (HNB.out.up (Chg.trans G2.out (show Up w2 _ from (by repeat (first | exact Chg.refl _ _ | apply Chg.drew | apply Chg.drewN | refine Chg.alloc ?_ _))))) w2.heap.size ⟨(nn : Int), Qp, F⟩ AF cF (by simp [Act.eval, Act.put]) (by simp [cell_new]) (by simp [cell_new]) (by simp [cell_new]) wb.heap.size w2.heap.size (HFR.out.up (show Up w2 _ from (by repeat (first | exact Chg.refl _ _ | apply Chg.drew | apply Chg.drewN | refine Chg.alloc ?_ _)))) ⟨by unfold I64; (constructor <;> simp <;> omega), by have := HBD.out; have := HWL.out; unfold I64; (constructor <;> simp <;> omega)⟩ ⟨by have := HWB.out; omega, by simp⟩ (fun i hi' => by have := (hn.out.iv i hi').2.1; have := HWB.out; omega) (fun b e h => by have := (hn.out.own.lt b e).2; have := HWB.out; omega) (by have := HFLL.out; have := HLN.out; omega) (by have := HWB.out; have := G2.out.size; simp; omega) ?_; intro v' w' cs' h1 h2 h3; obtain ⟨FN, hFN⟩ : ∃ z, z = FL ++ [(⟨(nn : Int), Qp, F⟩ : NormM)] := ⟨_, rfl⟩; rw [← hFN] at h1; obtain ⟨E3, k3, rfl, -⟩ := h1.val; have HFN := Lib.hid hFN; have HN2 := Lib.hid h1; have HC2 := Lib.hid h2; have HO2 := Lib.hid h3; obtain ⟨q1c, q1f⟩ := CellF.chg (CellF.up (Chg.trans G2.out (show Up w2 _ from (by repeat (first | exact Chg.refl _ _ | apply Chg.drew | apply Chg.drewN | refine Chg.alloc ?_ _)))) P0.out) h2 (fun e => by have := (hn.out.own.lt ob e).1; omega); clear hFN h1 h2 h3))
        all_goals
          have HCW := Lib.hid (show Chg (fun b => (Value.slice E1 FL.length k1).ownBlock = some b) wb w' from Chg.trans (Chg.of_up (Chg.trans G2.out (show Up w2 _ from (by repeat (first | exact Chg.refl _ _ | apply Chg.drew | apply Chg.drewN | refine Chg.alloc ?_ _))))) HC2.out)
          have HV1 := Lib.hid (fun (b : Nat) (e : (Value.slice E1 FL.length k1).ownBlock = some b) => (show ob + 1 ≤ b ∧ b < wr.heap.size from hn.out.own.lt b e))
          have R1 := Lib.hid (show CellF (w'.setCell ⟨ob, 0, none⟩ (Value.slice E3 FN.length k3)) ⟨ob, 1, none⟩ (Value.slice E2 SL.length k2) from (CellF.chg P1.out HCW.out (fun e => by have := (HV1.out ob e).1; omega)).set_ne (by intro e; injection e with _ e2; omega))
          have R2 := Lib.hid (show CellF (w'.setCell ⟨ob, 0, none⟩ (Value.slice E3 FN.length k3)) ⟨bb, 2, none⟩ (Value.slice As fb.st.length ks) from (CellF.chg Z2.out HCW.out (fun e => by have := (HV1.out bb e).2; have := HWB.out; omega)).set_ne (by intro e; injection e with _ e2; omega))
          have R0 := Lib.hid (show CellF (w'.setCell ⟨ob, 0, none⟩ (Value.slice E3 FN.length k3)) ⟨ob, 0, none⟩ (Value.slice E3 FN.length k3) from CellF.set (show CellF w' ⟨ob, 0, none⟩ _ from ⟨q1c, q1f⟩))
          have HNN := Lib.hid (HN2.out.keep (box_chg w' ob 0 (Value.slice E3 FN.length k3)) (fun b _ h e => by have := (HN2.out.lt h).1; have e : b = ob := e; omega))
          have HCT := Lib.hid (show ∀ t b, t < j → q t = some b → w0.heap.size ≤ b ∧ b < ob from fun t b ht e => by have h1 := HC0.out.lt (.inr (.inr ⟨t, by omega, (hq.out t ht).symm.trans e⟩)); have := HOB.out; omega)
          have HCJ := Lib.hid (show ∀ b, (Value.slice As fb.st.length ks).ownBlock = some b → w0.heap.size ≤ b ∧ b < ob from fun b e => by have h1 := HC0.out.lt (.inr (.inr ⟨j, hlt, HQB.out.symm.trans e⟩)); have := HOB.out; omega)
          have HEN := Lib.hid (((he.out.up UB.out).keep HCW.out (fun b _ h e => h.elim (fun h => (hd.out b h).2 (.inl e)) (fun ⟨t, ht, h⟩ => by have := HCT.out t b (by have := HSLL.out; omega) h; have := (HV1.out b e).1; omega))).keep (box_chg w' ob 0 (Value.slice E3 FN.length k3)) (fun b _ h e => by have e : b = ob := e; exact h.elim (fun h => by have := (hd.out b h).1; omega) (fun ⟨t, ht, h⟩ => by have := HCT.out t b (by have := HSLL.out; omega) h; omega)))
          have HEBW := Lib.hid ((((HEB.out.up UB.out).kept HCW.out (fun b h e => by have := HCJ.out b h; have := (HV1.out b e).1; omega)).kept (box_chg w' ob 0 (Value.slice E3 FN.length k3)) (fun b h e => by have := HCJ.out b h; have e : b = ob := e; omega)).more (show w.heap.size ≤ w0.heap.size by have := HW0.out; omega))
          have HNE := Lib.hid (show ∀ b, (Value.slice As fb.st.length ks).ownBlock = some b → ¬ EK (Value.slice E2 SL.length k2) SL.length q b from fun b e h => h.elim (fun h => by have := (hd.out b h).1; have := HCJ.out b e; omega) (fun ⟨t, ht, h⟩ => absurd (HC0.out.qq t j b (by have := HSLL.out; omega) hlt ((hq.out t (by have := HSLL.out; omega)).symm.trans h) (HQB.out.symm.trans e)) (by have := HSLL.out; omega)))
          have HZ9 := Lib.hid (show w.heap.size ≤ w'.heap.size ∧ wr.heap.size ≤ w'.heap.size by have h1 := HUP.out.size; have h2 := UB.out.size; have h3 := HCW.out.size; omega)
          obtain ⟨r1, s1⟩ := R1.out
          obtain ⟨r2, s2⟩ := R2.out
          have hjb : j ≤ 60 := by have := HLN.out; omega
          have wj : IntKind.i64.wrap ((j : Int) + 1) = (j : Int) + 1 := IntWalk.i64_in _ (by omega)
          go_wp2_with (at_builtin; refine wp_append_evrow rfl _ _ rfl w.heap.size (Value.slice E2 SL.length k2) SL c2 q rfl (HEN.out.up ((Chg.refl _ _).alloc _)) _ fb.st As ks rfl (cell_at (by simp [World.setCell]) rfl) (HEBW.out.up ((Chg.refl _ _).alloc _)) HNE.out (by have := HSLL.out; have := HLN.out; omega) (by have := HZ9.out.1; simp [World.setCell]; omega) ?_; intro v8 w8 c8 h1 h2 h3; obtain ⟨SN, hSN⟩ : ∃ z, z = SL ++ [fb.st] := ⟨_, rfl⟩; rw [← hSN] at h1; obtain ⟨E8, k8, rfl, -⟩ := h1.val; have HSN := Lib.hid hSN; have HE8 := Lib.hid h1; have HC8 := Lib.hid h2; have HO8 := Lib.hid h3; obtain ⟨q3c, q3f⟩ := CellF.chg (CellF.up ((Chg.refl Nowhere _).alloc _) R1.out) h2 (fun e => by have := (hd.out ob e).1; omega); clear hSN h1 h2 h3)
          have HFNL := Lib.hid (show FN.length = FL.length + 1 by rw [HFN.out]; simp)
          have BX8 := Lib.hid (box_chg w8 ob 1 (.slice E8 SN.length k8))
          have HD9 := Lib.hid (show ∀ b, (Value.slice E2 SL.length k2).ownBlock = some b → ¬ NK (Value.slice E3 FN.length k3) FN.length (fun i => if i < FL.length then lo i else wb.heap.size) (fun i => if i < FL.length then hi i else w2.heap.size) b from fun b e h => by
            have hb2 := he.out.own.lt b e
            have hw := HWB.out
            have hz := G2.out.size
            rcases h with h | ⟨i, hi1, h1, h2⟩
            · exact (HO2.out b h).elim (fun h => (hd.out b e).2 (.inl h)) (fun h => by simp at h; omega)
            · by_cases hi3 : i < FL.length
              · simp only [if_pos hi3] at h1 h2
                exact (hd.out b e).2 (.inr ⟨i, hi3, h1, h2⟩)
              · simp only [if_neg hi3] at h1 h2
                omega)
          have HG9 := Lib.hid (show Chg (fun b => ob ≤ b) wf (w8.setCell ⟨ob, 1, none⟩ (.slice E8 SN.length k8)) from Chg.trans hg.out (Chg.trans (Chg.of_up UB.out) (Chg.trans (HCW.out.mono (fun b _ e => by have := (HV1.out b e).1; omega)) (Chg.trans ((box_chg w' ob 0 (Value.slice E3 FN.length k3)).mono (fun b _ e => by have e : b = ob := e; omega)) (Chg.trans (Chg.of_up ((Chg.refl _ _).alloc _)) (Chg.trans (HC8.out.mono (fun b _ e => by have := (hd.out b e).1; omega)) (BX8.out.mono (fun b _ e => by have e : b = ob := e; omega))))))))
          have HR0 := Lib.hid (show CellF (w8.setCell ⟨ob, 1, none⟩ (.slice E8 SN.length k8)) ⟨ob, 0, none⟩ (Value.slice E3 FN.length k3) from (CellF.chg (CellF.up ((Chg.refl Nowhere _).alloc _) R0.out) HC8.out (fun e => by have := (hd.out ob e).1; omega)).set_ne (by intro e; injection e with _ e2; omega))
          have HR1 := Lib.hid (show CellF (w8.setCell ⟨ob, 1, none⟩ (.slice E8 SN.length k8)) ⟨ob, 1, none⟩ (.slice E8 SN.length k8) from CellF.set (show CellF w8 ⟨ob, 1, none⟩ _ from ⟨q3c, q3f⟩))
          have HNF := Lib.hid (((HNN.out.up ((Chg.refl Nowhere _).alloc _)).keep HC8.out (fun b _ h e => HD9.out b e h)).keep BX8.out (fun b _ h e => by have := (HN2.out.lt h).1; have e : b = ob := e; omega))
          have HEF := Lib.hid (HE8.out.keep BX8.out (fun b _ h e => by
            have e : b = ob := e
            have h9 := HZ9.out
            have hw := HWB.out
            rcases h with h | ⟨t, ht, h⟩
            · exact (HO8.out b h).elim (fun h => by have := (hd.out b h).1; omega) (fun h => by simp [World.setCell] at h; omega)
            · by_cases h3 : t < SL.length
              · simp only [if_pos h3] at h; have := HCT.out t b (by have := HSLL.out; omega) h; omega
              · simp only [if_neg h3] at h; have := HCJ.out b h; omega))
          have HSNL := Lib.hid (show SN.length = SL.length + 1 by rw [HSN.out]; simp)
          have HQF := Lib.hid (show ∀ t, t < j + 1 → (fun i => if i < SL.length then q i else (Value.slice As fb.st.length ks).ownBlock) t = q0 t from fun t ht => by
            have hs := HSLL.out
            by_cases h3 : t < SL.length
            · simp only [if_pos h3]; exact hq.out t (by omega)
            · obtain rfl : t = j := by omega
              simp only [if_neg h3]; exact HQB.out)
          have HDF := Lib.hid (show ∀ b, (Value.slice E8 SN.length k8).ownBlock = some b → ob + 1 ≤ b ∧ ¬ NK (Value.slice E3 FN.length k3) FN.length (fun i => if i < FL.length then lo i else wb.heap.size) (fun i => if i < FL.length then hi i else w2.heap.size) b from fun b e => (HO8.out b e).elim (fun e => ⟨(hd.out b e).1, HD9.out b e⟩) (fun h => by have h9 := HZ9.out; have hw := HWB.out; simp [World.setCell] at h; exact ⟨by omega, fun hk => by have := (HN2.out.lt hk).2; omega⟩))
          have HNE2 := Lib.hid (show formsM (bs.take (j + 1)) = FN by rw [HFT.out, HNM.out, HFN.out])
          have HSE2 := Lib.hid (show stsM (bs.take (j + 1)) = SN by rw [HST.out, HSN.out])
          go_roundw
          case rel => exact ⟨j + 1, _, _, _, _, _, c8, _, by omega, by go_num, HR0, HR1, by rw [HNE2.out]; exact HNF, by rw [HSE2.out]; exact HEF, HQF, by rw [HNE2.out]; exact HDF, HG9⟩
          case measure => first | (simp [intOf]; done) | (simp [intOf]; omega)
end Go.Proofs.Ytplabnjdhkmmkaa
