/- The reference's proof of events. No condition. -/
import Derived.Test.YtplabnjdhkmmkaaPF15
import Derived.Deep.RegionHeld3
import Derived.Deep.DeepCutAuto
import Derived.Deep.CutBlock
set_option maxRecDepth 100000
set_option maxHeartbeats 4000000
set_option linter.unusedSimpArgs false
set_option linter.unusedVariables false
namespace Go.Proofs.Ytplabnjdhkmmkaa
open Go.ChangeShapes Go.WideShapes Go.ChangeAt Go.RowKit
/-- the value of the reference's proof: its parts only read -/
def MadeS (w : World) (base : Nat) (v1 v2 : Value) (bs : List BlkM) : Prop := ∃ c1 lo hi c2 q, SRow w base v1 (formsM bs) c1 lo hi ∧ ERow w base v2 (stsM bs) c2 q
theorem SRow.more {w : World} {base base' : Nat} {v : Value} {fs : List NormM} {cs : List Value} {lo hi : Nat → Nat} (h : SRow w base v fs cs lo hi) (hb : base' ≤ base) : SRow w base' v fs cs lo hi := by
  refine ⟨⟨h.own.1, ?_⟩, h.row, fun i hi' => ⟨Nat.le_trans hb (h.iv i hi').1, (h.iv i hi').2⟩, h.dj⟩
  rcases h.own.2 with h1 | ⟨g, cap, cur, e, hg, r⟩
  · exact .inl h1
  · exact .inr ⟨g, cap, cur, e, by omega, r⟩
theorem ERow.more {w : World} {base base' : Nat} {v : Value} {ss : List (List EvM)} {cs : List Value} {q : Nat → Option Nat} (h : ERow w base v ss cs q) (hb : base' ≤ base) : ERow w base' v ss cs q := by
  refine ⟨⟨h.own.1, ?_⟩, fun i hi => let ⟨vs, e1, e2, e3⟩ := h.row i hi; ⟨vs, e1, e2.more hb, e3⟩, h.qv, h.qq⟩
  rcases h.own.2 with h1 | ⟨g, cap, cur, e, hg, r⟩
  · exact .inl h1
  · exact .inr ⟨g, cap, cur, e, by omega, r⟩
theorem l26Proof_any (w : World) (base : Nat) (v0 : Value) (bs : List BlkM) (cs0 : List Value) (q0 : Nat → Option Nat) (Q0 : Nat → Prop) (hc : BCore w base v0 bs cs0 q0 Q0) (hok : (∀ b ∈ bs, okB b) ∧ bs.length ≤ 60) (hst : ∀ b ∈ bs, b.st.length ≤ 1000000) :
    Calls Try.prog 43 #[v0] w fun e w' => ∃ v1 v2, e = .returned (.agg #[v1, v2]) ∧ MadeS w' w.heap.size v1 v2 bs ∧ Up w w' := by
  obtain ⟨Av, cv, rfl, -, -, -⟩ := hc.val
  have HC0 := Lib.hid hc
  have HOKB := Lib.hid hok
  have HLN := Lib.hid hok.2
  have HST0 := Lib.hid hst
  clear hc hok hst
  go_enter Try.func43, Try.ntmps43
  go_wp2_with fail
  obtain ⟨ob, hob⟩ : ∃ z, z = w.heap.size + 1 := ⟨_, rfl⟩
  obtain ⟨wf, hwf⟩ : ∃ z, z = ((w.alloc (.cells #[.slice none 0 0, .slice none 0 0] 57)).alloc (.cells #[.slice none 0 0, .slice none 0 0] 57)) := ⟨_, rfl⟩
  have X0 := Lib.hid (show CellF wf ⟨w.heap.size, 0, none⟩ (.slice none 0 0) by rw [hwf]; exact CellF.up ((Chg.refl _ _).alloc _) (cellF_at rfl rfl))
  have X1 := Lib.hid (show CellF wf ⟨w.heap.size, 1, none⟩ (.slice none 0 0) by rw [hwf]; exact CellF.up ((Chg.refl _ _).alloc _) (cellF_at rfl rfl))
  have Y0 := Lib.hid (show CellF wf ⟨ob, 0, none⟩ (.slice none 0 0) by rw [hwf]; exact cellF_at (by rw [hob]; simp) rfl)
  have Y1 := Lib.hid (show CellF wf ⟨ob, 1, none⟩ (.slice none 0 0) by rw [hwf]; exact cellF_at (by rw [hob]; simp) rfl)
  have UF := Lib.hid (show Up w wf by rw [hwf]; exact ((Chg.refl _ _).alloc _).alloc _)
  have HCF := Lib.hid (HC0.out.up UF.out)
  have HOB := Lib.hid (show wf.heap.size = ob + 1 ∧ w.heap.size + 1 = ob by rw [hwf]; exact ⟨by simp [hob], hob.symm⟩)
  try simp only []
  rw [← hwf, ← hob]
  clear hwf hob
  go_loopw [4] (fun i wr => ∃ (j : Nat) (v1 v2 : Value) (c1 : List Value) (lo hi : Nat → Nat) (c2 : List Value) (q : Nat → Option Nat), j ≤ bs.length ∧ i = .int .i64 (j : Int) ∧ Hid (CellF wr ⟨ob, 0, none⟩ v1) ∧ Hid (CellF wr ⟨ob, 1, none⟩ v2) ∧ Hid (SRow wr (ob + 1) v1 (formsM (bs.take j)) c1 lo hi) ∧ Hid (ERow wr (ob + 1) v2 (stsM (bs.take j)) c2 q) ∧ Hid (∀ x, NK v1 (formsM (bs.take j)).length lo hi x → ¬ EK v2 (stsM (bs.take j)).length q x) ∧ Hid (Chg (fun b => ob ≤ b) wf wr)) (fun i _ => bs.length - (intOf i).toNat)
  case atStart => exact ⟨0, _, _, [], fun _ => 0, fun _ => 0, [], fun _ => none, by omega, rfl, Y0, Y1, Lib.hid (SRow.nil _ _), Lib.hid (ERow.nil _ _), Lib.hid (fun x h => h.elim (fun h => by cases h) (fun ⟨i, h, _⟩ => by simp [formsM] at h)), Lib.hid (Chg.refl _ _)⟩
  case round =>
    obtain ⟨j, v1, v2, c1, lo, hi, c2, q, hj, rfl, hy0, hy1, hn, he, hd, hg⟩ := hrel
    have HUP := Lib.hid (show Up w wr from Chg.new UF.out hg.out (fun i hi e => by have e : ob ≤ i := e; have := HOB.out; omega))
    by_cases hlt : j < bs.length
    rotate_left
    · obtain rfl : j = bs.length := by omega
      have htd : decide ((bs.length : Int) < (bs.length : Int)) = false := decide_eq_false (by omega)
      have HN := Lib.hid (show SRow wr (ob + 1) v1 (formsM bs) c1 lo hi by have := hn.out; rwa [List.take_length] at this)
      have HE := Lib.hid (show ERow wr (ob + 1) v2 (stsM bs) c2 q by have := he.out; rwa [List.take_length] at this)
      obtain ⟨a0, b0⟩ := hy0.out
      obtain ⟨a1, b1⟩ := hy1.out
      have NB : ¬ (ob ≤ w.heap.size) := by have := HOB.out; omega
      obtain ⟨x0, y0⟩ := CellF.chg X0.out hg.out NB
      obtain ⟨x1, y1⟩ := CellF.chg X1.out hg.out NB
      have hbn1 : ¬ w.heap.size = ob := by omega
      have hbn2 : ¬ ob = w.heap.size := by omega
      obtain ⟨E1, k1, hv1, -⟩ := HN.out.val
      obtain ⟨E2, k2, hv2, -⟩ := HE.out.val
      subst hv1
      subst hv2
      clear NB
      go_wp2_with fail
      have CZ := Lib.hid (show Chg (fun b => b = w.heap.size) wr ((wr.setCell ⟨w.heap.size, 0, none⟩ (.slice E1 (formsM bs).length k1)).setCell ⟨w.heap.size, 1, none⟩ (.slice E2 (stsM bs).length k2)) from Chg.trans (box_chg _ _ _ _) (box_chg _ _ _ _))
      refine bodyPost_ret (v := .agg #[.slice E1 (formsM bs).length k1, .slice E2 (stsM bs).length k2]) (by simp [results, Try.results43, go_sem, x0, x1]) rfl ?_
      refine ⟨_, _, rfl, ⟨c1, lo, hi, c2, q, (HN.out.keep CZ.out (fun b _ h e => by have := (HN.out.lt h).1; have e : b = w.heap.size := e; have := HOB.out; omega)).more (by have := HOB.out; omega), (HE.out.keep CZ.out (fun b _ h e => by have := (HE.out.lt h).1; have e : b = w.heap.size := e; have := HOB.out; omega)).more (by have := HOB.out; omega)⟩, Chg.new HUP.out CZ.out (fun i hi e => by have e : i = w.heap.size := e; omega)⟩
    have HCR := Lib.hid (HCF.out.keep hg.out (fun b _ hk e => by have := (HC0.out.lt hk).2; have := HOB.out; have e : ob ≤ b := e; omega))
    obtain ⟨fb, g, cg, Ab, kb, As, ks, hfb, hvg, t0, t1, t2, ib, eb, hqb⟩ := HCR.out.at3 hlt
    have HSTL := Lib.hid (show fb.st.length ≤ 1000000 by rw [hfb]; exact HST0.out _ (List.getElem_mem hlt))
    have HOKF := Lib.hid (show okB fb by rw [hfb]; exact HOKB.out.1 _ (List.getElem_mem hlt))
    obtain ⟨nn, hnn⟩ : ∃ nn : Nat, fb.n = (nn : Int) := ⟨fb.n.toNat, by have := HOKF.out.1; omega⟩
    have HFT := Lib.hid (show formsM (bs.take (j + 1)) = formsM (bs.take j) ++ [normM nn fb.word] by rw [formsM_take hlt, ← hfb, hnn, Int.toNat_natCast])
    have HST := Lib.hid (show stsM (bs.take (j + 1)) = stsM (bs.take j) ++ [fb.st] by rw [stsM_take hlt, ← hfb])
    have HLT := Lib.hid (show LettN nn fb.word by have := HOKF.out.2.1; rwa [hnn, Int.toNat_natCast] at this)
    have hn12 : nn ≤ 12 := by have := HOKF.out.1; omega
    have HWL := Lib.hid (show fb.word.length ≤ 100000 by have := HOKF.out.2.2; omega)
    rw [hnn] at t0
    injection hvg with hA hL hC
    obtain rfl := hA
    have HIB := Lib.hid ib
    have HEB := Lib.hid eb
    have HQB := Lib.hid hqb
    have HOBB := Lib.hid (show ∀ b, (Value.slice As fb.st.length ks).ownBlock = some b → b < ob from fun b h => by have h1 := HC0.out.lt (.inr (.inr ⟨j, hlt, hqb.symm.trans h⟩)); have := HOB.out; omega)
    have HGB := Lib.hid (show g < ob from by have h1 := HC0.out.lt (b := g) (.inl rfl); have := HOB.out; omega)
    have hjl : (j : Int) < (bs.length : Int) := by omega
    have hj0 : (0 : Int) ≤ (j : Int) := by omega
    have hjt : decide ((j : Int) < (bs.length : Int)) = true := decide_eq_true hjl
    obtain ⟨E1, k1, hv1, -⟩ := hn.out.val
    obtain ⟨E2, k2, hv2, -⟩ := he.out.val
    subst hv1
    subst hv2
    obtain ⟨FL, hFL⟩ : ∃ z, z = formsM (bs.take j) := ⟨_, rfl⟩
    obtain ⟨SL, hSL⟩ : ∃ z, z = stsM (bs.take j) := ⟨_, rfl⟩
    have HFLL := Lib.hid (show FL.length = j by rw [hFL, formsM_len, List.length_take]; omega)
    have HSLL := Lib.hid (show SL.length = j by rw [hSL, stsM_len, List.length_take]; omega)
    rw [← hFL] at hn hy0 hd HFT
    rw [← hSL] at he hy1 hd HST
    have T2 := Lib.hid (show wr.cell? ⟨g, j * 3 + 2, none⟩ = _ from t2)
    obtain ⟨FN1, hFN1⟩ : ∃ z, z = formsM (bs.take (j + 1)) := ⟨_, rfl⟩
    obtain ⟨SN1, hSN1⟩ : ∃ z, z = stsM (bs.take (j + 1)) := ⟨_, rfl⟩
    rw [← hFN1] at HFT
    rw [← hSN1] at HST
    have HFN1 := Lib.hid hFN1
    have HSN1 := Lib.hid hSN1
    clear hfb hnn hL hC ib eb hqb hFL hSL t2 hFN1 hSN1
    go_upto_block 1 with fail
    go_cut [41] (fun _ wy => ∃ (v3 : Value) (c3 : List Value) (lo3 hi3 : Nat → Nat) (v8 : Value) (c8 : List Value) (q8 : Nat → Option Nat), Hid (CellF wy ⟨ob, 0, none⟩ v3) ∧ Hid (CellF wy ⟨ob, 1, none⟩ v8) ∧ Hid (SRow wy (ob + 1) v3 FN1 c3 lo3 hi3) ∧ Hid (ERow wy (ob + 1) v8 SN1 c8 q8) ∧ Hid (∀ x, NK v3 FN1.length lo3 hi3 x → ¬ EK v8 SN1.length q8 x) ∧ Hid (Chg (fun b => ob ≤ b) wr wy))
    case first =>
      go_upto_region 5 with fail
      go_cut [29] (fun _ wx => ∃ (v3 : Value) (c3 : List Value) (lo3 hi3 : Nat → Nat), Hid (CellF wx ⟨ob, 0, none⟩ v3) ∧ Hid (CellF wx ⟨ob, 1, none⟩ (Value.slice E2 SL.length k2)) ∧ Hid (wx.cell? ⟨g, j * 3 + 2, none⟩ = some (Value.slice As fb.st.length ks)) ∧ Hid (SRow wx (ob + 1) v3 FN1 c3 lo3 hi3) ∧ Hid (ERow wx (ob + 1) (Value.slice E2 SL.length k2) SL c2 q) ∧ Hid (OwnEvs wx base (Value.slice As fb.st.length ks) fb.st) ∧ Hid (∀ x, NK v3 FN1.length lo3 hi3 x → ¬ EK (Value.slice E2 SL.length k2) SL.length q x) ∧ Hid (Chg (fun b => ob ≤ b) wr wx))
      case first =>
        have p0 := hy0.out.1
        go_region_law (first | (go_simp; go_at_call 76; (with_reducible refine (l04Normal_any _ Q0 _ nn fb.word (HIB.out.up (by repeat (first | exact Chg.refl _ _ | apply Chg.drew | apply Chg.drewN | refine Chg.alloc ?_ _))) HLT.out hn12 HWL.out).mono ?_); rintro e w2 ⟨Qp, F, vF, rfl, hnm, hfr, hbd, g2⟩; obtain ⟨AF, cF, rfl, -⟩ := (hfr.rd Nowhere).shape; have HNM := Lib.hid hnm; have HFR := Lib.hid (show ISt w2 wr.heap.size w2.heap.size (.slice AF F.length cF) F from hfr.ist); have HBD := Lib.hid hbd; have G2 := Lib.hid (show Up wr w2 from Chg.trans (by repeat (first | exact Chg.refl _ _ | apply Chg.drew | apply Chg.drewN | refine Chg.alloc ?_ _)) g2); have p2 := Chg.cell G2.out hy0.out.1 id; have p3 := Chg.cell ((Chg.refl Nowhere w2).alloc (.cells #[.int .i64 (nn : Int), .int .i64 Qp, .slice AF F.length cF] 100)) p2 id; clear hnm hfr hbd g2) | (refine step_append_snorm rfl (.tmp 13) (.tmp 27) rfl (ob + 1) (Value.slice E1 FL.length k1) FL c1 lo hi (by simp [Act.eval, Act.put]) (hn.out.up (Chg.trans G2.out (show Up w2 _ from (by repeat (first | exact Chg.refl _ _ | apply Chg.drew | apply Chg.drewN | refine Chg.alloc ?_ _))))) w2.heap.size ⟨(nn : Int), Qp, F⟩ AF cF (by simp [Act.eval, Act.put]) (by simp [cell_new]) (by simp [cell_new]) (by simp [cell_new]) wr.heap.size w2.heap.size (HFR.out.up (show Up w2 _ from (by repeat (first | exact Chg.refl _ _ | apply Chg.drew | apply Chg.drewN | refine Chg.alloc ?_ _)))) ⟨by unfold I64; (constructor <;> simp <;> omega), by have := HBD.out; have := HWL.out; unfold I64; (constructor <;> simp <;> omega)⟩ ⟨by have := hg.out.size; have := HOB.out; omega, by simp⟩ (fun i hi' => (hn.out.iv i hi').2.1) (fun b e h => by have := (hn.out.own.lt b e).2; omega) (by have := HFLL.out; have := HLN.out; omega) (by have := hg.out.size; have := HOB.out; have := G2.out.size; simp; omega) ?_; intro v' w' cs' h1 h2 h3; obtain ⟨FN, hFN⟩ : ∃ z, z = FL ++ [(⟨(nn : Int), Qp, F⟩ : NormM)] := ⟨_, rfl⟩; rw [← hFN] at h1; obtain ⟨E3, k3, rfl, -⟩ := h1.val; have HFN := Lib.hid hFN; have HN2 := Lib.hid h1; have HC2 := Lib.hid h2; have HO2 := Lib.hid h3; obtain ⟨q1c, q1f⟩ := CellF.chg (CellF.up (Chg.trans G2.out (show Up w2 _ from (by repeat (first | exact Chg.refl _ _ | apply Chg.drew | apply Chg.drewN | refine Chg.alloc ?_ _)))) hy0.out) h2 (fun e => by have := (hn.out.own.lt ob e).1; omega); clear hFN h1 h2 h3))
        all_goals (go_wp2_with fail; go_meet)
        all_goals
          have HSW := Lib.hid (show ob + 1 ≤ wr.heap.size ∧ wr.heap.size ≤ w2.heap.size by have := hg.out.size; have := HOB.out; have := G2.out.size; omega)
          have HCW := Lib.hid (show Chg (fun b => (Value.slice E1 FL.length k1).ownBlock = some b) wr w' from Chg.trans (Chg.of_up (Chg.trans G2.out (show Up w2 _ from (by repeat (first | exact Chg.refl _ _ | apply Chg.drew | apply Chg.drewN | refine Chg.alloc ?_ _))))) HC2.out)
          have HV1 := Lib.hid (fun (b : Nat) (e : (Value.slice E1 FL.length k1).ownBlock = some b) => (show ob + 1 ≤ b ∧ b < wr.heap.size from hn.out.own.lt b e))
          obtain rfl : FN = FN1 := by rw [HFT.out, HNM.out, HFN.out]
          have HD9 := Lib.hid (show ∀ x, NK (Value.slice E3 FN.length k3) FN.length (fun i => if i < FL.length then lo i else wr.heap.size) (fun i => if i < FL.length then hi i else w2.heap.size) x → ¬ EK (Value.slice E2 SL.length k2) SL.length q x from fun x h he2 => by
            have hw := HSW.out
            have hlt2 := (he.out.lt he2).2
            have hz := G2.out.size
            rcases h with h | ⟨i, hi1, h1, h2⟩
            · exact (HO2.out x h).elim (fun h => hd.out x (.inl h) he2) (fun h => by simp at h; omega)
            · by_cases hi3 : i < FL.length
              · simp only [if_pos hi3] at h1 h2
                exact hd.out x (.inr ⟨i, hi3, h1, h2⟩) he2
              · simp only [if_neg hi3] at h1 h2
                omega)
          refine ⟨(Value.slice E3 FN.length k3), cs', (fun i => if i < FL.length then lo i else wr.heap.size), (fun i => if i < FL.length then hi i else w2.heap.size), Lib.hid (CellF.set (show CellF w' ⟨ob, 0, none⟩ _ from ⟨q1c, q1f⟩)), Lib.hid ((CellF.chg hy1.out HCW.out (fun e => by have := (HV1.out ob e).1; omega)).set_ne (by intro e; injection e with _ e2; omega)), Lib.hid ?_, Lib.hid (HN2.out.keep (box_chg w' ob 0 (Value.slice E3 FN.length k3)) (fun b _ h e => by have := (HN2.out.lt h).1; have e : b = ob := e; omega)), Lib.hid ((he.out.keep HCW.out (fun b _ h e => hd.out b (.inl e) h)).keep (box_chg w' ob 0 (Value.slice E3 FN.length k3)) (fun b _ h e => by have := (he.out.lt h).1; have e : b = ob := e; omega)), Lib.hid ((HEB.out.kept HCW.out (fun b h e => by have := (HV1.out b e).1; have := HOBB.out b h; omega)).kept (box_chg w' ob 0 (Value.slice E3 FN.length k3)) (fun b h e => by have := HOBB.out b h; have e : b = ob := e; omega)), HD9, Lib.hid (Chg.trans (HCW.out.mono (fun b _ e => by have := (HV1.out b e).1; omega)) ((box_chg w' ob 0 (Value.slice E3 FN.length k3)).mono (fun b _ e => by have e : b = ob := e; omega)))⟩
          exact Chg.cell (Chg.trans (HCW.out.mono (T := fun b => ob ≤ b) (fun b _ e => by have := (HV1.out b e).1; omega)) ((box_chg w' ob 0 (Value.slice E3 FN.length k3)).mono (fun b _ e => by have e : b = ob := e; omega))) T2.out (fun e => by have := HGB.out; have e : ob ≤ g := e; omega)
      case rest =>
        obtain ⟨v3, c3, lo3, hi3, R0, R1, R2, HNN, HEN, HEBW, HD9, HCX⟩ := hcut
        obtain ⟨E3, k3, rfl, -⟩ := HNN.out.val
        obtain ⟨wx, hwx⟩ : ∃ x, x = wc := ⟨_, rfl⟩
        subst hwx
        have HSX := Lib.hid (show ob + 1 ≤ wx.heap.size by have := HCX.out.size; have := hg.out.size; have := HOB.out; omega)
        have hjb : j ≤ 60 := by have := HLN.out; omega
        have wj : IntKind.i64.wrap ((j : Int) + 1) = (j : Int) + 1 := IntWalk.i64_in _ (by omega)
        go_upto_region 6 with fail
        have r1 := R1.out.1
        have r2 := R2.out
        have r1a := Chg.cell ((Chg.refl Nowhere wx).alloc (.cells #[] 92)) R1.out.1 id
        have r2a := Chg.cell ((Chg.refl Nowhere wx).alloc (.cells #[] 92)) R2.out id
        go_region_law (first | (refine step_appendEvs rfl (.tmp 32) (.tmp 37) rfl wx.heap.size (.slice (some ⟨wx.heap.size, 0, none⟩) 0 0) [] (by simp [Act.eval, Act.put]) (OwnEvs.made _ wx.heap.size (by simp)) _ (Value.slice As fb.st.length ks) fb.st (by simp [Act.eval, Act.put]) (HEBW.out.rdOwn.up (by repeat (first | exact Chg.refl _ _ | apply Chg.drew | apply Chg.drewN | refine Chg.alloc ?_ _))) (by have := HSTL.out; simp; omega) (by simp) ?_; intro v5 w5 h1 h2 h3; rw [List.nil_append] at h1; obtain ⟨A5, k5, rfl, -⟩ := h1.val; have HV5 := Lib.hid h1; have HG5 := Lib.hid (show Chg (fun b => wx.heap.size ≤ b) wx w5 from Chg.trans (Chg.of_up (show Up wx _ from (by repeat (first | exact Chg.refl _ _ | apply Chg.drew | apply Chg.drewN | refine Chg.alloc ?_ _)))) h3); have r1b := Chg.cell HG5.out R1.out.1 (fun e => by have e : wx.heap.size ≤ ob := e; have := HSX.out; omega); have r1c := Chg.cell ((Chg.refl Nowhere w5).alloc (.cells #[.slice A5 fb.st.length k5] 40)) r1b id; clear h1 h2 h3) | (refine step_append_evrow rfl (.tmp 31) (.tmp 39) rfl (ob + 1) (Value.slice E2 SL.length k2) SL c2 q (by simp [Act.eval, Act.put]) ((HEN.out.keep HG5.out (fun b _ h e => by have e : wx.heap.size ≤ b := e; have := (HEN.out.lt h).2; omega)).up (show Up w5 _ from (by repeat (first | exact Chg.refl _ _ | apply Chg.drew | apply Chg.drewN | refine Chg.alloc ?_ _)))) w5.heap.size fb.st A5 k5 (by simp [Act.eval, Act.put]) (by simp [cell_new]) ((HV5.out.more (by have := HSX.out; omega)).up (show Up w5 _ from (by repeat (first | exact Chg.refl _ _ | apply Chg.drew | apply Chg.drewN | refine Chg.alloc ?_ _)))) (fun b e h => by have h1 := HV5.out.lt e; have h2 := (HEN.out.lt h).2; omega) (by have := HSLL.out; have := HLN.out; omega) (by have := HSX.out; have := HG5.out.size; simp; omega) ?_; intro v8 w8 c8 h1 h2 h3; obtain ⟨SN, hSN⟩ : ∃ z, z = SL ++ [fb.st] := ⟨_, rfl⟩; rw [← hSN] at h1; obtain ⟨E8, k8, rfl, -⟩ := h1.val; have HSN := Lib.hid hSN; have HE8 := Lib.hid h1; have HC8 := Lib.hid h2; have HO8 := Lib.hid h3; obtain ⟨q3c, q3f⟩ := CellF.chg (CellF.up (show Up w5 _ from (by repeat (first | exact Chg.refl _ _ | apply Chg.drew | apply Chg.drewN | refine Chg.alloc ?_ _))) (CellF.chg R1.out HG5.out (fun e => by have e : wx.heap.size ≤ ob := e; have := HSX.out; omega))) h2 (fun e => by have := (he.out.own.lt ob e).1; omega); clear hSN h1 h2 h3))
        all_goals (go_wp2_with fail; go_meet)
        all_goals
          have BX8 := Lib.hid (box_chg w8 ob 1 (.slice E8 SN.length k8))
          have HS5 := Lib.hid (show wx.heap.size ≤ w5.heap.size from HG5.out.size)
          obtain rfl : SN = SN1 := by rw [HST.out, HSN.out]
          refine ⟨_, c3, lo3, hi3, _, c8, _, Lib.hid ((CellF.chg (CellF.up (show Up w5 _ from (by repeat (first | exact Chg.refl _ _ | apply Chg.drew | apply Chg.drewN | refine Chg.alloc ?_ _))) (CellF.chg R0.out HG5.out (fun e => by have e : wx.heap.size ≤ ob := e; have := HSX.out; omega))) HC8.out (fun e => by have := (he.out.own.lt ob e).1; omega)).set_ne (by intro e; injection e with _ e2; omega)), Lib.hid (CellF.set (show CellF w8 ⟨ob, 1, none⟩ _ from ⟨q3c, q3f⟩)), Lib.hid ((((HNN.out.keep HG5.out (fun b _ h e => by have e : wx.heap.size ≤ b := e; have := (HNN.out.lt h).2; omega)).up (show Up w5 _ from (by repeat (first | exact Chg.refl _ _ | apply Chg.drew | apply Chg.drewN | refine Chg.alloc ?_ _)))).keep HC8.out (fun b _ h e => HD9.out b h (.inl e))).keep BX8.out (fun b _ h e => by have := (HNN.out.lt h).1; have e : b = ob := e; omega)), Lib.hid (HE8.out.keep BX8.out (fun b _ h e => by have := (HE8.out.lt h).1; have e : b = ob := e; omega)), Lib.hid (fun x h he2 => ?_), Lib.hid (Chg.trans HCX.out (Chg.trans (HG5.out.mono (fun b _ e => by have e : wx.heap.size ≤ b := e; have := HSX.out; omega)) (Chg.trans (Chg.of_up (show Up w5 _ from (by repeat (first | exact Chg.refl _ _ | apply Chg.drew | apply Chg.drewN | refine Chg.alloc ?_ _)))) (Chg.trans (HC8.out.mono (fun b _ e => by have := (he.out.own.lt b e).1; omega)) (BX8.out.mono (fun b _ e => by have e : b = ob := e; omega))))))⟩
          have h0 := (HNN.out.lt h).2
          have h5 := HS5.out
          rcases he2 with h1 | ⟨i, h1, h2⟩
          · exact (HO8.out x h1).elim (fun h2 => HD9.out x h (.inl h2)) (fun h2 => by simp at h2; omega)
          · by_cases h3 : i < SL.length
            · simp only [if_pos h3] at h2; exact HD9.out x h (.inr ⟨i, h3, h2⟩)
            · simp only [if_neg h3] at h2; have := HV5.out.lt h2; omega
    case rest =>
      obtain ⟨v3, c3, lo3, hi3, v8, c8, q8, S0, S1, S2, S3, S4, S5⟩ := hcut
      rw [HFN1.out] at S2 S4
      rw [HSN1.out] at S3 S4
      have HG9 := Lib.hid (Chg.trans hg.out S5.out)
      have hjb : j ≤ 60 := by have := HLN.out; omega
      have wj : IntKind.i64.wrap ((j : Int) + 1) = (j : Int) + 1 := IntWalk.i64_in _ (by omega)
      go_wp2
      go_roundw
      case rel => exact ⟨j + 1, _, _, _, _, _, c8, _, by omega, by go_num, S0, S1, S2, S3, S4, HG9⟩
      case measure => first | (simp [intOf]; done) | (simp [intOf]; omega)
theorem ProofR.wider {w : World} {S T : Nat → Prop} {v : Value} {p : ProofM} (h : ProofR (b := false) w S v p) (hs : ∀ x, S x → T x) : ProofR (b := false) w T v p := ⟨ProofV.mono h.1 (fun x _ h => hs x h) (fun x _ h => hs x h) (fun x _ h => hs x h), fun h => by cases h⟩
theorem MadeS.res {w : World} {base : Nat} {v1 v2 : Value} {bs : List BlkM} (h : MadeS w base v1 v2 bs) : ProofR (b := false) w (New base w.heap.size) (.agg #[v1, v2]) ⟨formsM bs, stsM bs⟩ := by
  obtain ⟨c1, lo, hi, c2, q, hn, he⟩ := h
  obtain ⟨A1, d1, rfl, l1, m1, -⟩ := hn.val
  obtain ⟨A2, d2, rfl, l2, m2, -⟩ := he.val
  refine ⟨⟨A1, d1, A2, d2, rfl, ⟨c1, Raw.of_own hn.own, fun i hi' => ?_⟩, ⟨c2, Raw.of_own he.own, fun i hi' => ?_⟩, ⟨l1, m1⟩, ⟨l2, m2⟩⟩, fun h => by cases h⟩
  · obtain ⟨A, k, e0, e1, e2, f, n1, n2⟩ := hn.row i hi'
    have hcl : c1.length = (formsM bs).length * 3 := hn.own.1
    have e : (c1.drop (i * 3)).take 3 = [.int .i64 (formsM bs)[i].n, .int .i64 (formsM bs)[i].p, .slice A (formsM bs)[i].fs.length k] := by
      refine List.ext_getElem? fun t => ?_
      match t with
      | 0 => rw [List.getElem?_take_of_lt (by omega), List.getElem?_drop, Nat.add_zero, e0]; rfl
      | 1 => rw [List.getElem?_take_of_lt (by omega), List.getElem?_drop, e1]; rfl
      | 2 => rw [List.getElem?_take_of_lt (by omega), List.getElem?_drop, e2]; rfl
      | t + 3 => rw [List.getElem?_take_eq_none (by omega), List.getElem?_eq_none (by simp)]
    rw [e]
    obtain ⟨A', c', hv, hl1, hl2, -⟩ := Nst.shape f
    injection hv with _ _ hv
    subst hv
    have hiv := hn.iv i hi'
    exact ⟨A, k, rfl, IntSSV.mono f (fun _ _ h => h.elim) (fun x _ h => ⟨by omega, by omega⟩) (fun x _ h => ⟨by omega, by omega⟩), ⟨hl1, hl2⟩, n1, n2⟩
  · obtain ⟨vs, e0, o1, hq⟩ := he.row i hi'
    obtain ⟨A, k, rfl, hl1, hl2, -⟩ := o1.val
    have hcl : c2.length = (stsM bs).length * 1 := he.own.1
    have hg := List.getElem?_eq_some_iff.1 e0
    have hi2 : i < (stsM bs).length := hi'
    rw [chunk1 (by omega), hg.2]
    exact ⟨A, k, rfl, o1.rd, hl1, hl2⟩
theorem NilP.res (w : World) (base : Nat) : ProofR (b := false) w (New base w.heap.size) (.agg #[.slice none 0 0, .slice none 0 0]) ⟨[], []⟩ := ⟨(MadeP.nil w base).1, fun h => by cases h⟩
theorem prfM_bad {xs : List EvM} (h : okE xs = false) : prfM xs = ⟨[], []⟩ ∧ prfK xs = 1 := by unfold prfM prfK; rw [h]; exact ⟨rfl, rfl⟩
theorem prfM_none {xs : List EvM} (h : okE xs = true) (hb : blkR xs 0 [] [⟨0, [], []⟩] = none) : prfM xs = ⟨[], []⟩ ∧ prfK xs = 5 := by unfold prfM prfK; rw [if_pos h, if_pos h, hb]; exact ⟨rfl, rfl⟩
theorem prfM_some {xs : List EvM} {bs : List BlkM} (h : okE xs = true) (hb : blkR xs 0 [] [⟨0, [], []⟩] = some bs) : prfM xs = ⟨formsM bs, stsM bs⟩ ∧ prfK xs = 0 := by unfold prfM prfK; rw [if_pos h, if_pos h, hb]; exact ⟨rfl, rfl⟩
theorem sProofOf_any (w : World) (S : Nat → Prop) (vx : Value) (xs : List EvM) (h : Evs w S vx xs) (hS : ∀ b, S b → b < w.heap.size) (hl : xs.length ≤ 2000000) :
    Calls Try.prog 16 #[vx] w fun e w' => ∃ u, e = .returned (.tuple #[u, .int .i64 (prfK xs)]) ∧ ProofR (b := false) w' (New w.heap.size w'.heap.size) u (prfM xs) ∧ Up w w' := by
  obtain ⟨Ax, cx, rfl, -, -, -⟩ := h.shape
  have H := Lib.hid h
  have HS := Lib.hid hS
  clear h hS
  cases hok : okE xs with
  | false =>
    have HOK := Lib.hid hok
    clear hok
    rw [(prfM_bad HOK.out).1, (prfM_bad HOK.out).2]
    go_enter Try.func16, Try.ntmps16
    go_wp2_with fail
    refine (sBlocksOf_any _ S _ xs (H.out.up (by repeat (first | exact Chg.refl _ _ | apply Chg.drew | apply Chg.drewN | refine Chg.alloc ?_ _))) (fun b hb => Nat.lt_of_lt_of_le (HS.out b hb) (Chg.size (S := Nowhere) (by repeat (first | exact Chg.refl _ _ | apply Chg.drew | apply Chg.drewN | refine Chg.alloc ?_ _)))) hl).mono ?_
    rintro e w1 ⟨w0, hu0, hres, g1⟩
    obtain rfl : e = .returned (.tuple #[.slice none 0 0, .int .i64 1]) := by have h := hres; unfold BlkAll at h; rw [HOK.out] at h; exact h
    clear hres hu0
    have G1 := Lib.hid (show Up (w.alloc (.cells #[.slice none 0 0, .slice none 0 0] 57)) w1 from Chg.trans (by repeat (first | exact Chg.refl _ _ | apply Chg.drew | apply Chg.drewN | refine Chg.alloc ?_ _)) g1)
    have X0 := Lib.hid (CellF.up G1.out (show CellF (w.alloc (.cells #[.slice none 0 0, .slice none 0 0] 57)) ⟨w.heap.size, 0, none⟩ (.slice none 0 0) from cellF_at rfl rfl))
    have X1 := Lib.hid (CellF.up G1.out (show CellF (w.alloc (.cells #[.slice none 0 0, .slice none 0 0] 57)) ⟨w.heap.size, 1, none⟩ (.slice none 0 0) from cellF_at rfl rfl))
    have HUW := Lib.hid (show Up w w1 from Chg.trans ((Chg.refl _ _).alloc _) G1.out)
    clear g1
    obtain ⟨x0, y0⟩ := X0.out
    obtain ⟨x1, y1⟩ := X1.out
    go_wp2_with fail
    refine bodyPost_ret (v := .tuple #[.agg #[.slice none 0 0, .slice none 0 0], .int .i64 1]) (by simp [results, Try.results16, go_sem, x0, x1]) rfl ?_
    exact ⟨_, rfl, NilP.res _ _, Chg.new HUW.out (Chg.trans (box_chg _ _ _ _) (box_chg _ _ _ _)) (fun i hi e => by have e : i = w.heap.size := e; omega)⟩
  | true =>
    obtain ⟨m, hm⟩ : ∃ m, stM xs 0 = some m := by unfold okE at hok; cases e : stM xs 0 with | none => (rw [e] at hok; cases hok) | some m => exact ⟨m, rfl⟩
    have HOK := Lib.hid hok
    have HM := Lib.hid hm
    clear hok hm
    cases hB : blkR xs 0 [] [⟨0, [], []⟩] with
    | none =>
      have HB := Lib.hid hB
      clear hB
      rw [(prfM_none HOK.out HB.out).1, (prfM_none HOK.out HB.out).2]
      go_enter Try.func16, Try.ntmps16
      go_wp2_with fail
      refine (sBlocksOf_any _ S _ xs (H.out.up (by repeat (first | exact Chg.refl _ _ | apply Chg.drew | apply Chg.drewN | refine Chg.alloc ?_ _))) (fun b hb => Nat.lt_of_lt_of_le (HS.out b hb) (Chg.size (S := Nowhere) (by repeat (first | exact Chg.refl _ _ | apply Chg.drew | apply Chg.drewN | refine Chg.alloc ?_ _)))) hl).mono ?_
      rintro e w1 ⟨w0, hu0, hres, g1⟩
      obtain rfl : e = .returned (.tuple #[.slice none 0 0, .int .i64 5]) := by have h := hres; unfold BlkAll at h; rw [if_pos HOK.out, HB.out] at h; exact h
      clear hres hu0
      have G1 := Lib.hid (show Up (w.alloc (.cells #[.slice none 0 0, .slice none 0 0] 57)) w1 from Chg.trans (by repeat (first | exact Chg.refl _ _ | apply Chg.drew | apply Chg.drewN | refine Chg.alloc ?_ _)) g1)
      have X0 := Lib.hid (CellF.up G1.out (show CellF (w.alloc (.cells #[.slice none 0 0, .slice none 0 0] 57)) ⟨w.heap.size, 0, none⟩ (.slice none 0 0) from cellF_at rfl rfl))
      have X1 := Lib.hid (CellF.up G1.out (show CellF (w.alloc (.cells #[.slice none 0 0, .slice none 0 0] 57)) ⟨w.heap.size, 1, none⟩ (.slice none 0 0) from cellF_at rfl rfl))
      have HUW := Lib.hid (show Up w w1 from Chg.trans ((Chg.refl _ _).alloc _) G1.out)
      clear g1
      obtain ⟨x0, y0⟩ := X0.out
      obtain ⟨x1, y1⟩ := X1.out
      go_wp2_with fail
      refine bodyPost_ret (v := .tuple #[.agg #[.slice none 0 0, .slice none 0 0], .int .i64 5]) (by simp [results, Try.results16, go_sem, x0, x1]) rfl ?_
      exact ⟨_, rfl, NilP.res _ _, Chg.new HUW.out (Chg.trans (box_chg _ _ _ _) (box_chg _ _ _ _)) (fun i hi e => by have e : i = w.heap.size := e; omega)⟩
    | some bs =>
      have HB := Lib.hid hB
      clear hB
      rw [(prfM_some HOK.out HB.out).1, (prfM_some HOK.out HB.out).2]
      go_enter Try.func16, Try.ntmps16
      go_wp2_with fail
      refine (sBlocksOf_any _ S _ xs (H.out.up (by repeat (first | exact Chg.refl _ _ | apply Chg.drew | apply Chg.drewN | refine Chg.alloc ?_ _))) (fun b hb => Nat.lt_of_lt_of_le (HS.out b hb) (Chg.size (S := Nowhere) (by repeat (first | exact Chg.refl _ _ | apply Chg.drew | apply Chg.drewN | refine Chg.alloc ?_ _)))) hl).mono ?_
      rintro e w1 ⟨w0, hu0, hres, g1⟩
      obtain ⟨v0, cs0, q0, Q0, rfl, hc0⟩ : ∃ v cs q Q, e = .returned (.tuple #[v, .int .i64 0]) ∧ BCore w1 w0.heap.size v bs cs q Q := by have h := hres; unfold BlkAll at h; rw [if_pos HOK.out, HB.out] at h; exact h
      have HC0 := Lib.hid hc0
      obtain ⟨Av, cv, rfl, -, -, -⟩ := hc0.val
      have HOKB := Lib.hid (blkR_ok HM.out HB.out)
      have HSTB := Lib.hid (show ∀ b ∈ bs, b.st.length ≤ 1000000 from fun b hb => by have h1 := blkR_st HB.out b hb; have := okE_len HOK.out; omega)
      clear hres hc0 hu0
      have G1 := Lib.hid (show Up (w.alloc (.cells #[.slice none 0 0, .slice none 0 0] 57)) w1 from Chg.trans (by repeat (first | exact Chg.refl _ _ | apply Chg.drew | apply Chg.drewN | refine Chg.alloc ?_ _)) g1)
      have X0 := Lib.hid (CellF.up G1.out (show CellF (w.alloc (.cells #[.slice none 0 0, .slice none 0 0] 57)) ⟨w.heap.size, 0, none⟩ (.slice none 0 0) from cellF_at rfl rfl))
      have X1 := Lib.hid (CellF.up G1.out (show CellF (w.alloc (.cells #[.slice none 0 0, .slice none 0 0] 57)) ⟨w.heap.size, 1, none⟩ (.slice none 0 0) from cellF_at rfl rfl))
      have HUW := Lib.hid (show Up w w1 from Chg.trans ((Chg.refl _ _).alloc _) G1.out)
      clear g1
      go_wp2_with fail
      refine (l26Proof_any _ _ _ bs cs0 q0 Q0 (HC0.out.up (by repeat (first | exact Chg.refl _ _ | apply Chg.drew | apply Chg.drewN | refine Chg.alloc ?_ _))) HOKB.out HSTB.out).mono ?_
      rintro e w2 ⟨v1, v2, rfl, hm, g2⟩
      have G2 := Lib.hid (show Up w1 w2 from Chg.trans (by repeat (first | exact Chg.refl _ _ | apply Chg.drew | apply Chg.drewN | refine Chg.alloc ?_ _)) g2)
      have HM2 := Lib.hid hm
      clear hm g2
      obtain ⟨A1, d1, rfl, -⟩ := (let ⟨_, _, _, _, _, hn, _⟩ := HM2.out; hn.val : ∃ A c, v1 = .slice A (formsM bs).length c ∧ _)
      obtain ⟨A2, d2, rfl, -⟩ := (let ⟨_, _, _, _, _, _, he⟩ := HM2.out; he.val : ∃ A c, v2 = .slice A (stsM bs).length c ∧ _)
      obtain ⟨x0, y0⟩ := CellF.up G2.out X0.out
      obtain ⟨x1, y1⟩ := CellF.up G2.out X1.out
      have HW1 := Lib.hid (show w.heap.size + 1 ≤ w1.heap.size by have := G1.out.size; simpa using this)
      go_wp2
      have CZ := Lib.hid (show Chg (fun b => b = w.heap.size) w2 ((w2.setCell ⟨w.heap.size, 0, none⟩ (.slice A1 (formsM bs).length d1)).setCell ⟨w.heap.size, 1, none⟩ (.slice A2 (stsM bs).length d2)) from Chg.trans (box_chg _ _ _ _) (box_chg _ _ _ _))
      refine bodyPost_ret (v := .tuple #[.agg #[.slice A1 (formsM bs).length d1, .slice A2 (stsM bs).length d2], .int .i64 0]) (by simp [results, Try.results16, go_sem, x0, x1]) rfl ?_
      exact ⟨_, rfl, ((HM2.out.res).keep CZ.out (fun x _ h e => by have h1 : w1.heap.size ≤ x := h.1; have e : x = w.heap.size := e; have := HW1.out; omega)).wider (fun x h => ⟨by have h1 : w1.heap.size ≤ x := h.1; have := HW1.out; omega, by have := h.2; simpa [World.setCell] using this⟩), Chg.new (Chg.trans HUW.out G2.out) CZ.out (fun i hi e => by have e : i = w.heap.size := e; omega)⟩
end Go.Proofs.Ytplabnjdhkmmkaa
