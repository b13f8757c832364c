/- The reference's normal form of a word; equal words. No condition. Needles and operations that are valid: the program's tests and the reference's. No condition. -/
import Derived.Test.YtplabnjdhkmmkaaPF10
import Derived.Test.YtplabnjdhkmmkaaPF8
import Derived.Test.YtplabnjdhkmmkaaPF4
import Derived.Test.YtplabnjdhkmmkaaPF3
section
set_option maxRecDepth 100000
set_option maxHeartbeats 4000000
set_option linter.unusedSimpArgs false
set_option linter.unusedVariables false
namespace Go.Proofs.Ytplabnjdhkmmkaa
open Go.ChangeShapes Go.WideShapes Go.ChangeAt Go.RowKit
theorem absN_any (w : World) (x : Int) (kn : Nat) (hk : kn = x.natAbs) (h : -1000 ≤ x ∧ x ≤ 1000) :
    Calls Try.prog 100 #[.int .i64 x] w fun e w' => e = .returned (.int .i64 (kn : Int)) ∧ w = w' := by
  by_cases hx : x < 0
  · have e1 : (kn : Int) = -x := by omega
    rw [e1]
    go_enter Try.func100, Try.ntmps100
    go_wp2
    go_ret
    exact ⟨rfl, rfl⟩
  · have e1 : (kn : Int) = x := by omega
    rw [e1]
    go_enter Try.func100, Try.ntmps100
    go_wp2
    go_ret
    exact ⟨rfl, rfl⟩
/-- the reference's normal form under construction: its box, and the list beside it -/
structure LBx (w : World) (bx base n : Nat) (Q : Int) (L : List (List Int)) (v : Value) : Prop where
  c0 : CellF w ⟨bx, 0, none⟩ (.int .i64 (n : Int))
  c1 : CellF w ⟨bx, 1, none⟩ (.int .i64 Q)
  c2 : CellF w ⟨bx, 2, none⟩ (.slice none 0 0)
  fr : LRow w base v L
  lt : bx < base
  tp : base ≤ w.heap.size
section
variable {w w' : World} {bx base n : Nat} {Q : Int} {L : List (List Int)} {v : Value}
theorem LBx.up (h : LBx w bx base n Q L v) (g : Up w w') : LBx w' bx base n Q L v := ⟨CellF.up g h.c0, CellF.up g h.c1, CellF.up g h.c2, h.fr.up g, h.lt, Nat.le_trans h.tp g.size⟩
theorem LBx.setP (h : LBx w bx base n Q L v) (Q' : Int) : LBx (w.setCell ⟨bx, 1, none⟩ (.int .i64 Q')) bx base n Q' L v := by
  have g := box_chg w bx 1 (.int .i64 Q')
  have hlt := h.lt
  exact ⟨h.c0.set_ne (by intro e; injection e with _ e2; omega), CellF.set h.c1, h.c2.set_ne (by intro e; injection e with _ e2; omega), h.fr.kept g (fun b hb _ e => by have e : b = bx := e; omega), hlt, by have := h.tp; simpa [World.setCell] using this⟩
theorem LBx.put {S : Nat → Prop} (h : LBx w bx base n Q L v) {L' : List (List Int)} {v' : Value} (g : Chg S w w') (hs : ¬ S bx) (hr : LRow w' base v' L') : LBx w' bx base n Q L' v' :=
  ⟨h.c0.chg g hs, h.c1.chg g hs, h.c2.chg g hs, hr, h.lt, Nat.le_trans h.tp g.size⟩
end
theorem l04Normal_any (w : World) (S : Nat → Prop) (vw : Value) (n : Nat) (word : List Int) (h : Ints w S vw word) (hw : LettN n word) (hn2 : n ≤ 12) (hl : word.length ≤ 100000) :
    Calls Try.prog 76 #[.int .i64 (n : Int), vw] w fun e w' => ∃ (Q : Int) (F : List (List Int)) (v : Value), e = .returned (.agg #[.int .i64 (n : Int), .int .i64 Q, v]) ∧ normM n word = ⟨n, Q, F⟩ ∧ LRow w' w.heap.size v F ∧ (F.length ≤ word.length ∧ - (word.length : Int) ≤ Q ∧ Q ≤ word.length) ∧ Up w w' := by
  obtain ⟨Aw, cw, rfl, hlw, hcw, -⟩ := h.shape
  have H := Lib.hid h
  have HW := Lib.hid hw
  clear h hw hlw hcw
  go_enter Try.func76, Try.ntmps76
  go_wp2_with fail
  obtain ⟨bx, hbx⟩ : ∃ x, x = w.heap.size + 1 := ⟨_, rfl⟩
  obtain ⟨base, hbase⟩ : ∃ x, x = w.heap.size + 1 + 1 := ⟨_, rfl⟩
  obtain ⟨wf, hwf⟩ : ∃ x, x = (((w.alloc (.cells #[.int .i64 0, .int .i64 0, .slice none 0 0] 100)).alloc (.cells #[.int .i64 (n : Int), .int .i64 0, .slice none 0 0] 100)).alloc (.cells #[] 23)) := ⟨_, rfl⟩
  have UF := Lib.hid (show Up w wf by rw [hwf]; exact (((Chg.refl Nowhere w).alloc _).alloc _).alloc _)
  have X0 := Lib.hid (show CellF wf ⟨w.heap.size, 0, none⟩ (.int .i64 0) by rw [hwf]; exact CellF.up (((Chg.refl _ _).alloc _).alloc _) (cellF_at rfl rfl))
  have X1 := Lib.hid (show CellF wf ⟨w.heap.size, 1, none⟩ (.int .i64 0) by rw [hwf]; exact CellF.up (((Chg.refl _ _).alloc _).alloc _) (cellF_at rfl rfl))
  have X2 := Lib.hid (show CellF wf ⟨w.heap.size, 2, none⟩ (.slice none 0 0) by rw [hwf]; exact CellF.up (((Chg.refl _ _).alloc _).alloc _) (cellF_at rfl rfl))
  have Y0 : CellF wf ⟨bx, 0, none⟩ (.int .i64 (n : Int)) := by rw [hwf, hbx]; exact CellF.up ((Chg.refl _ _).alloc _) (cellF_at (by simp) rfl)
  have Y1 : CellF wf ⟨bx, 1, none⟩ (.int .i64 0) := by rw [hwf, hbx]; exact CellF.up ((Chg.refl _ _).alloc _) (cellF_at (by simp) rfl)
  have Y2 : CellF wf ⟨bx, 2, none⟩ (.slice none 0 0) := by rw [hwf, hbx]; exact CellF.up ((Chg.refl _ _).alloc _) (cellF_at (by simp) rfl)
  have HSZ := Lib.hid (show wf.heap.size = base + 1 ∧ base = w.heap.size + 2 ∧ bx = w.heap.size + 1 by rw [hwf]; simp only [World.size_alloc]; omega)
  have HN0 := Lib.hid (show LBx wf bx base n 0 [] (.slice (some ⟨base, 0, none⟩) 0 0) from ⟨Y0, Y1, Y2, by
    have hz : ((w.alloc (.cells #[.int .i64 0, .int .i64 0, .slice none 0 0] 100)).alloc (.cells #[.int .i64 (n : Int), .int .i64 0, .slice none 0 0] 100)).heap.size = base := by simp only [World.size_alloc]; omega
    have h1 := LRow.made ((w.alloc (.cells #[.int .i64 0, .int .i64 0, .slice none 0 0] 100)).alloc (.cells #[.int .i64 (n : Int), .int .i64 0, .slice none 0 0] 100)) base (by omega)
    rw [hz] at h1
    rw [hwf]
    exact h1, by omega, by have := HSZ.out; omega⟩)
  have hxx : (w.heap.size + 1) = bx := hbx.symm
  have hyy : (w.heap.size + 1 + 1) = base := hbase.symm
  try simp only [World.size_alloc]
  rw [← hwf]
  rw [hyy]
  rw [hxx]
  clear hwf hbx hbase hxx hyy Y0 Y1 Y2
  go_loopw [6, 7] (fun v i wr => ∃ (j : Nat), j ≤ word.length ∧ i = .int .i64 (j : Int) ∧ Hid (LBx wr bx base n (rawM n (word.take j)).1 (rawM n (word.take j)).2 v) ∧ Hid (Chg (fun b => b = bx ∨ base ≤ b) wf wr)) (fun _ i _ => word.length - (intOf i).toNat)
  case atStart => exact ⟨0, by omega, rfl, HN0, Lib.hid (Chg.refl _ _)⟩
  case round =>
    obtain ⟨j, hj, rfl, hx, hg⟩ := hrel
    have HUR := Lib.hid (show Up w wr from Chg.new UF.out hg.out (fun i hi e => by have := HSZ.out; rcases e with e | e <;> omega))
    obtain ⟨Q, hQ⟩ : ∃ x, x = (rawM n (word.take j)).1 := ⟨_, rfl⟩
    obtain ⟨L, hL⟩ : ∃ x, x = (rawM n (word.take j)).2 := ⟨_, rfl⟩
    rw [← hQ, ← hL] at hx
    have HQL := Lib.hid (show rawM n (word.take j) = (Q, L) by rw [hQ, hL])
    have HAL := Lib.hid (show AllP n L by rw [hL]; exact rawM_all (fun x hx => HW.out x (List.mem_of_mem_take hx)))
    have htl : (word.take j).length = j := by rw [List.length_take]; omega
    have hLl : L.length = j := by rw [hL, rawM_len, htl]
    have hQb : - (j : Int) ≤ Q ∧ Q ≤ 0 := by rw [hQ, rawM_fst]; have := negs_le (word.take j); omega
    have HLB := Lib.hid (show L.length ≤ 1000000 by omega)
    have HLL := Lib.hid hLl
    clear hQ hL hLl htl
    obtain ⟨Av, cv, hv, -, -, -⟩ := hx.out.fr.val
    subst hv
    by_cases hlt : j < word.length
    · obtain ⟨b1, o1, rfl, -, hc1⟩ := ints_ixf (H.out.up HUR.out) hlt
      have f1 := (hc1 j hlt).1
      rw [ix_eq hlt] at f1
      have hlet := HW.out _ (List.getElem_mem hlt)
      have hn := HW.out.two (Nat.lt_of_le_of_lt (Nat.zero_le j) hlt)
      obtain ⟨x, hxe⟩ : ∃ x, x = word[j] := ⟨_, rfl⟩
      have HTK := Lib.hid (show word.take (j + 1) = word.take j ++ [x] by rw [hxe]; exact List.take_succ_eq_append_getElem hlt)
      rw [← hxe] at f1 hlet
      obtain ⟨kn, hkn⟩ : ∃ kn, kn = x.natAbs := ⟨_, rfl⟩
      rw [← hkn] at hlet
      obtain ⟨hk1, hk2⟩ := hlet
      have HKN := Lib.hid hkn
      have hxb : -1000 ≤ x ∧ x ≤ 1000 := by omega
      have htd : decide ((j : Int) < (word.length : Int)) = true := decide_eq_true (by omega)
      have hj0 : (0 : Int) ≤ (j : Int) := by omega
      have hjl : (j : Int) < (word.length : Int) := by omega
      have HTP := Lib.hid hx.out.tp
      clear hc1 hxe hkn
      obtain ⟨wk, hwk⟩ : ∃ x, x = wr := ⟨_, rfl⟩
      subst hwk
      go_wp2_with fail
      refine (absN_any _ x kn HKN.out hxb).mono ?_
      rintro e w1 ⟨rfl, rfl⟩
      by_cases hpos : 0 < x
      · have hgt : decide (x > 0) = true := decide_eq_true hpos
        have HRW := Lib.hid (show rawM n (word.take (j + 1)) = (Q, L ++ [bhM (identM n) kn]) by rw [HTK.out, rawM_snoc, HQL.out]; unfold rawStep lettP; rw [if_pos hpos, if_pos hpos, HKN.out])
        go_wp2_with fail
        refine (l04Identity_any _ n (by omega)).mono ?_
        rintro e w1 ⟨v1, rfl, k1, g1⟩
        have K1 := Lib.hid k1
        have G1 := Lib.hid (show Up wk w1 from Chg.trans (by repeat (first | exact Chg.refl _ _ | apply Chg.drew | apply Chg.drewN | refine Chg.alloc ?_ _)) g1)
        clear k1 g1
        go_wp2_with fail
        refine (l04Behind_any _ _ _ (identM n) kn (K1.out.up (by repeat (first | exact Chg.refl _ _ | apply Chg.drew | apply Chg.drewN | refine Chg.alloc ?_ _))) (PermP.ident n) hn2 hk1 hk2).mono ?_
        rintro e w2 ⟨v2, rfl, k2, g2⟩
        obtain ⟨A2, c2, rfl, hl2, hc2, -⟩ := k2.shape
        have HL2 := Lib.hid (And.intro hl2 hc2)
        have K2 := Lib.hid (show Ints w2 (fun b => wk.heap.size ≤ b ∧ b < w2.heap.size) (.slice A2 (bhM (identM n) kn).length c2) (bhM (identM n) kn) from k2.mono (fun b _ h => ⟨Nat.le_trans (Nat.le_trans G1.out.size (Chg.size (S := Nowhere) (by repeat (first | exact Chg.refl _ _ | apply Chg.drew | apply Chg.drewN | refine Chg.alloc ?_ _)))) h.1, h.2⟩))
        have G2 := Lib.hid (show Up wk w2 from Chg.trans G1.out (Chg.trans (by repeat (first | exact Chg.refl _ _ | apply Chg.drew | apply Chg.drewN | refine Chg.alloc ?_ _)) g2))
        have hz2 := G2.out.size
        clear k2 g2 hl2 hc2 f1
        have HBL := Lib.hid (fun (b : Nat) (hb : (Value.slice Av L.length cv).ownBlock = some b) => hx.out.fr.lt hb)
        go_wp2_with (at_builtin; refine wp_append_lrow rfl _ _ rfl base _ L rfl (hx.out.fr.up (Chg.trans G2.out ((Chg.refl _ _).alloc _))) w2.heap.size (bhM (identM n) kn) A2 c2 rfl (by rw [cell_new]; rfl) (by have h1 := K2.out.up ((Chg.refl Nowhere w2).alloc (.cells #[.slice A2 (bhM (identM n) kn).length c2] 23)); exact h1.mono (fun b _ h => ⟨by have := HTP.out; have := h.1; omega, by have := h.2; simp; omega, fun e2 => by have := (HBL.out b e2).2; omega⟩)) HL2.out (by have := HLB.out; simp; omega) (by have := HTP.out; simp; omega) ?_; intro v' w' h1 h2 h3; have HO := Lib.hid h1; have HC := Lib.hid h2; clear h1 h2 h3)
        have HG3 := Lib.hid (show Up wk (w2.alloc (.cells #[.slice A2 (bhM (identM n) kn).length c2] 23)) from Chg.trans G2.out ((Chg.refl _ _).alloc _))
        have hlx := hx.out.lt
        have HB2 := Lib.hid (show LBx w' bx base n Q (L ++ [bhM (identM n) kn]) v' from (hx.out.up HG3.out).put HC.out (fun e => by have := (HBL.out bx e).1; omega) HO.out)
        have HC2 := Lib.hid (show Chg (fun b => b = bx ∨ base ≤ b) wf w' from Chg.trans hg.out (Chg.trans (Chg.of_up HG3.out) (HC.out.mono (fun b _ e => .inr (HBL.out b e).1))))
        go_roundw
        case rel => exact ⟨j + 1, by omega, by go_num, by rw [HRW.out]; exact HB2, HC2⟩
        case measure => first | (simp [intOf]; done) | (simp [intOf]; omega)
      have hgt : decide (x > 0) = false := decide_eq_false hpos
      have HRW := Lib.hid (show rawM n (word.take (j + 1)) = (Q - 1, L.map flipP ++ [bhM (halfM n) kn]) by rw [HTK.out, rawM_snoc, HQL.out]; unfold rawStep lettP; rw [if_neg hpos, if_neg hpos, HKN.out])
      obtain ⟨e1, z1⟩ := hx.out.c1
      have wq : IntKind.i64.wrap (Q - 1) = Q - 1 := IntWalk.i64_in _ (by omega)
      go_wp2_with fail
      have HX2 := Lib.hid (hx.out.setP (Q - 1))
      have HCB := Lib.hid (box_chg wk bx 1 (.int .i64 (Q - 1)))
      refine (l04FlipAll_any _ base n _ L (HX2.out.fr.up (by repeat (first | exact Chg.refl _ _ | apply Chg.drew | apply Chg.drewN | refine Chg.alloc ?_ _))) HAL.out hn2 (by have := HLL.out; omega)).mono ?_
      rintro e w3 ⟨v3, rfl, k3, g3⟩
      obtain ⟨R, hR⟩ : ∃ x, x = L.map flipP := ⟨_, rfl⟩
      rw [← hR] at k3 HRW
      have HRL := Lib.hid (show R.length ≤ 1000000 by rw [hR, List.length_map]; exact HLB.out)
      have G3 := Lib.hid (show Up (wk.setCell ⟨bx, 1, none⟩ (.int .i64 (Q - 1))) w3 from Chg.trans (by repeat (first | exact Chg.refl _ _ | apply Chg.drew | apply Chg.drewN | refine Chg.alloc ?_ _)) g3)
      have hz3 := G3.out.size
      have HX3 := Lib.hid (HX2.out.put G3.out (fun h => h) (k3.more (Nat.le_trans (show base ≤ (wk.setCell ⟨bx, 1, none⟩ (.int .i64 (Q - 1))).heap.size from HX2.out.tp) (Chg.size (S := Nowhere) (by repeat (first | exact Chg.refl _ _ | apply Chg.drew | apply Chg.drewN | refine Chg.alloc ?_ _))))))
      obtain ⟨A3, c3, rfl, -, -, -⟩ := k3.val
      clear k3 g3 hR e1 z1 f1
      have HTP := Lib.hid HX3.out.tp
      have HBL := Lib.hid (fun (b : Nat) (hb : (Value.slice A3 R.length c3).ownBlock = some b) => HX3.out.fr.lt hb)
      go_wp2_with fail
      refine (l04Half_any _ n (by omega)).mono ?_
      rintro e w4 ⟨v4, rfl, k4, g4⟩
      have K1 := Lib.hid k4
      have G4 := Lib.hid (show Up w3 w4 from Chg.trans (by repeat (first | exact Chg.refl _ _ | apply Chg.drew | apply Chg.drewN | refine Chg.alloc ?_ _)) g4)
      clear k4 g4
      go_wp2_with fail
      refine (l04Behind_any _ _ _ (halfM n) kn (K1.out.up (by repeat (first | exact Chg.refl _ _ | apply Chg.drew | apply Chg.drewN | refine Chg.alloc ?_ _))) (PermP.half n) hn2 hk1 hk2).mono ?_
      rintro e w2 ⟨v2, rfl, k2, g2⟩
      obtain ⟨A2, c2, rfl, hl2, hc2, -⟩ := k2.shape
      have HL2 := Lib.hid (And.intro hl2 hc2)
      have K2 := Lib.hid (show Ints w2 (fun b => w3.heap.size ≤ b ∧ b < w2.heap.size) (.slice A2 (bhM (halfM n) kn).length c2) (bhM (halfM n) kn) from k2.mono (fun b _ h => ⟨Nat.le_trans (Nat.le_trans G4.out.size (Chg.size (S := Nowhere) (by repeat (first | exact Chg.refl _ _ | apply Chg.drew | apply Chg.drewN | refine Chg.alloc ?_ _)))) h.1, h.2⟩))
      have G2 := Lib.hid (show Up w3 w2 from Chg.trans G4.out (Chg.trans (by repeat (first | exact Chg.refl _ _ | apply Chg.drew | apply Chg.drewN | refine Chg.alloc ?_ _)) g2))
      have hz2 := G2.out.size
      clear k2 g2 hl2 hc2
      go_wp2_with (at_builtin; refine wp_append_lrow rfl _ _ rfl base _ R rfl (HX3.out.fr.up (Chg.trans G2.out ((Chg.refl _ _).alloc _))) w2.heap.size (bhM (halfM n) kn) A2 c2 rfl (by rw [cell_new]; rfl) (by have h1 := K2.out.up ((Chg.refl Nowhere w2).alloc (.cells #[.slice A2 (bhM (halfM n) kn).length c2] 23)); exact h1.mono (fun b _ h => ⟨by have := HTP.out; have := h.1; omega, by have := h.2; simp; omega, fun e2 => by have := (HBL.out b e2).2; have := h.1; omega⟩)) HL2.out (by have := HRL.out; simp; omega) (by have := HTP.out; simp; omega) ?_; intro v' w' h1 h2 h3; have HO := Lib.hid h1; have HC := Lib.hid h2; clear h1 h2 h3)
      have HG3 := Lib.hid (show Up w3 (w2.alloc (.cells #[.slice A2 (bhM (halfM n) kn).length c2] 23)) from Chg.trans G2.out ((Chg.refl _ _).alloc _))
      have hlx := hx.out.lt
      have HB2 := Lib.hid (show LBx w' bx base n (Q - 1) (R ++ [bhM (halfM n) kn]) v' from (HX3.out.up HG3.out).put HC.out (fun e => by have := (HBL.out bx e).1; omega) HO.out)
      have HC2 := Lib.hid (show Chg (fun b => b = bx ∨ base ≤ b) wf w' from Chg.trans hg.out (Chg.trans (HCB.out.mono (fun b _ e => .inl e)) (Chg.trans (Chg.of_up (Chg.trans G3.out HG3.out)) (HC.out.mono (fun b _ e => .inr (HBL.out b e).1)))))
      go_roundw
      case rel => exact ⟨j + 1, by omega, by go_num, by rw [HRW.out]; exact HB2, HC2⟩
      case measure => first | (simp [intOf]; done) | (simp [intOf]; omega)
    obtain rfl : j = word.length := by omega
    have htd : decide ((word.length : Int) < (word.length : Int)) = false := decide_eq_false (by omega)
    have HRA := Lib.hid (show rawM n word = (Q, L) by have := HQL.out; rwa [List.take_length] at this)
    clear HQL
    go_wp2_with fail
    refine (l04Settle_any _ base n _ L (hx.out.fr.up (by repeat (first | exact Chg.refl _ _ | apply Chg.drew | apply Chg.drewN | refine Chg.alloc ?_ _))) HAL.out (fun e => by have h1 := HLL.out; have h2 := List.length_pos_iff.2 e; exact HW.out.two (by omega)) hn2 (by have := HLL.out; omega) (Nat.le_trans hx.out.tp (Chg.size (S := Nowhere) (by repeat (first | exact Chg.refl _ _ | apply Chg.drew | apply Chg.drewN | refine Chg.alloc ?_ _))))).mono ?_
    rintro e w3 ⟨T, v3, rfl, hs, ht, k3, g3⟩
    have HSE := Lib.hid (settleM_eq HAL.out hs ht)
    have HTL := Lib.hid (show T.length = word.length by rw [hs.len]; exact HLL.out)
    obtain ⟨hh, hhe⟩ : ∃ x, x = halfs n T := ⟨_, rfl⟩
    obtain ⟨F, hF⟩ : ∃ x, x = pureF n T := ⟨_, rfl⟩
    rw [← hF] at k3
    rw [← hhe]
    have hhl : hh ≤ word.length := by rw [hhe, ← HTL.out]; exact (halfs_le n T).1
    have HFL := Lib.hid (show F.length ≤ word.length by rw [hF, ← HTL.out]; exact (halfs_le n T).2)
    have HNM := Lib.hid (show normM n word = ⟨n, Q + hh, F⟩ by unfold normM nfP' nfF; rw [HRA.out]; simp only []; rw [HSE.out, hhe, hF])
    have G3 := Lib.hid (show Up wr w3 from Chg.trans (by repeat (first | exact Chg.refl _ _ | apply Chg.drew | apply Chg.drewN | refine Chg.alloc ?_ _)) g3)
    have HX3 := Lib.hid (hx.out.up G3.out)
    obtain ⟨A3, c3, rfl, -, -, -⟩ := k3.val
    have K3 := Lib.hid k3
    clear hs ht k3 g3 hhe hF
    obtain ⟨e1, z1⟩ := HX3.out.c1
    have wq : IntKind.i64.wrap (Q + hh) = Q + hh := IntWalk.i64_in _ (by omega)
    have HX4 := Lib.hid (HX3.out.setP (Q + hh))
    obtain ⟨e0', z0'⟩ := HX4.out.c0
    obtain ⟨e2', z2'⟩ := HX4.out.c2
    have NB : ¬ (w.heap.size = bx ∨ base ≤ w.heap.size) := by have := HSZ.out; omega
    obtain ⟨x0, y0⟩ := CellF.up G3.out (CellF.chg X0.out hg.out NB)
    obtain ⟨x1, y1⟩ := CellF.up G3.out (CellF.chg X1.out hg.out NB)
    obtain ⟨x2, y2⟩ := CellF.up G3.out (CellF.chg X2.out hg.out NB)
    have CZ := Lib.hid (show Chg (fun b => b = bx ∨ b = w.heap.size) w3 (((((w3.setCell ⟨bx, 1, none⟩ (.int .i64 (Q + hh))).setCell ⟨bx, 2, none⟩ (.slice A3 F.length c3)).setCell ⟨w.heap.size, 0, none⟩ (.int .i64 (n : Int))).setCell ⟨w.heap.size, 1, none⟩ (.int .i64 (Q + hh))).setCell ⟨w.heap.size, 2, none⟩ (.slice A3 F.length c3)) from Chg.trans (Chg.trans (Chg.trans (Chg.trans ((box_chg _ _ _ _).mono (fun b _ e => .inl e)) ((box_chg _ _ _ _).mono (fun b _ e => .inl e))) ((box_chg _ _ _ _).mono (fun b _ e => .inr e))) ((box_chg _ _ _ _).mono (fun b _ e => .inr e))) ((box_chg _ _ _ _).mono (fun b _ e => .inr e)))
    have HFR := Lib.hid (show LRow (((((w3.setCell ⟨bx, 1, none⟩ (.int .i64 (Q + hh))).setCell ⟨bx, 2, none⟩ (.slice A3 F.length c3)).setCell ⟨w.heap.size, 0, none⟩ (.int .i64 (n : Int))).setCell ⟨w.heap.size, 1, none⟩ (.int .i64 (Q + hh))).setCell ⟨w.heap.size, 2, none⟩ (.slice A3 F.length c3)) w.heap.size (.slice A3 F.length c3) F from (K3.out.kept CZ.out (fun b hb _ e => by have := HSZ.out; rcases e with e | e <;> omega)).more (by have := HSZ.out; omega))
    have HBD := Lib.hid (show F.length ≤ word.length ∧ - (word.length : Int) ≤ Q + hh ∧ Q + hh ≤ word.length from ⟨HFL.out, by omega, by omega⟩)
    have HUZ := Lib.hid (show Up w (((((w3.setCell ⟨bx, 1, none⟩ (.int .i64 (Q + hh))).setCell ⟨bx, 2, none⟩ (.slice A3 F.length c3)).setCell ⟨w.heap.size, 0, none⟩ (.int .i64 (n : Int))).setCell ⟨w.heap.size, 1, none⟩ (.int .i64 (Q + hh))).setCell ⟨w.heap.size, 2, none⟩ (.slice A3 F.length c3)) from Chg.new (Chg.trans HUR.out G3.out) CZ.out (fun i hi e => by have := HSZ.out; rcases e with e | e <;> omega))
    have hbn1 : ¬ w.heap.size = bx := by omega
    have hbn2 : ¬ bx = w.heap.size := by omega
    clear NB
    go_wp2_with fail
    refine bodyPost_ret (v := .agg #[.int .i64 (n : Int), .int .i64 (Q + hh), .slice A3 F.length c3]) (by simp [results, Try.results76, go_sem, x0, x1, x2]) rfl ?_
    exact ⟨Q + hh, F, _, rfl, HNM.out, HFR.out, HBD.out, HUZ.out⟩
/-- the word is trivial -/
noncomputable def trivB (n : Nat) (word : List Int) : Bool := decide ((normM n word).p = 0) && decide ((normM n word).fs.length = 0)
theorem l00OwnI_any (w : World) (S : Nat → Prop) (v : Value) (xs : List Int) (h : Ints w S v xs) (hl : xs.length ≤ 100000) :
    Calls Try.prog 27 #[v] w fun e w' => ∃ v', e = .returned v' ∧ OwnI w' w.heap.size v' xs ∧ Up w w' := by
  obtain ⟨A, c, rfl, hlc, hcm, -⟩ := h.shape
  have H := Lib.hid h
  have M0 := Lib.hid (OwnI.made w w.heap.size (Nat.le_refl _))
  have HL := Lib.hid (show ([] : List Int).length + xs.length ≤ 1099511627776 by simp; omega)
  clear h
  go_enter Try.func27, Try.ntmps27
  go_wp2_with (first | (at_builtin; refine wp_app_intsW rfl _ _ rfl w.heap.size _ ([] : List Int) rfl M0.out _ _ xs rfl (H.out.up (by repeat (first | exact Chg.refl _ _ | apply Chg.drew | apply Chg.drewN | refine Chg.alloc ?_ _))) HL.out (by simp) ?_; intro v' w1 ho1 _ _ hg1; have HO := Lib.hid ho1; have HG := Lib.hid (Chg.new ((Chg.refl Nowhere w).alloc _) hg1 (fun i hi => by omega)); clear ho1 hg1))
  go_ret
  exact ⟨_, rfl, by have := HO.out; rw [List.nil_append] at this; exact this, HG.out⟩
theorem l04EqualNil_any (w : World) (S : Nat → Prop) (v : Value) (n : Nat) (word : List Int) (h : Ints w S v word) (hw : LettN n word) (hn2 : n ≤ 12) (hl : word.length ≤ 100000) :
    Calls Try.prog 99 #[.int .i64 (n : Int), v, .slice none 0 0] w fun e w' => e = .returned (.bool (trivB n word)) ∧ Up w w' := by
  obtain ⟨A, c, rfl, hlc, hcm, -⟩ := h.shape
  have H := Lib.hid h
  have HW := Lib.hid hw
  clear h hw hlc hcm
  go_enter Try.func99, Try.ntmps99
  go_wp2_with fail
  refine (l00OwnI_any _ _ _ word (H.out.up (by repeat (first | exact Chg.refl _ _ | apply Chg.drew | apply Chg.drewN | refine Chg.alloc ?_ _))) hl).mono ?_
  rintro e w1 ⟨v1, rfl, k1, g1⟩
  obtain ⟨A1, c1, rfl, -, -, -⟩ := k1.ints.shape
  have K1 := Lib.hid k1
  have G1 := Lib.hid (show Up w w1 from Chg.trans (by repeat (first | exact Chg.refl _ _ | apply Chg.drew | apply Chg.drewN | refine Chg.alloc ?_ _)) g1)
  clear k1 g1
  go_wp2_with fail
  refine (l03Inverse_any _ Nowhere _ [] (Ints.nil _ _ 0 none (by omega)) (fun x hx => by simp at hx) (by simp)).mono ?_
  rintro e w2 ⟨v2, rfl, k2, g2⟩
  replace k2 : Ints w2 _ v2 [] := k2
  have K2 := Lib.hid (show Ints w2 _ v2 [] from k2)
  have G2 := Lib.hid (show Up w1 w2 from Chg.trans (by repeat (first | exact Chg.refl _ _ | apply Chg.drew | apply Chg.drewN | refine Chg.alloc ?_ _)) g2)
  have HZ := Lib.hid (show w.heap.size ≤ w2.heap.size from Nat.le_trans G1.out.size G2.out.size)
  obtain ⟨A2, c2, rfl, -, -, -⟩ := k2.shape
  clear k2 g2
  have HL0 := Lib.hid (show word.length + ([] : List Int).length ≤ 1099511627776 by simp; omega)
  have HB1 := Lib.hid (show w.heap.size ≤ w.heap.size from Nat.le_refl _)
  go_wp2_with (at_builtin; refine wp_app_intsW rfl _ _ rfl w.heap.size _ word rfl (K1.out.up G2.out) _ _ ([] : List Int) rfl K2.out HL0.out HZ.out ?_; intro v3 w3 k3 _ _ g3; have K3 := Lib.hid (show Ints w3 _ v3 word from by have := k3.ints; rw [List.append_nil] at this; exact this); have G3 := Lib.hid (show Up w w3 from Chg.new (Chg.trans G1.out G2.out) g3 (fun i hi => by omega)); clear k3 g3)
  refine (l04Normal_any _ _ _ n word (K3.out.up (by repeat (first | exact Chg.refl _ _ | apply Chg.drew | apply Chg.drewN | refine Chg.alloc ?_ _))) HW.out hn2 hl).mono ?_
  rintro e w4 ⟨Q, F, v4, rfl, hnm, k4, hbd, g4⟩
  obtain ⟨A4, c4, rfl, -, -, -⟩ := k4.val
  have HT := Lib.hid (show trivB n word = (decide (Q = 0) && decide (F.length = 0)) by unfold trivB; rw [hnm])
  have G4 := Lib.hid (show Up w w4 from Chg.trans G3.out (Chg.trans (by repeat (first | exact Chg.refl _ _ | apply Chg.drew | apply Chg.drewN | refine Chg.alloc ?_ _)) g4))
  clear hnm k4 g4 hbd
  by_cases hq : Q = 0
  · have hq2 : ((Q : Int) == 0) = true := by simp [hq]
    have hf : (((F.length : Nat) : Int) == 0) = decide (F.length = 0) := by cases F <;> simp <;> omega
    go_wp2
    go_wp2
    go_ret
    refine ⟨?_, ?_⟩
    · rw [HT.out]; subst hq; simp
    · exact Chg.trans G4.out (by repeat (first | exact Chg.refl _ _ | apply Chg.drew | apply Chg.drewN | refine Chg.alloc ?_ _))
  have hq2 : ((Q : Int) == 0) = false := by simp [hq]
  go_wp2
  go_ret
  refine ⟨?_, ?_⟩
  · rw [HT.out]; simp [hq]
  · exact Chg.trans G4.out (by repeat (first | exact Chg.refl _ _ | apply Chg.drew | apply Chg.drewN | refine Chg.alloc ?_ _))
theorem equalWordsNil_any (w : World) (S : Nat → Prop) (v : Value) (n : Nat) (word : List Int) (h : Ints w S v word) (hS : ∀ b, S b → b < w.heap.size) (hw : LettN n word) (hn2 : n ≤ 12) (hl : word.length ≤ 100000) :
    Calls Try.prog 108 #[.int .i64 (n : Int), v, .slice none 0 0] w fun e w' => e = .returned (.bool (trivB n word)) ∧ Up w w' := by
  obtain ⟨A, c, rfl, hlc, hcm, -⟩ := h.shape
  have H := Lib.hid h
  have HS := Lib.hid hS
  have HW := Lib.hid hw
  clear h hw hS hlc hcm
  go_enter Try.func108, Try.ntmps108
  go_wp2_with fail
  refine (normalOf_any _ S _ n word (H.out.up (by repeat (first | exact Chg.refl _ _ | apply Chg.drew | apply Chg.drewN | refine Chg.alloc ?_ _))) (fun b hb => Nat.lt_of_lt_of_le (HS.out b hb) (Chg.size (S := Nowhere) (by repeat (first | exact Chg.refl _ _ | apply Chg.drew | apply Chg.drewN | refine Chg.alloc ?_ _)))) HW.out hn2 hl).mono ?_
  rintro e w1 ⟨Q, F, v1, rfl, hnm, k1, hbd, g1⟩
  have K1 := Lib.hid (k1.rd Nowhere)
  obtain ⟨A1, c1, rfl, ⟨hl1, hm1⟩⟩ : ∃ A c, v1 = .slice A F.length c ∧ (F.length ≤ c ∧ c ≤ 9223372036854775807) := by obtain ⟨A1, c1, h1, h2, h3, -⟩ := k1.shape; exact ⟨A1, c1, h1, h2, h3⟩
  have HM1 := Lib.hid (And.intro hl1 hm1)
  have HNM := Lib.hid hnm
  have HBD := Lib.hid hbd
  have G1 := Lib.hid (show Up w w1 from Chg.trans (by repeat (first | exact Chg.refl _ _ | apply Chg.drew | apply Chg.drewN | refine Chg.alloc ?_ _)) g1)
  clear hnm k1 hbd g1 hl1 hm1
  go_wp2_with fail
  refine (normalOf_any _ Nowhere _ n [] (Ints.nil _ _ 0 none (by omega)) (fun b hb => hb.elim) (fun x hx => by simp at hx) hn2 (by simp)).mono ?_
  rintro e w2 ⟨Q2, F2, v2, rfl, hnm, k2, hbd, g2⟩
  rw [normM_nil] at hnm
  obtain ⟨rfl, rfl⟩ : Q2 = 0 ∧ F2 = [] := by injection hnm with _ a b; exact ⟨a.symm, b.symm⟩
  have K2 := Lib.hid (k2.rd Nowhere)
  obtain ⟨A2, c2, rfl, ⟨hl2, hm2⟩⟩ : ∃ A c, v2 = .slice A 0 c ∧ (0 ≤ c ∧ c ≤ 9223372036854775807) := by obtain ⟨A1, c1, h1, h2, h3, -⟩ := k2.shape; exact ⟨A1, c1, h1, h2, h3⟩
  have HM2 := Lib.hid (And.intro hl2 hm2)
  have G2 := Lib.hid (show Up w1 w2 from Chg.trans (by repeat (first | exact Chg.refl _ _ | apply Chg.drew | apply Chg.drewN | refine Chg.alloc ?_ _)) g2)
  clear hnm k2 hbd g2 hl2 hm2
  go_wp2_with fail
  refine (pSameNormal_any _ _ _ _ _ _ _ _ _ ⟨n, Q, F⟩ ⟨n, 0, []⟩ ⟨A1, c1, rfl, K1.out.up (Chg.trans G2.out (by repeat (first | exact Chg.refl _ _ | apply Chg.drew | apply Chg.drewN | refine Chg.alloc ?_ _))), HM1.out, by unfold I64; (constructor <;> simp <;> omega), by have := HBD.out; unfold I64; (constructor <;> simp <;> omega)⟩ ⟨A2, c2, rfl, K2.out.up (by repeat (first | exact Chg.refl _ _ | apply Chg.drew | apply Chg.drewN | refine Chg.alloc ?_ _)), HM2.out, by unfold I64; (constructor <;> simp <;> omega), by unfold I64; (constructor <;> simp)⟩).mono ?_
  rintro e w3 ⟨rfl, g3⟩
  have G3 := Lib.hid (show Up w w3 from Chg.trans G1.out (Chg.trans G2.out (Chg.trans (by repeat (first | exact Chg.refl _ _ | apply Chg.drew | apply Chg.drewN | refine Chg.alloc ?_ _)) g3)))
  have HT := Lib.hid (show sameN ⟨n, Q, F⟩ ⟨n, 0, []⟩ = trivB n word by unfold sameN trivB; rw [HNM.out]; simp)
  clear g3
  rw [HT.out]
  obtain ⟨tb, htb⟩ : ∃ x, x = trivB n word := ⟨_, rfl⟩
  rw [← htb]
  go_wp2
  go_ret
  exact ⟨rfl, G3.out⟩
end Go.Proofs.Ytplabnjdhkmmkaa
end
section
set_option linter.unusedSimpArgs false
set_option linter.unusedVariables false
namespace Go.Proofs.Ytplabnjdhkmmkaa
open Go.ChangeShapes Go.WideShapes Go.ChangeAt Go.RowKit
def bedB (b : Int) : Bool := decide (b = 1 ∨ b = 2)
def dirB (d : Int) : Bool := decide (d = 1 ∨ d = -1)
def carB (c : Int) : Bool := decide (1 ≤ c ∧ c ≤ 4)
theorem isBed_any (n : Int) (w : World) : Calls Try.prog 141 #[.int .i64 n] w fun e w' => e = .returned (.bool (bedB n)) ∧ w = w' := by
  by_cases h1 : n = 1
  · subst h1
    go_enter Try.func141, Try.ntmps141
    go_wp2
    go_ret
    exact ⟨rfl, rfl⟩
  · have e1 : (n == 1) = false := by simpa using h1
    by_cases h2 : n = 2
    · subst h2
      go_enter Try.func141, Try.ntmps141
      go_wp2
      go_ret
      exact ⟨rfl, rfl⟩
    · have e2 : (n == 2) = false := by simpa using h2
      rw [show bedB n = false from decide_eq_false (by omega)]
      clear h1 h2
      go_enter Try.func141, Try.ntmps141
      go_wp2
      go_ret
      exact ⟨rfl, rfl⟩
theorem l01Bed_any (n : Int) (w : World) : Calls Try.prog 119 #[.int .i64 n] w fun e w' => e = .returned (.bool (bedB n)) ∧ w = w' := by
  by_cases h : n = 1 ∨ n = 2
  · rw [show bedB n = true from decide_eq_true h]
    have h' : 1 ≤ n ∧ n ≤ 2 := by omega
    clear h
    go_enter Try.func119, Try.ntmps119
    go_wp2_with (first | (go_at_call 64; refine (l00In_yes _ _ _ _ ?_).mono ?_; (omega); rintro e w' ⟨rfl, rfl⟩))
    go_ret
    exact ⟨rfl, rfl⟩
  · rw [show bedB n = false from decide_eq_false h]
    have h' : n < 1 ∨ 2 < n := by omega
    clear h
    go_enter Try.func119, Try.ntmps119
    go_wp2_with (first | (go_at_call 64; refine (l00In_no _ _ _ _ ?_).mono ?_; (omega); rintro e w' ⟨rfl, rfl⟩))
    go_ret
    exact ⟨rfl, rfl⟩
theorem isDirection_any (n : Int) (w : World) : Calls Try.prog 142 #[.int .i64 n] w fun e w' => e = .returned (.bool (dirB n)) ∧ w = w' := by
  cases h : dirB n
  · have h1 := of_decide_eq_false h
    exact isDirection_no n w (by omega)
  · have h1 := of_decide_eq_true h
    exact isDirection_yes n w (by omega)
theorem l07Dir_any (n : Int) (w : World) : Calls Try.prog 89 #[.int .i64 n] w fun e w' => e = .returned (.bool (dirB n)) ∧ w = w' := by
  cases h : dirB n
  · have h1 := of_decide_eq_false h
    exact l07Dir_no n w (by omega)
  · have h1 := of_decide_eq_true h
    exact l07Dir_yes n w (by omega)
theorem isCarrier_any (n : Int) (w : World) : Calls Try.prog 29 #[.int .i64 n] w fun e w' => e = .returned (.bool (carB n)) ∧ w = w' := by
  cases h : carB n
  · have h1 := of_decide_eq_false h
    exact isCarrier_no n w (by omega)
  · have h1 := of_decide_eq_true h
    exact isCarrier_yes n w (by omega)
theorem l07Yarn_any (n : Int) (w : World) : Calls Try.prog 91 #[.int .i64 n] w fun e w' => e = .returned (.bool (carB n)) ∧ w = w' := by
  cases h : carB n
  · have h1 := of_decide_eq_false h
    exact l07Yarn_no n w (by omega)
  · have h1 := of_decide_eq_true h
    exact l07Yarn_yes n w (by omega)
end Go.Proofs.Ytplabnjdhkmmkaa
end
