/- The program's transfer on machines. No condition. -/
import Derived.Test.YtiiodfcbpmkodaaGreatMFn5
set_option linter.unusedSimpArgs false
set_option linter.unusedVariables false
set_option maxRecDepth 100000
set_option maxHeartbeats 8000000
namespace Go.Proofs.YtiiodfcbpmkodaaGreat
open Go.ChangeShapes Go.WideShapes Go.ChangeAt Go.RowKit
attribute [local go_sem ↓] Go.wp_at_zero Go.wp_at_succ
theorem OwnI.lower {w : World} {b1 b2 : Nat} {v : Value} {xs : List Int} (h : OwnI w b1 v xs) (hb : b2 ≤ b1) : OwnI w b2 v xs := by
  obtain ⟨⟨hl, hr⟩, h2⟩ := h
  refine ⟨⟨hl, ?_⟩, h2⟩
  rcases hr with hr | ⟨g, cap, cur, e, hg, r⟩
  · exact .inl hr
  · exact .inr ⟨g, cap, cur, e, Nat.le_trans hb hg, r⟩
theorem transfer_12 (w : World) {S : Nat → Prop} {K p : Nat} {m : MachM} {F B C L D : Value} {fs bs : List Value} (h : MachX w S K p m F B C L D fs bs) (hS : NewIn S w) (hi : MInv m) (k d fa ta car rk : Int) (hn : okN m 1 fa) (hm : okN m 2 ta) (hl : (onM m 1 fa).length + (onM m 2 ta).length ≤ 4) :
    Calls Tryz.prog 82 #[.pointer (some ⟨p, 0, none⟩), .agg #[.int .i64 1, .int .i64 fa], .agg #[.int .i64 2, .int .i64 ta]] w fun e w' => ∃ v, e = .returned v ∧ OwnI w' 0 v (onM m 1 fa) ∧ Mach w' (fun b => S b ∧ v.ownBlock ≠ some b) K p (shiftM m ⟨k, d, 1, fa, 2, ta, car, rk⟩) ∧ Chg S w w' := by
  obtain ⟨g1, u1, hH1, hV1⟩ := h.hold hi (b := 1) (a := fa) hn
  obtain ⟨g2, u2, hH2, hV2⟩ := h.hold hi (b := 2) (a := ta) hm
  have hO := (h.off12 hV1 hV2)
  have V1 := Lib.hid (show AtN F B fs bs 1 fa g1 u1 from hV1)
  have V2 := Lib.hid (show AtN F B fs bs 2 ta g2 u2 from hV2)
  clear hV1 hV2
  have O := Lib.hid hO
  clear hO
  have O1 := Lib.hid (h.off_hold V1.out).1
  have HG1 := Lib.hid hH1.cell.lt
  have HG2 := Lib.hid hH2.cell.lt
  obtain ⟨A1, c1, rfl, hl1, hc1, -⟩ := hH1.own.ints.shape
  obtain ⟨A2, c2, rfl, hl2, hc2, -⟩ := hH2.own.ints.shape
  obtain ⟨l1, HL1⟩ : ∃ l1 : List Int, Hid (l1 = onM m 1 fa) := ⟨_, rfl⟩
  obtain ⟨l2, HL2⟩ : ∃ l2 : List Int, Hid (l2 = onM m 2 ta) := ⟨_, rfl⟩
  rw [← HL1.out] at hH1 V1 O O1 hl1 hl
  rw [← HL2.out] at hH2 V2 O hl2 hl
  have Hi := Lib.hid hi
  have HS := Lib.hid hS
  clear hi hS
  have hn' := hn.2
  have hm' := hm.2
  have X := Lib.hid (h)
  have U := Lib.hid ((Chg.refl Nowhere w))
  have H1 := Lib.hid (hH1)
  have H2 := Lib.hid (hH2)
  have e1 := hH1.cell.1
  have e2 := hH2.cell.1
  clear h hH1 hH2
  replace X := Lib.hid (X.out.up ((Chg.refl Nowhere w).alloc (.cells #[.int .i64 1, .int .i64 fa] 42)))
  replace U := Lib.hid (Chg.trans U.out ((Chg.refl Nowhere w).alloc (.cells #[.int .i64 1, .int .i64 fa] 42)))
  replace H1 := Lib.hid (H1.out.up ((Chg.refl Nowhere w).alloc (.cells #[.int .i64 1, .int .i64 fa] 42)))
  replace H2 := Lib.hid (H2.out.up ((Chg.refl Nowhere w).alloc (.cells #[.int .i64 1, .int .i64 fa] 42)))
  replace e1 := Chg.cell ((Chg.refl Nowhere w).alloc (.cells #[.int .i64 1, .int .i64 fa] 42)) e1 id
  replace e2 := Chg.cell ((Chg.refl Nowhere w).alloc (.cells #[.int .i64 1, .int .i64 fa] 42)) e2 id
  obtain ⟨a0, a1⟩ := box2 w (.int .i64 1) (.int .i64 fa) 42
  have hbx15 : w.heap.size < (w.alloc (.cells #[.int .i64 1, .int .i64 fa] 42)).heap.size := by simp
  replace X := Lib.hid (X.out.up ((Chg.refl Nowhere (w.alloc (.cells #[.int .i64 1, .int .i64 fa] 42))).alloc (.cells #[.int .i64 2, .int .i64 ta] 42)))
  replace U := Lib.hid (Chg.trans U.out ((Chg.refl Nowhere (w.alloc (.cells #[.int .i64 1, .int .i64 fa] 42))).alloc (.cells #[.int .i64 2, .int .i64 ta] 42)))
  replace H1 := Lib.hid (H1.out.up ((Chg.refl Nowhere (w.alloc (.cells #[.int .i64 1, .int .i64 fa] 42))).alloc (.cells #[.int .i64 2, .int .i64 ta] 42)))
  replace H2 := Lib.hid (H2.out.up ((Chg.refl Nowhere (w.alloc (.cells #[.int .i64 1, .int .i64 fa] 42))).alloc (.cells #[.int .i64 2, .int .i64 ta] 42)))
  replace e1 := Chg.cell ((Chg.refl Nowhere (w.alloc (.cells #[.int .i64 1, .int .i64 fa] 42))).alloc (.cells #[.int .i64 2, .int .i64 ta] 42)) e1 id
  replace e2 := Chg.cell ((Chg.refl Nowhere (w.alloc (.cells #[.int .i64 1, .int .i64 fa] 42))).alloc (.cells #[.int .i64 2, .int .i64 ta] 42)) e2 id
  replace a0 := Chg.cell ((Chg.refl Nowhere (w.alloc (.cells #[.int .i64 1, .int .i64 fa] 42))).alloc (.cells #[.int .i64 2, .int .i64 ta] 42)) a0 id
  replace a1 := Chg.cell ((Chg.refl Nowhere (w.alloc (.cells #[.int .i64 1, .int .i64 fa] 42))).alloc (.cells #[.int .i64 2, .int .i64 ta] 42)) a1 id
  have b0 := (show ((w.alloc (.cells #[.int .i64 1, .int .i64 fa] 42)).alloc (.cells #[.int .i64 2, .int .i64 ta] 42)).cell? ⟨w.heap.size + 1, 0, none⟩ = some (.int .i64 2) from cell_at (by simp) rfl)
  have b1 := (show ((w.alloc (.cells #[.int .i64 1, .int .i64 fa] 42)).alloc (.cells #[.int .i64 2, .int .i64 ta] 42)).cell? ⟨w.heap.size + 1, 1, none⟩ = some (.int .i64 ta) from cell_at (by simp) rfl)
  go_enter Tryz.func82, Tryz.ntmps82
  go_wp2_with fail
  refine (on_any _ p 1 fa g1 _ _ H1.out).mono ?_
  rintro e w26 ⟨rfl, g1⟩
  have G1 := Lib.hid g1
  have hz26 := G1.out.size
  clear g1
  replace X := Lib.hid (X.out.up (tt G1.out))
  replace U := Lib.hid (Chg.trans U.out (tt G1.out))
  replace H1 := Lib.hid (H1.out.up (tt G1.out))
  replace H2 := Lib.hid (H2.out.up (tt G1.out))
  have hh := cc6 (tt G1.out) e1 e2 a0 a1 b0 b1
  clear e1 e2 a0 a1 b0 b1
  obtain ⟨e1, e2, a0, a1, b0, b1⟩ := hh
  clear G1
  go_wp2
  have hz := U.out.size
  refine wp_region_l 45 (Nowhere) 12 [kon (.pointer (some ⟨p, 0, none⟩)), kon (.agg #[.int .i64 2, .int .i64 ta]), kon (.pointer (some ⟨g2, ta.toNat, none⟩)), kon (.slice A1 l1.length c1), kon (.pointer (some ⟨p, 0, none⟩)), kon (.agg #[.int .i64 2, .int .i64 ta]), kon (.pointer (some ⟨g2, ta.toNat, none⟩)), kon (.pointer (some ⟨g2, ta.toNat, none⟩)), kon (.slice A2 l2.length c2), (fun v w' => Raw w' (fun _ => True) 1 v 2 [.slice A1 l1.length c1, .slice A2 l2.length c2]), (fun v w' => OwnI w' w26.heap.size v (l1 ++ l2)), kon (.pointer (some ⟨g2, ta.toNat, none⟩))] [(0, 16, []), (1, 17, []), (2, 18, [0, 1]), (3, 19, []), (4, 20, []), (5, 21, []), (6, 22, [4, 5, 2]), (7, 23, [6]), (8, 24, [7]), (9, 25, [3, 8]), (10, 26, [9, 6]), (11, 27, [2, 0, 1, 2, 3, 4, 5, 6, 7, 8, 9, 10])] (by kernel_rfl) (by kernel_rfl) (by kernel_rfl) rfl ?_ ?_ ?_
  · exact ⟨(keeps_kon _), ⟨(keeps_kon _), ⟨(keeps_kon _), ⟨(keeps_kon _), ⟨(keeps_kon _), ⟨(keeps_kon _), ⟨(keeps_kon _), ⟨(keeps_kon _), ⟨(keeps_kon _), ⟨(fun v w1 w2 h k => h.up k), ⟨(fun v w1 w2 h k => h.up k), ⟨(keeps_kon _), trivial⟩⟩⟩⟩⟩⟩⟩⟩⟩⟩⟩⟩
  · exact allBut_none 0 ⟨(keeps_kon _), ⟨(keeps_kon _), ⟨(keeps_kon _), ⟨(keeps_kon _), ⟨(keeps_kon _), ⟨(keeps_kon _), ⟨(keeps_kon _), ⟨(keeps_kon _), ⟨(keeps_kon _), ⟨(fun v w1 w2 h k => h.up k), ⟨(fun v w1 w2 h k => h.up k), ⟨(keeps_kon _), trivial⟩⟩⟩⟩⟩⟩⟩⟩⟩⟩⟩⟩
  refine ⟨fun w1 hc _ hn => ?_, fun v0 => ?_⟩
  · refine grow_same (v := .pointer (some ⟨p, 0, none⟩)) ?_ ?_
    exact x_move (.tmp 0) rfl rfl
    rfl
  refine ⟨fun w1 hc _ hn => ?_, fun v1 => ?_⟩
  · refine grow_same (v := .agg #[.int .i64 2, .int .i64 ta]) ?_ ?_
    exact x_load (q := .pointer (some ⟨w.heap.size + 1, 0, none⟩)) 42 (.tmp 5) (by rfl) (by rfl) (by exact ld_needle _ _ _ _ _ (hc.cell b0 id) (hc.cell b1 id))
    rfl
  refine ⟨fun w1 hc _ hn => ?_, fun v2 => ?_⟩
  · obtain rfl : (.pointer (some ⟨p, 0, none⟩) : Value) = v0 := Eq.symm hn.1
    obtain rfl : (.agg #[.int .i64 2, .int .i64 ta] : Value) = v1 := Eq.symm hn.2.1
    refine grow_call (f := 80) (args := #[.pointer (some ⟨p, 0, none⟩), .agg #[.int .i64 2, .int .i64 ta]]) (x_call #[.tmp 16, .tmp 17] #[63, 42] Tryz.func80 (by rfl) (by rfl) (by rfl) (by rfl) (by simp only [List.map_toArray, List.map_cons, List.map_nil]; rfl)) ?_
    refine (on_any _ p 2 ta g2 _ _ (H2.out.up hc)).mono ?_
    rintro e w' ⟨rfl, g1⟩
    exact ⟨_, rfl, rg_up g1, rfl⟩
  refine ⟨fun w1 hc _ hn => ?_, fun v3 => ?_⟩
  · refine grow_same (v := .slice A1 l1.length c1) ?_ ?_
    exact x_move (.tmp 7) rfl rfl
    rfl
  refine ⟨fun w1 hc _ hn => ?_, fun v4 => ?_⟩
  · refine grow_same (v := .pointer (some ⟨p, 0, none⟩)) ?_ ?_
    exact x_move (.tmp 0) rfl rfl
    rfl
  refine ⟨fun w1 hc _ hn => ?_, fun v5 => ?_⟩
  · refine grow_same (v := .agg #[.int .i64 2, .int .i64 ta]) ?_ ?_
    exact x_load (q := .pointer (some ⟨w.heap.size + 1, 0, none⟩)) 42 (.tmp 5) (by rfl) (by rfl) (by exact ld_needle _ _ _ _ _ (hc.cell b0 id) (hc.cell b1 id))
    rfl
  refine ⟨fun w1 hc _ hn => ?_, fun v6 => ?_⟩
  · obtain rfl : (.pointer (some ⟨p, 0, none⟩) : Value) = v4 := Eq.symm hn.1
    obtain rfl : (.agg #[.int .i64 2, .int .i64 ta] : Value) = v5 := Eq.symm hn.2.1
    refine grow_call (f := 80) (args := #[.pointer (some ⟨p, 0, none⟩), .agg #[.int .i64 2, .int .i64 ta]]) (x_call #[.tmp 20, .tmp 21] #[63, 42] Tryz.func80 (by rfl) (by rfl) (by rfl) (by rfl) (by simp only [List.map_toArray, List.map_cons, List.map_nil]; rfl)) ?_
    refine (on_any _ p 2 ta g2 _ _ (H2.out.up hc)).mono ?_
    rintro e w' ⟨rfl, g1⟩
    exact ⟨_, rfl, rg_up g1, rfl⟩
  refine ⟨fun w1 hc _ hn => ?_, fun v7 => ?_⟩
  · obtain rfl : (.pointer (some ⟨g2, ta.toNat, none⟩) : Value) = v6 := Eq.symm hn.1
    refine grow_same (v := .pointer (some ⟨g2, ta.toNat, none⟩)) ?_ ?_
    exact x_nil (p := ⟨g2, ta.toNat, none⟩) (.tmp 22) rfl rfl
    rfl
  refine ⟨fun w1 hc _ hn => ?_, fun v8 => ?_⟩
  · obtain rfl : (.pointer (some ⟨g2, ta.toNat, none⟩) : Value) = v7 := Eq.symm hn.1
    refine grow_same (v := .slice A2 l2.length c2) ?_ ?_
    exact x_load (q := .pointer (some ⟨g2, ta.toNat, none⟩)) 34 (.tmp 23) (by rfl) (by rfl) (by exact ld_ints _ _ _ (hc.cell e2 id))
    rfl
  refine ⟨fun w1 hc _ hn => ?_, fun v9 => ?_⟩
  · obtain rfl : (.slice A1 l1.length c1 : Value) = v3 := Eq.symm hn.1
    obtain rfl : (.slice A2 l2.length c2 : Value) = v8 := Eq.symm hn.2.1
    exact grow_ok (x_build2 56 (.tmp 19) (.tmp 24) (by rfl) (by rfl) (by rfl) (by exact bs_lists2 _ _ _ _ _ _ _)) (rg_up ((Chg.refl _ _).alloc _)) (raw_new2 _ _ _ _)
  refine ⟨fun w1 hc _ hn => ?_, fun v10 => ?_⟩
  · refine grow_call (f := 91) (args := #[v9]) (x_call #[.tmp 25] #[56] Tryz.func91 (by rfl) (by rfl) (by rfl) (by rfl) (by simp only [List.map_toArray, List.map_cons, List.map_nil]; rfl)) ?_
    refine (concatI2_any w1 _ _ _ _ _ _ _ _ hn.1 (H1.out.own.ints.up hc) (H2.out.own.ints.up hc) (by omega)).mono ?_
    rintro e w' ⟨v', rfl, k1, g1⟩
    exact ⟨_, rfl, rg_up g1, OwnI.lower k1 hc.size⟩
  refine ⟨fun w1 hc _ hn => ?_, fun v11 => ?_⟩
  · obtain rfl : (.pointer (some ⟨g2, ta.toNat, none⟩) : Value) = v2 := Eq.symm hn.1
    refine grow_same (v := .pointer (some ⟨g2, ta.toNat, none⟩)) ?_ ?_
    exact x_nil (p := ⟨g2, ta.toNat, none⟩) (.tmp 18) rfl rfl
    rfl
  intro wa ka hn7
  obtain ⟨rfl, fv, -, rfl, rfl, rfl, rfl, rfl, rfl, rfl, rfl, rfl, -⟩ := hn7
  obtain ⟨A3, c3, rfl, hl3, hc3, -⟩ := fv.ints.shape
  obtain ⟨l3, HL3⟩ : ∃ l3 : List Int, Hid (l3 = (l1 ++ l2)) := ⟨_, rfl⟩
  rw [← HL3.out] at fv hl3
  rw [← HL3.out]
  have E1 := ka.cell e2 id
  have F1 := (H2.out.up ka).cell.2
  have X2 := Lib.hid (X.out.slotX (HS.out.up U.out) V2.out (Chg.of_up ka) (OwnI.lower fv (Nat.zero_le _)) (fun x hx => .inr (fv.1.lt x hx).1))
  have G2 := Lib.hid (X.out.slotG (v' := .slice A3 l3.length c3) V2.out (Chg.of_up ka))
  have hg2 := HG2.out
  have o := O.out
  have d0 : (wa.setCell ⟨g2, ta.toNat, none⟩ (.slice A3 l3.length c3)).cell? ⟨w.heap.size, 0, none⟩ = _ := keepS (ka.cell a0 id) (Nat.ne_of_lt hg2)
  have d1 : (wa.setCell ⟨g2, ta.toNat, none⟩ (.slice A3 l3.length c3)).cell? ⟨w.heap.size, 1, none⟩ = _ := keepS (ka.cell a1 id) (Nat.ne_of_lt hg2)
  have H3 := Lib.hid (H1.out.keep (Chg.setCell (S := fun b => b = g2) (Chg.of_up ka) (.inl rfl) (.slice A3 l3.length c3)) (fun e => o.gp' e.symm) o.gg (fun x hx e => o.vg (e ▸ hx)) : Hold (wa.setCell ⟨g2, ta.toNat, none⟩ (.slice A3 l3.length c3)) p 1 fa g1 (.slice A1 l1.length c1) l1)
  clear hg2 o fv a0 a1 b0 b1 e1 e2 H1 H2
  have VX := Lib.hid (show AtN F B (setF fs 2 ta (.slice A3 l3.length c3)) (setB bs 2 ta (.slice A3 l3.length c3)) 1 fa g1 (.slice A1 l1.length c1) from V1.out.elim (fun h => absurd h.1 (by decide)) (fun h => .inr h))
  simp only [List.length_cons, List.length_nil, List.drop_succ_cons, List.drop_zero, Nat.zero_add]
  go_wp2_with fail
  refine (on_any _ p 1 fa g1 _ _ H3.out).mono ?_
  rintro e w5 ⟨rfl, k5⟩
  have K5 := Lib.hid k5
  clear k5 d0 d1 E1 F1
  have H5 := Lib.hid (H3.out.up K5.out)
  have E5 := H5.out.cell.1
  have F5 := H5.out.cell.2
  clear H3
  have X5 := Lib.hid ((X2.out.up K5.out).slot0 ((HS.out.up U.out).up (Chg.trans G2.out (Chg.of_up K5.out))) VX.out)
  go_wp2
  go_ret
  have o := O.out
  refine ⟨_, rfl, ?_, ?_, Chg.trans (Chg.of_up U.out) (Chg.trans G2.out (Chg.trans (Chg.of_up K5.out) X5.out.2))⟩
  · rw [← HL1.out]
    exact H5.out.own.kept (Chg.setCell (Chg.refl (fun b => b = g1) w5) (.inl rfl) _) (fun x hx e => O1.out (e ▸ hx))
  · have := X5.out.1.mach
    rw [HL3.out] at this
    unfold shiftM bothM
    rw [← HL1.out, ← HL2.out]
    exact this
theorem transfer_21 (w : World) {S : Nat → Prop} {K p : Nat} {m : MachM} {F B C L D : Value} {fs bs : List Value} (h : MachX w S K p m F B C L D fs bs) (hS : NewIn S w) (hi : MInv m) (k d fa ta car rk : Int) (hn : okN m 2 fa) (hm : okN m 1 ta) (hl : (onM m 2 fa).length + (onM m 1 ta).length ≤ 4) :
    Calls Tryz.prog 82 #[.pointer (some ⟨p, 0, none⟩), .agg #[.int .i64 2, .int .i64 fa], .agg #[.int .i64 1, .int .i64 ta]] w fun e w' => ∃ v, e = .returned v ∧ OwnI w' 0 v (onM m 2 fa) ∧ Mach w' (fun b => S b ∧ v.ownBlock ≠ some b) K p (shiftM m ⟨k, d, 2, fa, 1, ta, car, rk⟩) ∧ Chg S w w' := by
  obtain ⟨g1, u1, hH1, hV1⟩ := h.hold hi (b := 2) (a := fa) hn
  obtain ⟨g2, u2, hH2, hV2⟩ := h.hold hi (b := 1) (a := ta) hm
  have hO := (h.off12 hV2 hV1).symm
  have V1 := Lib.hid (show AtN F B fs bs 2 fa g1 u1 from hV1)
  have V2 := Lib.hid (show AtN F B fs bs 1 ta g2 u2 from hV2)
  clear hV1 hV2
  have O := Lib.hid hO
  clear hO
  have O1 := Lib.hid (h.off_hold V1.out).1
  have HG1 := Lib.hid hH1.cell.lt
  have HG2 := Lib.hid hH2.cell.lt
  obtain ⟨A1, c1, rfl, hl1, hc1, -⟩ := hH1.own.ints.shape
  obtain ⟨A2, c2, rfl, hl2, hc2, -⟩ := hH2.own.ints.shape
  obtain ⟨l1, HL1⟩ : ∃ l1 : List Int, Hid (l1 = onM m 2 fa) := ⟨_, rfl⟩
  obtain ⟨l2, HL2⟩ : ∃ l2 : List Int, Hid (l2 = onM m 1 ta) := ⟨_, rfl⟩
  rw [← HL1.out] at hH1 V1 O O1 hl1 hl
  rw [← HL2.out] at hH2 V2 O hl2 hl
  have Hi := Lib.hid hi
  have HS := Lib.hid hS
  clear hi hS
  have hn' := hn.2
  have hm' := hm.2
  have X := Lib.hid (h)
  have U := Lib.hid ((Chg.refl Nowhere w))
  have H1 := Lib.hid (hH1)
  have H2 := Lib.hid (hH2)
  have e1 := hH1.cell.1
  have e2 := hH2.cell.1
  clear h hH1 hH2
  replace X := Lib.hid (X.out.up ((Chg.refl Nowhere w).alloc (.cells #[.int .i64 2, .int .i64 fa] 42)))
  replace U := Lib.hid (Chg.trans U.out ((Chg.refl Nowhere w).alloc (.cells #[.int .i64 2, .int .i64 fa] 42)))
  replace H1 := Lib.hid (H1.out.up ((Chg.refl Nowhere w).alloc (.cells #[.int .i64 2, .int .i64 fa] 42)))
  replace H2 := Lib.hid (H2.out.up ((Chg.refl Nowhere w).alloc (.cells #[.int .i64 2, .int .i64 fa] 42)))
  replace e1 := Chg.cell ((Chg.refl Nowhere w).alloc (.cells #[.int .i64 2, .int .i64 fa] 42)) e1 id
  replace e2 := Chg.cell ((Chg.refl Nowhere w).alloc (.cells #[.int .i64 2, .int .i64 fa] 42)) e2 id
  obtain ⟨a0, a1⟩ := box2 w (.int .i64 2) (.int .i64 fa) 42
  have hbx15 : w.heap.size < (w.alloc (.cells #[.int .i64 2, .int .i64 fa] 42)).heap.size := by simp
  replace X := Lib.hid (X.out.up ((Chg.refl Nowhere (w.alloc (.cells #[.int .i64 2, .int .i64 fa] 42))).alloc (.cells #[.int .i64 1, .int .i64 ta] 42)))
  replace U := Lib.hid (Chg.trans U.out ((Chg.refl Nowhere (w.alloc (.cells #[.int .i64 2, .int .i64 fa] 42))).alloc (.cells #[.int .i64 1, .int .i64 ta] 42)))
  replace H1 := Lib.hid (H1.out.up ((Chg.refl Nowhere (w.alloc (.cells #[.int .i64 2, .int .i64 fa] 42))).alloc (.cells #[.int .i64 1, .int .i64 ta] 42)))
  replace H2 := Lib.hid (H2.out.up ((Chg.refl Nowhere (w.alloc (.cells #[.int .i64 2, .int .i64 fa] 42))).alloc (.cells #[.int .i64 1, .int .i64 ta] 42)))
  replace e1 := Chg.cell ((Chg.refl Nowhere (w.alloc (.cells #[.int .i64 2, .int .i64 fa] 42))).alloc (.cells #[.int .i64 1, .int .i64 ta] 42)) e1 id
  replace e2 := Chg.cell ((Chg.refl Nowhere (w.alloc (.cells #[.int .i64 2, .int .i64 fa] 42))).alloc (.cells #[.int .i64 1, .int .i64 ta] 42)) e2 id
  replace a0 := Chg.cell ((Chg.refl Nowhere (w.alloc (.cells #[.int .i64 2, .int .i64 fa] 42))).alloc (.cells #[.int .i64 1, .int .i64 ta] 42)) a0 id
  replace a1 := Chg.cell ((Chg.refl Nowhere (w.alloc (.cells #[.int .i64 2, .int .i64 fa] 42))).alloc (.cells #[.int .i64 1, .int .i64 ta] 42)) a1 id
  have b0 := (show ((w.alloc (.cells #[.int .i64 2, .int .i64 fa] 42)).alloc (.cells #[.int .i64 1, .int .i64 ta] 42)).cell? ⟨w.heap.size + 1, 0, none⟩ = some (.int .i64 1) from cell_at (by simp) rfl)
  have b1 := (show ((w.alloc (.cells #[.int .i64 2, .int .i64 fa] 42)).alloc (.cells #[.int .i64 1, .int .i64 ta] 42)).cell? ⟨w.heap.size + 1, 1, none⟩ = some (.int .i64 ta) from cell_at (by simp) rfl)
  go_enter Tryz.func82, Tryz.ntmps82
  go_wp2_with fail
  refine (on_any _ p 2 fa g1 _ _ H1.out).mono ?_
  rintro e w26 ⟨rfl, g1⟩
  have G1 := Lib.hid g1
  have hz26 := G1.out.size
  clear g1
  replace X := Lib.hid (X.out.up (tt G1.out))
  replace U := Lib.hid (Chg.trans U.out (tt G1.out))
  replace H1 := Lib.hid (H1.out.up (tt G1.out))
  replace H2 := Lib.hid (H2.out.up (tt G1.out))
  have hh := cc6 (tt G1.out) e1 e2 a0 a1 b0 b1
  clear e1 e2 a0 a1 b0 b1
  obtain ⟨e1, e2, a0, a1, b0, b1⟩ := hh
  clear G1
  go_wp2
  have hz := U.out.size
  refine wp_region_l 45 (Nowhere) 12 [kon (.pointer (some ⟨p, 0, none⟩)), kon (.agg #[.int .i64 1, .int .i64 ta]), kon (.pointer (some ⟨g2, ta.toNat, none⟩)), kon (.pointer (some ⟨p, 0, none⟩)), kon (.agg #[.int .i64 1, .int .i64 ta]), kon (.pointer (some ⟨g2, ta.toNat, none⟩)), kon (.pointer (some ⟨g2, ta.toNat, none⟩)), kon (.slice A2 l2.length c2), kon (.slice A1 l1.length c1), (fun v w' => Raw w' (fun _ => True) 1 v 2 [.slice A2 l2.length c2, .slice A1 l1.length c1]), (fun v w' => OwnI w' w26.heap.size v (l2 ++ l1)), kon (.pointer (some ⟨g2, ta.toNat, none⟩))] [(0, 28, []), (1, 29, []), (2, 30, [0, 1]), (3, 31, []), (4, 32, []), (5, 33, [3, 4, 2]), (6, 34, [5]), (7, 35, [6]), (8, 36, []), (9, 37, [7, 8]), (10, 38, [9, 5]), (11, 39, [2, 0, 1, 2, 3, 4, 5, 6, 7, 8, 9, 10])] (by kernel_rfl) (by kernel_rfl) (by kernel_rfl) rfl ?_ ?_ ?_
  · exact ⟨(keeps_kon _), ⟨(keeps_kon _), ⟨(keeps_kon _), ⟨(keeps_kon _), ⟨(keeps_kon _), ⟨(keeps_kon _), ⟨(keeps_kon _), ⟨(keeps_kon _), ⟨(keeps_kon _), ⟨(fun v w1 w2 h k => h.up k), ⟨(fun v w1 w2 h k => h.up k), ⟨(keeps_kon _), trivial⟩⟩⟩⟩⟩⟩⟩⟩⟩⟩⟩⟩
  · exact allBut_none 0 ⟨(keeps_kon _), ⟨(keeps_kon _), ⟨(keeps_kon _), ⟨(keeps_kon _), ⟨(keeps_kon _), ⟨(keeps_kon _), ⟨(keeps_kon _), ⟨(keeps_kon _), ⟨(keeps_kon _), ⟨(fun v w1 w2 h k => h.up k), ⟨(fun v w1 w2 h k => h.up k), ⟨(keeps_kon _), trivial⟩⟩⟩⟩⟩⟩⟩⟩⟩⟩⟩⟩
  refine ⟨fun w1 hc _ hn => ?_, fun v0 => ?_⟩
  · refine grow_same (v := .pointer (some ⟨p, 0, none⟩)) ?_ ?_
    exact x_move (.tmp 0) rfl rfl
    rfl
  refine ⟨fun w1 hc _ hn => ?_, fun v1 => ?_⟩
  · refine grow_same (v := .agg #[.int .i64 1, .int .i64 ta]) ?_ ?_
    exact x_load (q := .pointer (some ⟨w.heap.size + 1, 0, none⟩)) 42 (.tmp 5) (by rfl) (by rfl) (by exact ld_needle _ _ _ _ _ (hc.cell b0 id) (hc.cell b1 id))
    rfl
  refine ⟨fun w1 hc _ hn => ?_, fun v2 => ?_⟩
  · obtain rfl : (.pointer (some ⟨p, 0, none⟩) : Value) = v0 := Eq.symm hn.1
    obtain rfl : (.agg #[.int .i64 1, .int .i64 ta] : Value) = v1 := Eq.symm hn.2.1
    refine grow_call (f := 80) (args := #[.pointer (some ⟨p, 0, none⟩), .agg #[.int .i64 1, .int .i64 ta]]) (x_call #[.tmp 28, .tmp 29] #[63, 42] Tryz.func80 (by rfl) (by rfl) (by rfl) (by rfl) (by simp only [List.map_toArray, List.map_cons, List.map_nil]; rfl)) ?_
    refine (on_any _ p 1 ta g2 _ _ (H2.out.up hc)).mono ?_
    rintro e w' ⟨rfl, g1⟩
    exact ⟨_, rfl, rg_up g1, rfl⟩
  refine ⟨fun w1 hc _ hn => ?_, fun v3 => ?_⟩
  · refine grow_same (v := .pointer (some ⟨p, 0, none⟩)) ?_ ?_
    exact x_move (.tmp 0) rfl rfl
    rfl
  refine ⟨fun w1 hc _ hn => ?_, fun v4 => ?_⟩
  · refine grow_same (v := .agg #[.int .i64 1, .int .i64 ta]) ?_ ?_
    exact x_load (q := .pointer (some ⟨w.heap.size + 1, 0, none⟩)) 42 (.tmp 5) (by rfl) (by rfl) (by exact ld_needle _ _ _ _ _ (hc.cell b0 id) (hc.cell b1 id))
    rfl
  refine ⟨fun w1 hc _ hn => ?_, fun v5 => ?_⟩
  · obtain rfl : (.pointer (some ⟨p, 0, none⟩) : Value) = v3 := Eq.symm hn.1
    obtain rfl : (.agg #[.int .i64 1, .int .i64 ta] : Value) = v4 := Eq.symm hn.2.1
    refine grow_call (f := 80) (args := #[.pointer (some ⟨p, 0, none⟩), .agg #[.int .i64 1, .int .i64 ta]]) (x_call #[.tmp 31, .tmp 32] #[63, 42] Tryz.func80 (by rfl) (by rfl) (by rfl) (by rfl) (by simp only [List.map_toArray, List.map_cons, List.map_nil]; rfl)) ?_
    refine (on_any _ p 1 ta g2 _ _ (H2.out.up hc)).mono ?_
    rintro e w' ⟨rfl, g1⟩
    exact ⟨_, rfl, rg_up g1, rfl⟩
  refine ⟨fun w1 hc _ hn => ?_, fun v6 => ?_⟩
  · obtain rfl : (.pointer (some ⟨g2, ta.toNat, none⟩) : Value) = v5 := Eq.symm hn.1
    refine grow_same (v := .pointer (some ⟨g2, ta.toNat, none⟩)) ?_ ?_
    exact x_nil (p := ⟨g2, ta.toNat, none⟩) (.tmp 33) rfl rfl
    rfl
  refine ⟨fun w1 hc _ hn => ?_, fun v7 => ?_⟩
  · obtain rfl : (.pointer (some ⟨g2, ta.toNat, none⟩) : Value) = v6 := Eq.symm hn.1
    refine grow_same (v := .slice A2 l2.length c2) ?_ ?_
    exact x_load (q := .pointer (some ⟨g2, ta.toNat, none⟩)) 34 (.tmp 34) (by rfl) (by rfl) (by exact ld_ints _ _ _ (hc.cell e2 id))
    rfl
  refine ⟨fun w1 hc _ hn => ?_, fun v8 => ?_⟩
  · refine grow_same (v := .slice A1 l1.length c1) ?_ ?_
    exact x_move (.tmp 7) rfl rfl
    rfl
  refine ⟨fun w1 hc _ hn => ?_, fun v9 => ?_⟩
  · obtain rfl : (.slice A2 l2.length c2 : Value) = v7 := Eq.symm hn.1
    obtain rfl : (.slice A1 l1.length c1 : Value) = v8 := Eq.symm hn.2.1
    exact grow_ok (x_build2 56 (.tmp 35) (.tmp 36) (by rfl) (by rfl) (by rfl) (by exact bs_lists2 _ _ _ _ _ _ _)) (rg_up ((Chg.refl _ _).alloc _)) (raw_new2 _ _ _ _)
  refine ⟨fun w1 hc _ hn => ?_, fun v10 => ?_⟩
  · refine grow_call (f := 91) (args := #[v9]) (x_call #[.tmp 37] #[56] Tryz.func91 (by rfl) (by rfl) (by rfl) (by rfl) (by simp only [List.map_toArray, List.map_cons, List.map_nil]; rfl)) ?_
    refine (concatI2_any w1 _ _ _ _ _ _ _ _ hn.1 (H2.out.own.ints.up hc) (H1.out.own.ints.up hc) (by omega)).mono ?_
    rintro e w' ⟨v', rfl, k1, g1⟩
    exact ⟨_, rfl, rg_up g1, OwnI.lower k1 hc.size⟩
  refine ⟨fun w1 hc _ hn => ?_, fun v11 => ?_⟩
  · obtain rfl : (.pointer (some ⟨g2, ta.toNat, none⟩) : Value) = v2 := Eq.symm hn.1
    refine grow_same (v := .pointer (some ⟨g2, ta.toNat, none⟩)) ?_ ?_
    exact x_nil (p := ⟨g2, ta.toNat, none⟩) (.tmp 30) rfl rfl
    rfl
  intro wa ka hn7
  obtain ⟨rfl, fv, -, rfl, rfl, rfl, rfl, rfl, rfl, rfl, rfl, rfl, -⟩ := hn7
  obtain ⟨A3, c3, rfl, hl3, hc3, -⟩ := fv.ints.shape
  obtain ⟨l3, HL3⟩ : ∃ l3 : List Int, Hid (l3 = (l2 ++ l1)) := ⟨_, rfl⟩
  rw [← HL3.out] at fv hl3
  rw [← HL3.out]
  have E1 := ka.cell e2 id
  have F1 := (H2.out.up ka).cell.2
  have X2 := Lib.hid (X.out.slotX (HS.out.up U.out) V2.out (Chg.of_up ka) (OwnI.lower fv (Nat.zero_le _)) (fun x hx => .inr (fv.1.lt x hx).1))
  have G2 := Lib.hid (X.out.slotG (v' := .slice A3 l3.length c3) V2.out (Chg.of_up ka))
  have hg2 := HG2.out
  have o := O.out
  have d0 : (wa.setCell ⟨g2, ta.toNat, none⟩ (.slice A3 l3.length c3)).cell? ⟨w.heap.size, 0, none⟩ = _ := keepS (ka.cell a0 id) (Nat.ne_of_lt hg2)
  have d1 : (wa.setCell ⟨g2, ta.toNat, none⟩ (.slice A3 l3.length c3)).cell? ⟨w.heap.size, 1, none⟩ = _ := keepS (ka.cell a1 id) (Nat.ne_of_lt hg2)
  have H3 := Lib.hid (H1.out.keep (Chg.setCell (S := fun b => b = g2) (Chg.of_up ka) (.inl rfl) (.slice A3 l3.length c3)) (fun e => o.gp' e.symm) o.gg (fun x hx e => o.vg (e ▸ hx)) : Hold (wa.setCell ⟨g2, ta.toNat, none⟩ (.slice A3 l3.length c3)) p 2 fa g1 (.slice A1 l1.length c1) l1)
  clear hg2 o fv a0 a1 b0 b1 e1 e2 H1 H2
  have VX := Lib.hid (show AtN F B (setF fs 1 ta (.slice A3 l3.length c3)) (setB bs 1 ta (.slice A3 l3.length c3)) 2 fa g1 (.slice A1 l1.length c1) from V1.out.elim (fun h => .inl h) (fun h => absurd h.1 (by decide)))
  simp only [List.length_cons, List.length_nil, List.drop_succ_cons, List.drop_zero, Nat.zero_add]
  go_wp2_with fail
  refine (on_any _ p 2 fa g1 _ _ H3.out).mono ?_
  rintro e w5 ⟨rfl, k5⟩
  have K5 := Lib.hid k5
  clear k5 d0 d1 E1 F1
  have H5 := Lib.hid (H3.out.up K5.out)
  have E5 := H5.out.cell.1
  have F5 := H5.out.cell.2
  clear H3
  have X5 := Lib.hid ((X2.out.up K5.out).slot0 ((HS.out.up U.out).up (Chg.trans G2.out (Chg.of_up K5.out))) VX.out)
  go_wp2
  go_ret
  have o := O.out
  refine ⟨_, rfl, ?_, ?_, Chg.trans (Chg.of_up U.out) (Chg.trans G2.out (Chg.trans (Chg.of_up K5.out) X5.out.2))⟩
  · rw [← HL1.out]
    exact H5.out.own.kept (Chg.setCell (Chg.refl (fun b => b = g1) w5) (.inl rfl) _) (fun x hx e => O1.out (e ▸ hx))
  · have := X5.out.1.mach
    rw [HL3.out] at this
    unfold shiftM bothM
    rw [← HL1.out, ← HL2.out]
    exact this
end Go.Proofs.YtiiodfcbpmkodaaGreat
