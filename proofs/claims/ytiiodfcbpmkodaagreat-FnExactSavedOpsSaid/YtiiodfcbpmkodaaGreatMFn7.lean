/- The program's execution of an operation, kind by kind. No condition. -/
import Derived.Test.YtiiodfcbpmkodaaGreatMFn6
import Derived.Test.YtiiodfcbpmkodaaGreatMCar
set_option linter.unusedSimpArgs false
set_option linter.unusedVariables false
set_option maxRecDepth 100000
set_option maxHeartbeats 8000000
namespace Go.Proofs.YtiiodfcbpmkodaaGreat
open Go.ChangeShapes Go.WideShapes Go.ChangeAt Go.RowKit
attribute [local go_sem ↓] Go.wp_at_zero Go.wp_at_succ
theorem opCode_0 (w : World) {S : Nat → Prop} {K p : Nat} {m : MachM} {F B C L D : Value} {fs bs : List Value} (h : MachX w S K p m F B C L D fs bs) (hi : MInv m) (x : OpM) (hx : okOp m.wd x) (h0 : codeM m x = 0) :
    Calls Tryz.prog 79 #[.pointer (some ⟨p, 0, none⟩), x.val] w fun e w' => e = .returned (.int .i64 0) ∧ Up w w' := by
  rw [← h0]; exact opCode_any w h hi x hx
theorem execute_knitR (w : World) {S : Nat → Prop} {K p : Nat} {m : MachM} {F B C L D : Value} {fs bs : List Value} (h : MachX w S K p m F B C L D fs bs) (hS : NewIn S w) (hi : MInv m) (fb fa tb ta rk : Int) (j : Nat) (hx : okOp m.wd ⟨1, 1, fb, fa, tb, ta, ((j : Int) + 1), rk⟩) (h0 : codeM m ⟨1, 1, fb, fa, tb, ta, ((j : Int) + 1), rk⟩ = 0) :
    Calls Tryz.prog 69 #[.pointer (some ⟨p, 0, none⟩), .agg #[.int .i64 1, .int .i64 1, .int .i64 fb, .int .i64 fa, .int .i64 tb, .int .i64 ta, .int .i64 ((j : Int) + 1), .int .i64 rk]] w fun e w' => e = .returned (.int .i64 0) ∧ Mach w' S K p (execM m ⟨1, 1, fb, fa, tb, ta, ((j : Int) + 1), rk⟩) ∧ Chg S w w' := by
  obtain ⟨hx1, hx2, hx3⟩ := hx
  have hv := valid_cases hx1
  dsimp only at hx2 hx3 hv
  have hwd := hi.wd
  have hrk := hi.rack
  have cz := code_zero h0
  dsimp only at cz
  have HX := Lib.hid (show okOp m.wd ⟨1, 1, fb, fa, tb, ta, ((j : Int) + 1), rk⟩ from ⟨hx1, hx2, hx3⟩)
  clear hx1
  have H0 := Lib.hid h0
  clear h0
  have Hi := Lib.hid hi
  have HS := Lib.hid hS
  have HX2 := Lib.hid (h.mono (T := (fun b => S b ∧ b ≠ w.heap.size)) (fun b hb hs => ⟨hs, Nat.ne_of_lt hb⟩))
  have hn1 : okN m fb fa := ⟨by omega, by omega, by omega⟩
  have hnl := cz.2.1 (by decide)
  have hnl2 := hi.nl
  obtain ⟨g1, u1, hH1, hV1⟩ := h.hold hi (b := fb) (a := fa) hn1
  have O1 := Lib.hid (h.off_hold hV1)
  have V1 := Lib.hid (show AtN F B fs bs fb fa g1 u1 from hV1)
  clear hV1
  obtain ⟨A1, c1, rfl, hl1, hc1, -⟩ := hH1.own.ints.shape
  obtain ⟨l1, HL1⟩ : ∃ l1 : List Int, Hid (l1 = onM m fb fa) := ⟨_, rfl⟩
  have hln1 := (hi.on_ fb fa).1
  rw [← HL1.out] at hH1 V1 O1 hl1 hln1
  have HG1 := Lib.hid hH1.cell.lt
  have HB1 := Lib.hid (fun e => absurd (hH1.own.1.lt _ e).2 (Nat.lt_irrefl _) : ¬ (Value.slice A1 l1.length c1).ownBlock = some w.heap.size)
  have X := Lib.hid (HX2.out)
  have U := Lib.hid ((Chg.refl Nowhere w))
  clear h hi hS HX2
  have H1 := Lib.hid (hH1)
  replace X := Lib.hid (X.out.up ((Chg.refl Nowhere w).alloc (.cells #[.int .i64 1, .int .i64 1, .int .i64 fb, .int .i64 fa, .int .i64 tb, .int .i64 ta, .int .i64 ((j : Int) + 1), .int .i64 rk] 44)))
  replace U := Lib.hid (Chg.trans U.out ((Chg.refl Nowhere w).alloc (.cells #[.int .i64 1, .int .i64 1, .int .i64 fb, .int .i64 fa, .int .i64 tb, .int .i64 ta, .int .i64 ((j : Int) + 1), .int .i64 rk] 44)))
  replace H1 := Lib.hid (H1.out.up ((Chg.refl Nowhere w).alloc (.cells #[.int .i64 1, .int .i64 1, .int .i64 fb, .int .i64 fa, .int .i64 tb, .int .i64 ta, .int .i64 ((j : Int) + 1), .int .i64 rk] 44)))
  obtain ⟨b0, b1, b2, b3, b4, b5, b6, b7⟩ := box8 w (.int .i64 1) (.int .i64 1) (.int .i64 fb) (.int .i64 fa) (.int .i64 tb) (.int .i64 ta) (.int .i64 ((j : Int) + 1)) (.int .i64 rk) 44
  have hbx15 : w.heap.size < (w.alloc (.cells #[.int .i64 1, .int .i64 1, .int .i64 fb, .int .i64 fa, .int .i64 tb, .int .i64 ta, .int .i64 ((j : Int) + 1), .int .i64 rk] 44)).heap.size := by simp
  have HS2 := Lib.hid ((fun b hb => by have h1 : w.heap.size + 1 ≤ b := (by simpa [NewIn] using hb); exact ⟨HS.out b (by omega), by omega⟩) : NewIn (fun b => S b ∧ b ≠ w.heap.size) (w.alloc (.cells #[.int .i64 1, .int .i64 1, .int .i64 fb, .int .i64 fa, .int .i64 tb, .int .i64 ta, .int .i64 ((j : Int) + 1), .int .i64 rk] 44)))
  have hlb : w.heap.size < (w.alloc (.cells #[.int .i64 1, .int .i64 1, .int .i64 fb, .int .i64 fa, .int .i64 tb, .int .i64 ta, .int .i64 ((j : Int) + 1), .int .i64 rk] 44)).heap.size := by simp
  go_enter Tryz.func69, Tryz.ntmps69
  go_wp2_with fail
  refine (opCode_0 _ X.out Hi.out _ HX.out H0.out).mono ?_
  rintro e w16 ⟨rfl, g1⟩
  have G1 := Lib.hid g1
  have hz16 := G1.out.size
  clear g1
  replace X := Lib.hid (X.out.up (tt G1.out))
  replace U := Lib.hid (Chg.trans U.out (tt G1.out))
  replace H1 := Lib.hid (H1.out.up (tt G1.out))
  have hh := cc8 (tt G1.out) b0 b1 b2 b3 b4 b5 b6 b7
  clear b0 b1 b2 b3 b4 b5 b6 b7
  obtain ⟨b0, b1, b2, b3, b4, b5, b6, b7⟩ := hh
  clear G1
  go_wp2_with fail
  refine (on_any _ p fb fa g1 _ _ H1.out).mono ?_
  rintro e w28 ⟨rfl, g1⟩
  have G1 := Lib.hid g1
  have hz28 := G1.out.size
  clear g1
  replace X := Lib.hid (X.out.up (tt G1.out))
  replace U := Lib.hid (Chg.trans U.out (tt G1.out))
  replace H1 := Lib.hid (H1.out.up (tt G1.out))
  have hh := cc8 (tt G1.out) b0 b1 b2 b3 b4 b5 b6 b7
  clear b0 b1 b2 b3 b4 b5 b6 b7
  obtain ⟨b0, b1, b2, b3, b4, b5, b6, b7⟩ := hh
  clear G1
  have he1 := H1.out.cell.1
  go_wp2_with fail
  clear he1
  refine (on_any _ p fb fa g1 _ _ H1.out).mono ?_
  rintro e w40 ⟨rfl, g1⟩
  have G1 := Lib.hid g1
  have hz40 := G1.out.size
  clear g1
  replace X := Lib.hid (X.out.up (tt G1.out))
  replace U := Lib.hid (Chg.trans U.out (tt G1.out))
  replace H1 := Lib.hid (H1.out.up (tt G1.out))
  have hh := cc8 (tt G1.out) b0 b1 b2 b3 b4 b5 b6 b7
  clear b0 b1 b2 b3 b4 b5 b6 b7
  obtain ⟨b0, b1, b2, b3, b4, b5, b6, b7⟩ := hh
  clear G1
  have E1 := H1.out.cell.1
  have F1 := H1.out.cell.2
  have hz6 := U.out.size
  have HSn := Lib.hid ((fun b hb => ⟨HS.out b (by omega), by omega⟩) : NewIn (fun b => S b ∧ b ≠ w.heap.size) w40)
  have X6 := Lib.hid (X.out.slot0 HSn.out V1.out)
  have hg1 := HG1.out
  have d0 : (w40.setCell ⟨g1, fa.toNat, none⟩ (.slice none 0 0)).cell? ⟨w.heap.size, 0, none⟩ = _ := keepS b0 (Nat.ne_of_lt hg1)
  clear b0
  have d1 : (w40.setCell ⟨g1, fa.toNat, none⟩ (.slice none 0 0)).cell? ⟨w.heap.size, 1, none⟩ = _ := keepS b1 (Nat.ne_of_lt hg1)
  clear b1
  have d2 : (w40.setCell ⟨g1, fa.toNat, none⟩ (.slice none 0 0)).cell? ⟨w.heap.size, 2, none⟩ = _ := keepS b2 (Nat.ne_of_lt hg1)
  clear b2
  have d3 : (w40.setCell ⟨g1, fa.toNat, none⟩ (.slice none 0 0)).cell? ⟨w.heap.size, 3, none⟩ = _ := keepS b3 (Nat.ne_of_lt hg1)
  clear b3
  have d4 : (w40.setCell ⟨g1, fa.toNat, none⟩ (.slice none 0 0)).cell? ⟨w.heap.size, 4, none⟩ = _ := keepS b4 (Nat.ne_of_lt hg1)
  clear b4
  have d5 : (w40.setCell ⟨g1, fa.toNat, none⟩ (.slice none 0 0)).cell? ⟨w.heap.size, 5, none⟩ = _ := keepS b5 (Nat.ne_of_lt hg1)
  clear b5
  have d6 : (w40.setCell ⟨g1, fa.toNat, none⟩ (.slice none 0 0)).cell? ⟨w.heap.size, 6, none⟩ = _ := keepS b6 (Nat.ne_of_lt hg1)
  clear b6
  have d7 : (w40.setCell ⟨g1, fa.toNat, none⟩ (.slice none 0 0)).cell? ⟨w.heap.size, 7, none⟩ = _ := keepS b7 (Nat.ne_of_lt hg1)
  clear b7
  have hP := Lib.hid (H1.out.own.kept (Chg.setCell (Chg.refl (fun b => b = g1) w40) (.inl rfl) (.slice none 0 0)) (fun x hx e => O1.out.1 (e ▸ hx)) : OwnI (w40.setCell ⟨g1, fa.toNat, none⟩ (.slice none 0 0)) 0 (Value.slice A1 l1.length c1) l1)
  have HS6 := Lib.hid ((fun b hb => ⟨HSn.out b (by simpa using hb), fun e => by have h1 := (hP.out.1.lt _ e).2; omega⟩) : NewIn (fun x => (fun b => S b ∧ b ≠ w.heap.size) x ∧ (Value.slice A1 l1.length c1).ownBlock ≠ some x) (w40.setCell ⟨g1, fa.toNat, none⟩ (.slice none 0 0)))
  have hi6 := Lib.hid (Hi.out.setM_ fb fa (l := []) ⟨by simp, by simp⟩)
  have hs6 := setM_same (m := m) fb fa []
  have hG6 := Lib.hid (Chg.trans (Chg.of_up U.out) (X6.out.2.mono fun b _ hb => hb.1) : Chg S w (w40.setCell ⟨g1, fa.toNat, none⟩ (.slice none 0 0)))
  go_wp2_with fail
  clear E1 F1
  refine (loop_any _ X6.out.1 HS6.out hi6.out 1 1 fb fa tb ta ((j : Int) + 1) rk ⟨hn1.1, hn1.2.1, by rw [hs6.1]; exact hn1.2.2⟩ (by rw [onM_setM Hi.out [] hn1.2]; simp) (by rw [hs6.2.2.2]; omega) (fun b => (Value.slice A1 l1.length c1).ownBlock = some b) _ l1 hP.out.intsOwn (fun b _ e h => h.2 e) (by omega)).mono ?_
  rintro e w9 ⟨rfl, hm9, g9⟩
  obtain ⟨F9, B9, C9, L9, D9, fs9, bs9, x9⟩ := hm9
  have X9a := Lib.hid x9
  have G0 := Lib.hid (Chg.trans hG6.out (g9.mono fun b _ hb => hb.1.1) : Chg S w w9)
  replace d0 := g9.cell d0 (fun h => h.1.2 rfl)
  replace d1 := g9.cell d1 (fun h => h.1.2 rfl)
  replace d2 := g9.cell d2 (fun h => h.1.2 rfl)
  replace d3 := g9.cell d3 (fun h => h.1.2 rfl)
  replace d4 := g9.cell d4 (fun h => h.1.2 rfl)
  replace d5 := g9.cell d5 (fun h => h.1.2 rfl)
  replace d6 := g9.cell d6 (fun h => h.1.2 rfl)
  replace d7 := g9.cell d7 (fun h => h.1.2 rfl)
  clear x9 g9
  have hi9 : MInv (loopM (setM m fb fa []) ⟨1, 1, fb, fa, tb, ta, ((j : Int) + 1), rk⟩) := hi6.out.loop (by dsimp only; rw [onM_setM Hi.out [] hn1.2]; simp) (by rw [hs6.2.2.2]; omega)
  have Hi9 := Lib.hid hi9
  clear hi9
  obtain ⟨gC, jc, cC, hK, hCe⟩ := X9a.out.car Hi9.out (car := ((j : Int) + 1)) (by omega)
  obtain rfl : j = jc := by have := hK.ec; omega
  have hKj := hK.jl
  have hp1 := X9a.out.c1.1
  have HK := Lib.hid hK
  have hkh := hK.hdr.1
  have hkb := hK.b
  clear hK
  have hrk1 : -3 ≤ (loopM (setM m fb fa []) ⟨1, 1, fb, fa, tb, ta, ((j : Int) + 1), rk⟩).rack ∧ (loopM (setM m fb fa []) ⟨1, 1, fb, fa, tb, ta, ((j : Int) + 1), rk⟩).rack ≤ 3 := Hi9.out.rack
  have hpl := placeM_bd (b := fb) (a := fa) (r := (loopM (setM m fb fa []) ⟨1, 1, fb, fa, tb, ta, ((j : Int) + 1), rk⟩).rack) (by omega) hrk1
  go_wp2_with fail
  refine (makesLoop_b _ 1 true (by decide)).mono ?_
  rintro e w' ⟨rfl, rfl⟩
  go_wp2
  refine wp_region_l 157 (Nowhere) 21 [kon (.pointer (some ⟨p, 0, none⟩)), kon (.pointer (some ⟨p, 0, none⟩)), kon (.pointer (some ⟨p, 4, none⟩)), kon (.slice (some ⟨gC, 0, none⟩) 4 cC), kon (.pointer (some ⟨w.heap.size, 6, none⟩)), kon (.int .i64 ((j : Int) + 1)), kon (.int .i64 (j : Int)), kon (.pointer (some ⟨w.heap.size, 2, none⟩)), kon (.agg #[.int .i64 fb, .int .i64 fa]), kon (.pointer (some ⟨p, 0, none⟩)), kon (.pointer (some ⟨p, 0, none⟩)), kon (.pointer (some ⟨p, 1, none⟩)), kon (.int .i64 (loopM (setM m fb fa []) ⟨1, 1, fb, fa, tb, ta, ((j : Int) + 1), rk⟩).rack), kon (.int .i64 (placeM fb fa (loopM (setM m fb fa []) ⟨1, 1, fb, fa, tb, ta, ((j : Int) + 1), rk⟩).rack)), kon (.pointer (some ⟨w.heap.size, 1, none⟩)), kon (.int .i64 1), kon (.int .i64 2), kon (.int .i64 1), kon (.int .i64 (placeM fb fa (loopM (setM m fb fa []) ⟨1, 1, fb, fa, tb, ta, ((j : Int) + 1), rk⟩).rack + 1)), kon (.pointer (some ⟨gC, j * 2, none⟩)), kon (.pointer (some ⟨gC, j * 2 + 1, none⟩))] [(0, 136, []), (1, 137, [0]), (2, 138, [1]), (3, 139, [2]), (4, 140, []), (5, 141, [4]), (6, 142, [5]), (7, 143, []), (8, 144, [7]), (9, 145, []), (10, 146, [9]), (11, 147, [10]), (12, 148, [11]), (13, 149, [8, 12]), (14, 150, []), (15, 151, [14]), (16, 152, [15]), (17, 153, [16]), (18, 154, [13, 17]), (19, 155, [3, 6, 0, 1, 2, 3, 4, 5, 6, 7, 8, 9, 10, 11, 12, 13, 14, 15, 16, 17, 18]), (20, 156, [19, 0, 1, 2, 3, 4, 5, 6, 7, 8, 9, 10, 11, 12, 13, 14, 15, 16, 17, 18])] (by kernel_rfl) (by kernel_rfl) (by kernel_rfl) rfl ?_ ?_ ?_
  · exact ⟨(keeps_kon _), ⟨(keeps_kon _), ⟨(keeps_kon _), ⟨(keeps_kon _), ⟨(keeps_kon _), ⟨(keeps_kon _), ⟨(keeps_kon _), ⟨(keeps_kon _), ⟨(keeps_kon _), ⟨(keeps_kon _), ⟨(keeps_kon _), ⟨(keeps_kon _), ⟨(keeps_kon _), ⟨(keeps_kon _), ⟨(keeps_kon _), ⟨(keeps_kon _), ⟨(keeps_kon _), ⟨(keeps_kon _), ⟨(keeps_kon _), ⟨(keeps_kon _), ⟨(keeps_kon _), trivial⟩⟩⟩⟩⟩⟩⟩⟩⟩⟩⟩⟩⟩⟩⟩⟩⟩⟩⟩⟩⟩
  · exact allBut_none 0 ⟨(keeps_kon _), ⟨(keeps_kon _), ⟨(keeps_kon _), ⟨(keeps_kon _), ⟨(keeps_kon _), ⟨(keeps_kon _), ⟨(keeps_kon _), ⟨(keeps_kon _), ⟨(keeps_kon _), ⟨(keeps_kon _), ⟨(keeps_kon _), ⟨(keeps_kon _), ⟨(keeps_kon _), ⟨(keeps_kon _), ⟨(keeps_kon _), ⟨(keeps_kon _), ⟨(keeps_kon _), ⟨(keeps_kon _), ⟨(keeps_kon _), ⟨(keeps_kon _), ⟨(keeps_kon _), trivial⟩⟩⟩⟩⟩⟩⟩⟩⟩⟩⟩⟩⟩⟩⟩⟩⟩⟩⟩⟩⟩
  refine ⟨fun w1 hc _ hn => ?_, fun v0 => ?_⟩
  · refine grow_same (v := .pointer (some ⟨p, 0, none⟩)) ?_ ?_
    exact x_move (.tmp 0) rfl rfl
    rfl
  refine ⟨fun w1 hc _ hn => ?_, fun v1 => ?_⟩
  · obtain rfl : (.pointer (some ⟨p, 0, none⟩) : Value) = v0 := Eq.symm hn.1
    refine grow_same (v := .pointer (some ⟨p, 0, none⟩)) ?_ ?_
    exact x_nil (p := ⟨p, 0, none⟩) (.tmp 136) rfl rfl
    rfl
  refine ⟨fun w1 hc _ hn => ?_, fun v2 => ?_⟩
  · obtain rfl : (.pointer (some ⟨p, 0, none⟩) : Value) = v1 := Eq.symm hn.1
    refine grow_same (v := .pointer (some ⟨p, 4, none⟩)) ?_ ?_
    exact x_field (q := .pointer (some ⟨p, 0, none⟩)) 60 (.tmp 137) 4 (by rfl) (by rfl) (by exact fa_m4 _ _)
    rfl
  refine ⟨fun w1 hc _ hn => ?_, fun v3 => ?_⟩
  · obtain rfl : (.pointer (some ⟨p, 4, none⟩) : Value) = v2 := Eq.symm hn.1
    refine grow_same (v := .slice (some ⟨gC, 0, none⟩) 4 cC) ?_ ?_
    exact x_load (q := .pointer (some ⟨p, 4, none⟩)) 57 (.tmp 138) (by rfl) (by rfl) (by exact ld_cars _ _ _ (hc.cell hkh id))
    rfl
  refine ⟨fun w1 hc _ hn => ?_, fun v4 => ?_⟩
  · refine grow_same (v := .pointer (some ⟨w.heap.size, 6, none⟩)) ?_ ?_
    exact x_field (q := .pointer (some ⟨w.heap.size, 0, none⟩)) 44 (.tmp 3) 4 (by rfl) (by rfl) (by exact fa_o4 _ _ _)
    rfl
  refine ⟨fun w1 hc _ hn => ?_, fun v5 => ?_⟩
  · obtain rfl : (.pointer (some ⟨w.heap.size, 6, none⟩) : Value) = v4 := Eq.symm hn.1
    refine grow_same (v := .int .i64 ((j : Int) + 1)) ?_ ?_
    exact x_load (q := .pointer (some ⟨w.heap.size, 6, none⟩)) 2 (.tmp 140) (by rfl) (by rfl) (by exact ld_int _ _ _ (hc.cell d6 id))
    rfl
  refine ⟨fun w1 hc _ hn => ?_, fun v6 => ?_⟩
  · obtain rfl : (.int .i64 ((j : Int) + 1) : Value) = v5 := Eq.symm hn.1
    exact grow_same (v := .int .i64 (j : Int)) (x_subc (.tmp 141) (.const (.int .i64 1)) (by rfl) (a := ((j : Int) + 1)) (b := 1) (by rfl) (by rfl) (by omega) (by omega)) rfl
  refine ⟨fun w1 hc _ hn => ?_, fun v7 => ?_⟩
  · refine grow_same (v := .pointer (some ⟨w.heap.size, 2, none⟩)) ?_ ?_
    exact x_field (q := .pointer (some ⟨w.heap.size, 0, none⟩)) 44 (.tmp 3) 2 (by rfl) (by rfl) (by exact fa_o2 _ _ _)
    rfl
  refine ⟨fun w1 hc _ hn => ?_, fun v8 => ?_⟩
  · obtain rfl : (.pointer (some ⟨w.heap.size, 2, none⟩) : Value) = v7 := Eq.symm hn.1
    refine grow_same (v := .agg #[.int .i64 fb, .int .i64 fa]) ?_ ?_
    exact x_load (q := .pointer (some ⟨w.heap.size, 2, none⟩)) 42 (.tmp 143) (by rfl) (by rfl) (by exact ld_needle _ _ _ _ _ (hc.cell d2 id) (hc.cell d3 id))
    rfl
  refine ⟨fun w1 hc _ hn => ?_, fun v9 => ?_⟩
  · refine grow_same (v := .pointer (some ⟨p, 0, none⟩)) ?_ ?_
    exact x_move (.tmp 0) rfl rfl
    rfl
  refine ⟨fun w1 hc _ hn => ?_, fun v10 => ?_⟩
  · obtain rfl : (.pointer (some ⟨p, 0, none⟩) : Value) = v9 := Eq.symm hn.1
    refine grow_same (v := .pointer (some ⟨p, 0, none⟩)) ?_ ?_
    exact x_nil (p := ⟨p, 0, none⟩) (.tmp 145) rfl rfl
    rfl
  refine ⟨fun w1 hc _ hn => ?_, fun v11 => ?_⟩
  · obtain rfl : (.pointer (some ⟨p, 0, none⟩) : Value) = v10 := Eq.symm hn.1
    refine grow_same (v := .pointer (some ⟨p, 1, none⟩)) ?_ ?_
    exact x_field (q := .pointer (some ⟨p, 0, none⟩)) 60 (.tmp 146) 1 (by rfl) (by rfl) (by exact fa_m1 _ _)
    rfl
  refine ⟨fun w1 hc _ hn => ?_, fun v12 => ?_⟩
  · obtain rfl : (.pointer (some ⟨p, 1, none⟩) : Value) = v11 := Eq.symm hn.1
    refine grow_same (v := .int .i64 (loopM (setM m fb fa []) ⟨1, 1, fb, fa, tb, ta, ((j : Int) + 1), rk⟩).rack) ?_ ?_
    exact x_load (q := .pointer (some ⟨p, 1, none⟩)) 2 (.tmp 147) (by rfl) (by rfl) (by exact ld_int _ _ _ (hc.cell hp1 id))
    rfl
  refine ⟨fun w1 hc _ hn => ?_, fun v13 => ?_⟩
  · obtain rfl : (.agg #[.int .i64 fb, .int .i64 fa] : Value) = v8 := Eq.symm hn.1
    obtain rfl : (.int .i64 (loopM (setM m fb fa []) ⟨1, 1, fb, fa, tb, ta, ((j : Int) + 1), rk⟩).rack : Value) = v12 := Eq.symm hn.2.1
    refine grow_call (f := 85) (args := #[.agg #[.int .i64 fb, .int .i64 fa], .int .i64 (loopM (setM m fb fa []) ⟨1, 1, fb, fa, tb, ta, ((j : Int) + 1), rk⟩).rack]) (x_call #[.tmp 144, .tmp 148] #[42, 2] Tryz.func85 (by rfl) (by rfl) (by rfl) (by rfl) (by simp only [List.map_toArray, List.map_cons, List.map_nil]; rfl)) ?_
    refine (place_any w1 fb fa _ (by omega) (by omega)).mono ?_
    rintro e w' ⟨rfl, g1⟩
    exact ⟨_, rfl, rg_up g1, rfl⟩
  refine ⟨fun w1 hc _ hn => ?_, fun v14 => ?_⟩
  · refine grow_same (v := .pointer (some ⟨w.heap.size, 1, none⟩)) ?_ ?_
    exact x_field (q := .pointer (some ⟨w.heap.size, 0, none⟩)) 44 (.tmp 3) 1 (by rfl) (by rfl) (by exact fa_o1 _ _ _)
    rfl
  refine ⟨fun w1 hc _ hn => ?_, fun v15 => ?_⟩
  · obtain rfl : (.pointer (some ⟨w.heap.size, 1, none⟩) : Value) = v14 := Eq.symm hn.1
    refine grow_same (v := .int .i64 1) ?_ ?_
    exact x_load (q := .pointer (some ⟨w.heap.size, 1, none⟩)) 2 (.tmp 150) (by rfl) (by rfl) (by exact ld_int _ _ _ (hc.cell d1 id))
    rfl
  refine ⟨fun w1 hc _ hn => ?_, fun v16 => ?_⟩
  · obtain rfl : (.int .i64 1 : Value) = v15 := Eq.symm hn.1
    exact grow_same (v := .int .i64 2) (x_add (.tmp 151) (.const (.int .i64 1)) (by rfl) (a := 1) (b := 1) (by rfl) (by rfl) (by omega)) rfl
  refine ⟨fun w1 hc _ hn => ?_, fun v17 => ?_⟩
  · obtain rfl : (.int .i64 2 : Value) = v16 := Eq.symm hn.1
    exact grow_same (v := .int .i64 1) (x_quo (.tmp 152) (.const (.int .i64 2)) (by rfl) (a := 2) (b := 2) (by rfl) (by rfl) (by decide) (by decide)) rfl
  refine ⟨fun w1 hc _ hn => ?_, fun v18 => ?_⟩
  · obtain rfl : (.int .i64 (placeM fb fa (loopM (setM m fb fa []) ⟨1, 1, fb, fa, tb, ta, ((j : Int) + 1), rk⟩).rack) : Value) = v13 := Eq.symm hn.1
    obtain rfl : (.int .i64 1 : Value) = v17 := Eq.symm hn.2.1
    refine grow_same (v := .int .i64 (placeM fb fa (loopM (setM m fb fa []) ⟨1, 1, fb, fa, tb, ta, ((j : Int) + 1), rk⟩).rack + 1)) ?_ ?_
    exact x_add (.tmp 149) (.tmp 153) (by rfl) (a := placeM fb fa (loopM (setM m fb fa []) ⟨1, 1, fb, fa, tb, ta, ((j : Int) + 1), rk⟩).rack) (b := 1) (by rfl) (by rfl) (by omega)
    rfl
  refine ⟨fun w1 hc _ hn => ?_, fun v19 => ?_⟩
  · obtain rfl : (.slice (some ⟨gC, 0, none⟩) 4 cC : Value) = v3 := Eq.symm hn.1
    obtain rfl : (.int .i64 (j : Int) : Value) = v6 := Eq.symm hn.2.1
    refine grow_same (v := .pointer (some ⟨gC, j * 2, none⟩)) ?_ ?_
    exact x_ixa 57 (.tmp 139) (.tmp 142) (by rfl) (u1 := .slice (some ⟨gC, 0, none⟩) 4 cC) (u2 := .int .i64 (j : Int)) (by rfl) (by rfl) (by exact ixa_car _ _ _ _ hKj _)
    rfl
  refine ⟨fun w1 hc _ hn => ?_, fun v20 => ?_⟩
  · obtain rfl : (.pointer (some ⟨gC, j * 2, none⟩) : Value) = v19 := Eq.symm hn.1
    refine grow_same (v := .pointer (some ⟨gC, j * 2 + 1, none⟩)) ?_ ?_
    exact x_field (q := .pointer (some ⟨gC, j * 2, none⟩)) 96 (.tmp 155) 1 (by rfl) (by rfl) (by exact fa_c1 _ _ _)
    rfl
  intro wb kb hn8
  obtain ⟨rfl, rfl, rfl, rfl, rfl, rfl, rfl, rfl, rfl, rfl, rfl, rfl, rfl, rfl, rfl, rfl, rfl, rfl, rfl, rfl, rfl, -⟩ := hn8
  have E9 := kb.cell hkb.1 id
  have F9 := (kb.frozen hkb.1 id).trans hkb.2
  have X9 := Lib.hid ((X9a.out.up kb).ride Hi9.out (car := ((j : Int) + 1)) rfl hKj hCe (placeM fb fa (loopM (setM m fb fa []) ⟨1, 1, fb, fa, tb, ta, ((j : Int) + 1), rk⟩).rack + 1))
  have G9 := Lib.hid ((X9a.out.up kb).ride_chg hCe (j * 2 + 1) (.int .i64 (placeM fb fa (loopM (setM m fb fa []) ⟨1, 1, fb, fa, tb, ta, ((j : Int) + 1), rk⟩).rack + 1)))
  clear HK hkb hkh hp1 d0 d1 d2 d3 d4 d5 d6 d7
  simp only [List.length_cons, List.length_nil, List.drop_succ_cons, List.drop_zero, Nat.zero_add]
  go_wp2
  go_ret
  refine ⟨rfl, ?_, Chg.trans G0.out (Chg.trans (Chg.of_up kb) (G9.out.mono fun b _ hb => hb.1.1))⟩
  have := (X9.out.mono (T := S) (fun b _ hb => hb.1.1)).mach
  exact this
theorem execute_tuckR (w : World) {S : Nat → Prop} {K p : Nat} {m : MachM} {F B C L D : Value} {fs bs : List Value} (h : MachX w S K p m F B C L D fs bs) (hS : NewIn S w) (hi : MInv m) (fb fa tb ta rk : Int) (j : Nat) (hx : okOp m.wd ⟨2, 1, fb, fa, tb, ta, ((j : Int) + 1), rk⟩) (h0 : codeM m ⟨2, 1, fb, fa, tb, ta, ((j : Int) + 1), rk⟩ = 0) :
    Calls Tryz.prog 69 #[.pointer (some ⟨p, 0, none⟩), .agg #[.int .i64 2, .int .i64 1, .int .i64 fb, .int .i64 fa, .int .i64 tb, .int .i64 ta, .int .i64 ((j : Int) + 1), .int .i64 rk]] w fun e w' => e = .returned (.int .i64 0) ∧ Mach w' S K p (execM m ⟨2, 1, fb, fa, tb, ta, ((j : Int) + 1), rk⟩) ∧ Chg S w w' := by
  obtain ⟨hx1, hx2, hx3⟩ := hx
  have hv := valid_cases hx1
  dsimp only at hx2 hx3 hv
  have hwd := hi.wd
  have hrk := hi.rack
  have cz := code_zero h0
  dsimp only at cz
  have HX := Lib.hid (show okOp m.wd ⟨2, 1, fb, fa, tb, ta, ((j : Int) + 1), rk⟩ from ⟨hx1, hx2, hx3⟩)
  clear hx1
  have H0 := Lib.hid h0
  clear h0
  have Hi := Lib.hid hi
  have HS := Lib.hid hS
  have HX2 := Lib.hid (h.mono (T := (fun b => S b ∧ b ≠ w.heap.size)) (fun b hb hs => ⟨hs, Nat.ne_of_lt hb⟩))
  have hn1 : okN m fb fa := ⟨by omega, by omega, by omega⟩
  have hnl := cz.2.1 (by decide)
  have hnl2 := hi.nl
  have hl4 := cz.2.2.1 rfl
  have hl5 := (hi.on_ fb fa).1
  have X := Lib.hid (HX2.out)
  have U := Lib.hid ((Chg.refl Nowhere w))
  clear h hi hS HX2
  replace X := Lib.hid (X.out.up ((Chg.refl Nowhere w).alloc (.cells #[.int .i64 2, .int .i64 1, .int .i64 fb, .int .i64 fa, .int .i64 tb, .int .i64 ta, .int .i64 ((j : Int) + 1), .int .i64 rk] 44)))
  replace U := Lib.hid (Chg.trans U.out ((Chg.refl Nowhere w).alloc (.cells #[.int .i64 2, .int .i64 1, .int .i64 fb, .int .i64 fa, .int .i64 tb, .int .i64 ta, .int .i64 ((j : Int) + 1), .int .i64 rk] 44)))
  obtain ⟨b0, b1, b2, b3, b4, b5, b6, b7⟩ := box8 w (.int .i64 2) (.int .i64 1) (.int .i64 fb) (.int .i64 fa) (.int .i64 tb) (.int .i64 ta) (.int .i64 ((j : Int) + 1)) (.int .i64 rk) 44
  have hbx13 : w.heap.size < (w.alloc (.cells #[.int .i64 2, .int .i64 1, .int .i64 fb, .int .i64 fa, .int .i64 tb, .int .i64 ta, .int .i64 ((j : Int) + 1), .int .i64 rk] 44)).heap.size := by simp
  have HS2 := Lib.hid ((fun b hb => by have h1 : w.heap.size + 1 ≤ b := (by simpa [NewIn] using hb); exact ⟨HS.out b (by omega), by omega⟩) : NewIn (fun b => S b ∧ b ≠ w.heap.size) (w.alloc (.cells #[.int .i64 2, .int .i64 1, .int .i64 fb, .int .i64 fa, .int .i64 tb, .int .i64 ta, .int .i64 ((j : Int) + 1), .int .i64 rk] 44)))
  have hlb : w.heap.size < (w.alloc (.cells #[.int .i64 2, .int .i64 1, .int .i64 fb, .int .i64 fa, .int .i64 tb, .int .i64 ta, .int .i64 ((j : Int) + 1), .int .i64 rk] 44)).heap.size := by simp
  go_enter Tryz.func69, Tryz.ntmps69
  go_wp2_with fail
  refine (opCode_0 _ X.out Hi.out _ HX.out H0.out).mono ?_
  rintro e w14 ⟨rfl, g1⟩
  have G1 := Lib.hid g1
  have hz14 := G1.out.size
  clear g1
  replace X := Lib.hid (X.out.up (tt G1.out))
  replace U := Lib.hid (Chg.trans U.out (tt G1.out))
  have hh := cc8 (tt G1.out) b0 b1 b2 b3 b4 b5 b6 b7
  clear b0 b1 b2 b3 b4 b5 b6 b7
  obtain ⟨b0, b1, b2, b3, b4, b5, b6, b7⟩ := hh
  clear G1
  have hz6 := U.out.size
  have HSn := Lib.hid ((fun b hb => ⟨HS.out b (by omega), by omega⟩) : NewIn (fun b => S b ∧ b ≠ w.heap.size) w14)
  go_wp2_with fail
  refine (loop_any _ X.out HSn.out Hi.out 2 1 fb fa tb ta ((j : Int) + 1) rk hn1 (by omega) (by omega) (fun _ => False) _ [] (Ints.nil _ _ 0 none (by omega)) (fun b _ e _ => e) (by simp)).mono ?_
  rintro e w9 ⟨rfl, hm9, g9⟩
  obtain ⟨F9, B9, C9, L9, D9, fs9, bs9, x9⟩ := hm9
  have X9a := Lib.hid x9
  have G0 := Lib.hid (Chg.trans (Chg.of_up U.out) (g9.mono fun b _ hb => hb.1) : Chg S w w9)
  have d0 := g9.cell b0 (fun h => h.2 rfl)
  clear b0
  have d1 := g9.cell b1 (fun h => h.2 rfl)
  clear b1
  have d2 := g9.cell b2 (fun h => h.2 rfl)
  clear b2
  have d3 := g9.cell b3 (fun h => h.2 rfl)
  clear b3
  have d4 := g9.cell b4 (fun h => h.2 rfl)
  clear b4
  have d5 := g9.cell b5 (fun h => h.2 rfl)
  clear b5
  have d6 := g9.cell b6 (fun h => h.2 rfl)
  clear b6
  have d7 := g9.cell b7 (fun h => h.2 rfl)
  clear b7
  clear x9 g9
  have Hi9 := Lib.hid (Hi.out.loop (o := ⟨2, 1, fb, fa, tb, ta, ((j : Int) + 1), rk⟩) (by dsimp only; omega) (by omega) : MInv (loopM m ⟨2, 1, fb, fa, tb, ta, ((j : Int) + 1), rk⟩))
  obtain ⟨gC, jc, cC, hK, hCe⟩ := X9a.out.car Hi9.out (car := ((j : Int) + 1)) (by omega)
  obtain rfl : j = jc := by have := hK.ec; omega
  have hKj := hK.jl
  have hp1 := X9a.out.c1.1
  have HK := Lib.hid hK
  have hkh := hK.hdr.1
  have hkb := hK.b
  clear hK
  have hrk1 : -3 ≤ (loopM m ⟨2, 1, fb, fa, tb, ta, ((j : Int) + 1), rk⟩).rack ∧ (loopM m ⟨2, 1, fb, fa, tb, ta, ((j : Int) + 1), rk⟩).rack ≤ 3 := Hi9.out.rack
  have hpl := placeM_bd (b := fb) (a := fa) (r := (loopM m ⟨2, 1, fb, fa, tb, ta, ((j : Int) + 1), rk⟩).rack) (by omega) hrk1
  go_wp2_with fail
  refine (makesLoop_b _ 2 true (by decide)).mono ?_
  rintro e w' ⟨rfl, rfl⟩
  go_wp2
  refine wp_region_l 157 (Nowhere) 21 [kon (.pointer (some ⟨p, 0, none⟩)), kon (.pointer (some ⟨p, 0, none⟩)), kon (.pointer (some ⟨p, 4, none⟩)), kon (.slice (some ⟨gC, 0, none⟩) 4 cC), kon (.pointer (some ⟨w.heap.size, 6, none⟩)), kon (.int .i64 ((j : Int) + 1)), kon (.int .i64 (j : Int)), kon (.pointer (some ⟨w.heap.size, 2, none⟩)), kon (.agg #[.int .i64 fb, .int .i64 fa]), kon (.pointer (some ⟨p, 0, none⟩)), kon (.pointer (some ⟨p, 0, none⟩)), kon (.pointer (some ⟨p, 1, none⟩)), kon (.int .i64 (loopM m ⟨2, 1, fb, fa, tb, ta, ((j : Int) + 1), rk⟩).rack), kon (.int .i64 (placeM fb fa (loopM m ⟨2, 1, fb, fa, tb, ta, ((j : Int) + 1), rk⟩).rack)), kon (.pointer (some ⟨w.heap.size, 1, none⟩)), kon (.int .i64 1), kon (.int .i64 2), kon (.int .i64 1), kon (.int .i64 (placeM fb fa (loopM m ⟨2, 1, fb, fa, tb, ta, ((j : Int) + 1), rk⟩).rack + 1)), kon (.pointer (some ⟨gC, j * 2, none⟩)), kon (.pointer (some ⟨gC, j * 2 + 1, none⟩))] [(0, 136, []), (1, 137, [0]), (2, 138, [1]), (3, 139, [2]), (4, 140, []), (5, 141, [4]), (6, 142, [5]), (7, 143, []), (8, 144, [7]), (9, 145, []), (10, 146, [9]), (11, 147, [10]), (12, 148, [11]), (13, 149, [8, 12]), (14, 150, []), (15, 151, [14]), (16, 152, [15]), (17, 153, [16]), (18, 154, [13, 17]), (19, 155, [3, 6, 0, 1, 2, 3, 4, 5, 6, 7, 8, 9, 10, 11, 12, 13, 14, 15, 16, 17, 18]), (20, 156, [19, 0, 1, 2, 3, 4, 5, 6, 7, 8, 9, 10, 11, 12, 13, 14, 15, 16, 17, 18])] (by kernel_rfl) (by kernel_rfl) (by kernel_rfl) rfl ?_ ?_ ?_
  · exact ⟨(keeps_kon _), ⟨(keeps_kon _), ⟨(keeps_kon _), ⟨(keeps_kon _), ⟨(keeps_kon _), ⟨(keeps_kon _), ⟨(keeps_kon _), ⟨(keeps_kon _), ⟨(keeps_kon _), ⟨(keeps_kon _), ⟨(keeps_kon _), ⟨(keeps_kon _), ⟨(keeps_kon _), ⟨(keeps_kon _), ⟨(keeps_kon _), ⟨(keeps_kon _), ⟨(keeps_kon _), ⟨(keeps_kon _), ⟨(keeps_kon _), ⟨(keeps_kon _), ⟨(keeps_kon _), trivial⟩⟩⟩⟩⟩⟩⟩⟩⟩⟩⟩⟩⟩⟩⟩⟩⟩⟩⟩⟩⟩
  · exact allBut_none 0 ⟨(keeps_kon _), ⟨(keeps_kon _), ⟨(keeps_kon _), ⟨(keeps_kon _), ⟨(keeps_kon _), ⟨(keeps_kon _), ⟨(keeps_kon _), ⟨(keeps_kon _), ⟨(keeps_kon _), ⟨(keeps_kon _), ⟨(keeps_kon _), ⟨(keeps_kon _), ⟨(keeps_kon _), ⟨(keeps_kon _), ⟨(keeps_kon _), ⟨(keeps_kon _), ⟨(keeps_kon _), ⟨(keeps_kon _), ⟨(keeps_kon _), ⟨(keeps_kon _), ⟨(keeps_kon _), trivial⟩⟩⟩⟩⟩⟩⟩⟩⟩⟩⟩⟩⟩⟩⟩⟩⟩⟩⟩⟩⟩
  refine ⟨fun w1 hc _ hn => ?_, fun v0 => ?_⟩
  · refine grow_same (v := .pointer (some ⟨p, 0, none⟩)) ?_ ?_
    exact x_move (.tmp 0) rfl rfl
    rfl
  refine ⟨fun w1 hc _ hn => ?_, fun v1 => ?_⟩
  · obtain rfl : (.pointer (some ⟨p, 0, none⟩) : Value) = v0 := Eq.symm hn.1
    refine grow_same (v := .pointer (some ⟨p, 0, none⟩)) ?_ ?_
    exact x_nil (p := ⟨p, 0, none⟩) (.tmp 136) rfl rfl
    rfl
  refine ⟨fun w1 hc _ hn => ?_, fun v2 => ?_⟩
  · obtain rfl : (.pointer (some ⟨p, 0, none⟩) : Value) = v1 := Eq.symm hn.1
    refine grow_same (v := .pointer (some ⟨p, 4, none⟩)) ?_ ?_
    exact x_field (q := .pointer (some ⟨p, 0, none⟩)) 60 (.tmp 137) 4 (by rfl) (by rfl) (by exact fa_m4 _ _)
    rfl
  refine ⟨fun w1 hc _ hn => ?_, fun v3 => ?_⟩
  · obtain rfl : (.pointer (some ⟨p, 4, none⟩) : Value) = v2 := Eq.symm hn.1
    refine grow_same (v := .slice (some ⟨gC, 0, none⟩) 4 cC) ?_ ?_
    exact x_load (q := .pointer (some ⟨p, 4, none⟩)) 57 (.tmp 138) (by rfl) (by rfl) (by exact ld_cars _ _ _ (hc.cell hkh id))
    rfl
  refine ⟨fun w1 hc _ hn => ?_, fun v4 => ?_⟩
  · refine grow_same (v := .pointer (some ⟨w.heap.size, 6, none⟩)) ?_ ?_
    exact x_field (q := .pointer (some ⟨w.heap.size, 0, none⟩)) 44 (.tmp 3) 4 (by rfl) (by rfl) (by exact fa_o4 _ _ _)
    rfl
  refine ⟨fun w1 hc _ hn => ?_, fun v5 => ?_⟩
  · obtain rfl : (.pointer (some ⟨w.heap.size, 6, none⟩) : Value) = v4 := Eq.symm hn.1
    refine grow_same (v := .int .i64 ((j : Int) + 1)) ?_ ?_
    exact x_load (q := .pointer (some ⟨w.heap.size, 6, none⟩)) 2 (.tmp 140) (by rfl) (by rfl) (by exact ld_int _ _ _ (hc.cell d6 id))
    rfl
  refine ⟨fun w1 hc _ hn => ?_, fun v6 => ?_⟩
  · obtain rfl : (.int .i64 ((j : Int) + 1) : Value) = v5 := Eq.symm hn.1
    exact grow_same (v := .int .i64 (j : Int)) (x_subc (.tmp 141) (.const (.int .i64 1)) (by rfl) (a := ((j : Int) + 1)) (b := 1) (by rfl) (by rfl) (by omega) (by omega)) rfl
  refine ⟨fun w1 hc _ hn => ?_, fun v7 => ?_⟩
  · refine grow_same (v := .pointer (some ⟨w.heap.size, 2, none⟩)) ?_ ?_
    exact x_field (q := .pointer (some ⟨w.heap.size, 0, none⟩)) 44 (.tmp 3) 2 (by rfl) (by rfl) (by exact fa_o2 _ _ _)
    rfl
  refine ⟨fun w1 hc _ hn => ?_, fun v8 => ?_⟩
  · obtain rfl : (.pointer (some ⟨w.heap.size, 2, none⟩) : Value) = v7 := Eq.symm hn.1
    refine grow_same (v := .agg #[.int .i64 fb, .int .i64 fa]) ?_ ?_
    exact x_load (q := .pointer (some ⟨w.heap.size, 2, none⟩)) 42 (.tmp 143) (by rfl) (by rfl) (by exact ld_needle _ _ _ _ _ (hc.cell d2 id) (hc.cell d3 id))
    rfl
  refine ⟨fun w1 hc _ hn => ?_, fun v9 => ?_⟩
  · refine grow_same (v := .pointer (some ⟨p, 0, none⟩)) ?_ ?_
    exact x_move (.tmp 0) rfl rfl
    rfl
  refine ⟨fun w1 hc _ hn => ?_, fun v10 => ?_⟩
  · obtain rfl : (.pointer (some ⟨p, 0, none⟩) : Value) = v9 := Eq.symm hn.1
    refine grow_same (v := .pointer (some ⟨p, 0, none⟩)) ?_ ?_
    exact x_nil (p := ⟨p, 0, none⟩) (.tmp 145) rfl rfl
    rfl
  refine ⟨fun w1 hc _ hn => ?_, fun v11 => ?_⟩
  · obtain rfl : (.pointer (some ⟨p, 0, none⟩) : Value) = v10 := Eq.symm hn.1
    refine grow_same (v := .pointer (some ⟨p, 1, none⟩)) ?_ ?_
    exact x_field (q := .pointer (some ⟨p, 0, none⟩)) 60 (.tmp 146) 1 (by rfl) (by rfl) (by exact fa_m1 _ _)
    rfl
  refine ⟨fun w1 hc _ hn => ?_, fun v12 => ?_⟩
  · obtain rfl : (.pointer (some ⟨p, 1, none⟩) : Value) = v11 := Eq.symm hn.1
    refine grow_same (v := .int .i64 (loopM m ⟨2, 1, fb, fa, tb, ta, ((j : Int) + 1), rk⟩).rack) ?_ ?_
    exact x_load (q := .pointer (some ⟨p, 1, none⟩)) 2 (.tmp 147) (by rfl) (by rfl) (by exact ld_int _ _ _ (hc.cell hp1 id))
    rfl
  refine ⟨fun w1 hc _ hn => ?_, fun v13 => ?_⟩
  · obtain rfl : (.agg #[.int .i64 fb, .int .i64 fa] : Value) = v8 := Eq.symm hn.1
    obtain rfl : (.int .i64 (loopM m ⟨2, 1, fb, fa, tb, ta, ((j : Int) + 1), rk⟩).rack : Value) = v12 := Eq.symm hn.2.1
    refine grow_call (f := 85) (args := #[.agg #[.int .i64 fb, .int .i64 fa], .int .i64 (loopM m ⟨2, 1, fb, fa, tb, ta, ((j : Int) + 1), rk⟩).rack]) (x_call #[.tmp 144, .tmp 148] #[42, 2] Tryz.func85 (by rfl) (by rfl) (by rfl) (by rfl) (by simp only [List.map_toArray, List.map_cons, List.map_nil]; rfl)) ?_
    refine (place_any w1 fb fa _ (by omega) (by omega)).mono ?_
    rintro e w' ⟨rfl, g1⟩
    exact ⟨_, rfl, rg_up g1, rfl⟩
  refine ⟨fun w1 hc _ hn => ?_, fun v14 => ?_⟩
  · refine grow_same (v := .pointer (some ⟨w.heap.size, 1, none⟩)) ?_ ?_
    exact x_field (q := .pointer (some ⟨w.heap.size, 0, none⟩)) 44 (.tmp 3) 1 (by rfl) (by rfl) (by exact fa_o1 _ _ _)
    rfl
  refine ⟨fun w1 hc _ hn => ?_, fun v15 => ?_⟩
  · obtain rfl : (.pointer (some ⟨w.heap.size, 1, none⟩) : Value) = v14 := Eq.symm hn.1
    refine grow_same (v := .int .i64 1) ?_ ?_
    exact x_load (q := .pointer (some ⟨w.heap.size, 1, none⟩)) 2 (.tmp 150) (by rfl) (by rfl) (by exact ld_int _ _ _ (hc.cell d1 id))
    rfl
  refine ⟨fun w1 hc _ hn => ?_, fun v16 => ?_⟩
  · obtain rfl : (.int .i64 1 : Value) = v15 := Eq.symm hn.1
    exact grow_same (v := .int .i64 2) (x_add (.tmp 151) (.const (.int .i64 1)) (by rfl) (a := 1) (b := 1) (by rfl) (by rfl) (by omega)) rfl
  refine ⟨fun w1 hc _ hn => ?_, fun v17 => ?_⟩
  · obtain rfl : (.int .i64 2 : Value) = v16 := Eq.symm hn.1
    exact grow_same (v := .int .i64 1) (x_quo (.tmp 152) (.const (.int .i64 2)) (by rfl) (a := 2) (b := 2) (by rfl) (by rfl) (by decide) (by decide)) rfl
  refine ⟨fun w1 hc _ hn => ?_, fun v18 => ?_⟩
  · obtain rfl : (.int .i64 (placeM fb fa (loopM m ⟨2, 1, fb, fa, tb, ta, ((j : Int) + 1), rk⟩).rack) : Value) = v13 := Eq.symm hn.1
    obtain rfl : (.int .i64 1 : Value) = v17 := Eq.symm hn.2.1
    refine grow_same (v := .int .i64 (placeM fb fa (loopM m ⟨2, 1, fb, fa, tb, ta, ((j : Int) + 1), rk⟩).rack + 1)) ?_ ?_
    exact x_add (.tmp 149) (.tmp 153) (by rfl) (a := placeM fb fa (loopM m ⟨2, 1, fb, fa, tb, ta, ((j : Int) + 1), rk⟩).rack) (b := 1) (by rfl) (by rfl) (by omega)
    rfl
  refine ⟨fun w1 hc _ hn => ?_, fun v19 => ?_⟩
  · obtain rfl : (.slice (some ⟨gC, 0, none⟩) 4 cC : Value) = v3 := Eq.symm hn.1
    obtain rfl : (.int .i64 (j : Int) : Value) = v6 := Eq.symm hn.2.1
    refine grow_same (v := .pointer (some ⟨gC, j * 2, none⟩)) ?_ ?_
    exact x_ixa 57 (.tmp 139) (.tmp 142) (by rfl) (u1 := .slice (some ⟨gC, 0, none⟩) 4 cC) (u2 := .int .i64 (j : Int)) (by rfl) (by rfl) (by exact ixa_car _ _ _ _ hKj _)
    rfl
  refine ⟨fun w1 hc _ hn => ?_, fun v20 => ?_⟩
  · obtain rfl : (.pointer (some ⟨gC, j * 2, none⟩) : Value) = v19 := Eq.symm hn.1
    refine grow_same (v := .pointer (some ⟨gC, j * 2 + 1, none⟩)) ?_ ?_
    exact x_field (q := .pointer (some ⟨gC, j * 2, none⟩)) 96 (.tmp 155) 1 (by rfl) (by rfl) (by exact fa_c1 _ _ _)
    rfl
  intro wb kb hn8
  obtain ⟨rfl, rfl, rfl, rfl, rfl, rfl, rfl, rfl, rfl, rfl, rfl, rfl, rfl, rfl, rfl, rfl, rfl, rfl, rfl, rfl, rfl, -⟩ := hn8
  have E9 := kb.cell hkb.1 id
  have F9 := (kb.frozen hkb.1 id).trans hkb.2
  have X9 := Lib.hid ((X9a.out.up kb).ride Hi9.out (car := ((j : Int) + 1)) rfl hKj hCe (placeM fb fa (loopM m ⟨2, 1, fb, fa, tb, ta, ((j : Int) + 1), rk⟩).rack + 1))
  have G9 := Lib.hid ((X9a.out.up kb).ride_chg hCe (j * 2 + 1) (.int .i64 (placeM fb fa (loopM m ⟨2, 1, fb, fa, tb, ta, ((j : Int) + 1), rk⟩).rack + 1)))
  clear HK hkb hkh hp1 d0 d1 d2 d3 d4 d5 d6 d7
  simp only [List.length_cons, List.length_nil, List.drop_succ_cons, List.drop_zero, Nat.zero_add]
  go_wp2
  go_ret
  refine ⟨rfl, ?_, Chg.trans G0.out (Chg.trans (Chg.of_up kb) (G9.out.mono fun b _ hb => hb.1))⟩
  have := (X9.out.mono (T := S) (fun b _ hb => hb.1)).mach
  exact this
theorem execute_missR (w : World) {S : Nat → Prop} {K p : Nat} {m : MachM} {F B C L D : Value} {fs bs : List Value} (h : MachX w S K p m F B C L D fs bs) (hS : NewIn S w) (hi : MInv m) (fb fa tb ta rk : Int) (j : Nat) (hx : okOp m.wd ⟨3, 1, fb, fa, tb, ta, ((j : Int) + 1), rk⟩) (h0 : codeM m ⟨3, 1, fb, fa, tb, ta, ((j : Int) + 1), rk⟩ = 0) :
    Calls Tryz.prog 69 #[.pointer (some ⟨p, 0, none⟩), .agg #[.int .i64 3, .int .i64 1, .int .i64 fb, .int .i64 fa, .int .i64 tb, .int .i64 ta, .int .i64 ((j : Int) + 1), .int .i64 rk]] w fun e w' => e = .returned (.int .i64 0) ∧ Mach w' S K p (execM m ⟨3, 1, fb, fa, tb, ta, ((j : Int) + 1), rk⟩) ∧ Chg S w w' := by
  obtain ⟨hx1, hx2, hx3⟩ := hx
  have hv := valid_cases hx1
  dsimp only at hx2 hx3 hv
  have hwd := hi.wd
  have hrk := hi.rack
  have cz := code_zero h0
  dsimp only at cz
  have HX := Lib.hid (show okOp m.wd ⟨3, 1, fb, fa, tb, ta, ((j : Int) + 1), rk⟩ from ⟨hx1, hx2, hx3⟩)
  clear hx1
  have H0 := Lib.hid h0
  clear h0
  have Hi := Lib.hid hi
  have HS := Lib.hid hS
  have HX2 := Lib.hid (h.mono (T := (fun b => S b ∧ b ≠ w.heap.size)) (fun b hb hs => ⟨hs, Nat.ne_of_lt hb⟩))
  have hn1 : okN m fb fa := ⟨by omega, by omega, by omega⟩
  have X := Lib.hid (HX2.out)
  have U := Lib.hid ((Chg.refl Nowhere w))
  clear h hi hS HX2
  replace X := Lib.hid (X.out.up ((Chg.refl Nowhere w).alloc (.cells #[.int .i64 3, .int .i64 1, .int .i64 fb, .int .i64 fa, .int .i64 tb, .int .i64 ta, .int .i64 ((j : Int) + 1), .int .i64 rk] 44)))
  replace U := Lib.hid (Chg.trans U.out ((Chg.refl Nowhere w).alloc (.cells #[.int .i64 3, .int .i64 1, .int .i64 fb, .int .i64 fa, .int .i64 tb, .int .i64 ta, .int .i64 ((j : Int) + 1), .int .i64 rk] 44)))
  obtain ⟨b0, b1, b2, b3, b4, b5, b6, b7⟩ := box8 w (.int .i64 3) (.int .i64 1) (.int .i64 fb) (.int .i64 fa) (.int .i64 tb) (.int .i64 ta) (.int .i64 ((j : Int) + 1)) (.int .i64 rk) 44
  have hbx13 : w.heap.size < (w.alloc (.cells #[.int .i64 3, .int .i64 1, .int .i64 fb, .int .i64 fa, .int .i64 tb, .int .i64 ta, .int .i64 ((j : Int) + 1), .int .i64 rk] 44)).heap.size := by simp
  have HS2 := Lib.hid ((fun b hb => by have h1 : w.heap.size + 1 ≤ b := (by simpa [NewIn] using hb); exact ⟨HS.out b (by omega), by omega⟩) : NewIn (fun b => S b ∧ b ≠ w.heap.size) (w.alloc (.cells #[.int .i64 3, .int .i64 1, .int .i64 fb, .int .i64 fa, .int .i64 tb, .int .i64 ta, .int .i64 ((j : Int) + 1), .int .i64 rk] 44)))
  have hlb : w.heap.size < (w.alloc (.cells #[.int .i64 3, .int .i64 1, .int .i64 fb, .int .i64 fa, .int .i64 tb, .int .i64 ta, .int .i64 ((j : Int) + 1), .int .i64 rk] 44)).heap.size := by simp
  go_enter Tryz.func69, Tryz.ntmps69
  go_wp2_with fail
  refine (opCode_0 _ X.out Hi.out _ HX.out H0.out).mono ?_
  rintro e w14 ⟨rfl, g1⟩
  have G1 := Lib.hid g1
  have hz14 := G1.out.size
  clear g1
  replace X := Lib.hid (X.out.up (tt G1.out))
  replace U := Lib.hid (Chg.trans U.out (tt G1.out))
  have hh := cc8 (tt G1.out) b0 b1 b2 b3 b4 b5 b6 b7
  clear b0 b1 b2 b3 b4 b5 b6 b7
  obtain ⟨b0, b1, b2, b3, b4, b5, b6, b7⟩ := hh
  clear G1
  have G0 := Lib.hid (Chg.of_up U.out : Chg S w w14)
  have d0 := b0
  clear b0
  have d1 := b1
  clear b1
  have d2 := b2
  clear b2
  have d3 := b3
  clear b3
  have d4 := b4
  clear b4
  have d5 := b5
  clear b5
  have d6 := b6
  clear b6
  have d7 := b7
  clear b7
  obtain ⟨gC, jc, cC, hK, hCe⟩ := X.out.car Hi.out (car := ((j : Int) + 1)) (by omega)
  obtain rfl : j = jc := by have := hK.ec; omega
  have hKj := hK.jl
  have hp1 := X.out.c1.1
  have HK := Lib.hid hK
  have hkh := hK.hdr.1
  have hkb := hK.b
  clear hK
  have hrk1 : -3 ≤ (m).rack ∧ (m).rack ≤ 3 := Hi.out.rack
  have hpl := placeM_bd (b := fb) (a := fa) (r := (m).rack) (by omega) hrk1
  go_wp2_with fail
  refine (makesLoop_b _ 3 false (by decide)).mono ?_
  rintro e w' ⟨rfl, rfl⟩
  go_wp2
  refine wp_region_l 157 (Nowhere) 21 [kon (.pointer (some ⟨p, 0, none⟩)), kon (.pointer (some ⟨p, 0, none⟩)), kon (.pointer (some ⟨p, 4, none⟩)), kon (.slice (some ⟨gC, 0, none⟩) 4 cC), kon (.pointer (some ⟨w.heap.size, 6, none⟩)), kon (.int .i64 ((j : Int) + 1)), kon (.int .i64 (j : Int)), kon (.pointer (some ⟨w.heap.size, 2, none⟩)), kon (.agg #[.int .i64 fb, .int .i64 fa]), kon (.pointer (some ⟨p, 0, none⟩)), kon (.pointer (some ⟨p, 0, none⟩)), kon (.pointer (some ⟨p, 1, none⟩)), kon (.int .i64 (m).rack), kon (.int .i64 (placeM fb fa (m).rack)), kon (.pointer (some ⟨w.heap.size, 1, none⟩)), kon (.int .i64 1), kon (.int .i64 2), kon (.int .i64 1), kon (.int .i64 (placeM fb fa (m).rack + 1)), kon (.pointer (some ⟨gC, j * 2, none⟩)), kon (.pointer (some ⟨gC, j * 2 + 1, none⟩))] [(0, 136, []), (1, 137, [0]), (2, 138, [1]), (3, 139, [2]), (4, 140, []), (5, 141, [4]), (6, 142, [5]), (7, 143, []), (8, 144, [7]), (9, 145, []), (10, 146, [9]), (11, 147, [10]), (12, 148, [11]), (13, 149, [8, 12]), (14, 150, []), (15, 151, [14]), (16, 152, [15]), (17, 153, [16]), (18, 154, [13, 17]), (19, 155, [3, 6, 0, 1, 2, 3, 4, 5, 6, 7, 8, 9, 10, 11, 12, 13, 14, 15, 16, 17, 18]), (20, 156, [19, 0, 1, 2, 3, 4, 5, 6, 7, 8, 9, 10, 11, 12, 13, 14, 15, 16, 17, 18])] (by kernel_rfl) (by kernel_rfl) (by kernel_rfl) rfl ?_ ?_ ?_
  · exact ⟨(keeps_kon _), ⟨(keeps_kon _), ⟨(keeps_kon _), ⟨(keeps_kon _), ⟨(keeps_kon _), ⟨(keeps_kon _), ⟨(keeps_kon _), ⟨(keeps_kon _), ⟨(keeps_kon _), ⟨(keeps_kon _), ⟨(keeps_kon _), ⟨(keeps_kon _), ⟨(keeps_kon _), ⟨(keeps_kon _), ⟨(keeps_kon _), ⟨(keeps_kon _), ⟨(keeps_kon _), ⟨(keeps_kon _), ⟨(keeps_kon _), ⟨(keeps_kon _), ⟨(keeps_kon _), trivial⟩⟩⟩⟩⟩⟩⟩⟩⟩⟩⟩⟩⟩⟩⟩⟩⟩⟩⟩⟩⟩
  · exact allBut_none 0 ⟨(keeps_kon _), ⟨(keeps_kon _), ⟨(keeps_kon _), ⟨(keeps_kon _), ⟨(keeps_kon _), ⟨(keeps_kon _), ⟨(keeps_kon _), ⟨(keeps_kon _), ⟨(keeps_kon _), ⟨(keeps_kon _), ⟨(keeps_kon _), ⟨(keeps_kon _), ⟨(keeps_kon _), ⟨(keeps_kon _), ⟨(keeps_kon _), ⟨(keeps_kon _), ⟨(keeps_kon _), ⟨(keeps_kon _), ⟨(keeps_kon _), ⟨(keeps_kon _), ⟨(keeps_kon _), trivial⟩⟩⟩⟩⟩⟩⟩⟩⟩⟩⟩⟩⟩⟩⟩⟩⟩⟩⟩⟩⟩
  refine ⟨fun w1 hc _ hn => ?_, fun v0 => ?_⟩
  · refine grow_same (v := .pointer (some ⟨p, 0, none⟩)) ?_ ?_
    exact x_move (.tmp 0) rfl rfl
    rfl
  refine ⟨fun w1 hc _ hn => ?_, fun v1 => ?_⟩
  · obtain rfl : (.pointer (some ⟨p, 0, none⟩) : Value) = v0 := Eq.symm hn.1
    refine grow_same (v := .pointer (some ⟨p, 0, none⟩)) ?_ ?_
    exact x_nil (p := ⟨p, 0, none⟩) (.tmp 136) rfl rfl
    rfl
  refine ⟨fun w1 hc _ hn => ?_, fun v2 => ?_⟩
  · obtain rfl : (.pointer (some ⟨p, 0, none⟩) : Value) = v1 := Eq.symm hn.1
    refine grow_same (v := .pointer (some ⟨p, 4, none⟩)) ?_ ?_
    exact x_field (q := .pointer (some ⟨p, 0, none⟩)) 60 (.tmp 137) 4 (by rfl) (by rfl) (by exact fa_m4 _ _)
    rfl
  refine ⟨fun w1 hc _ hn => ?_, fun v3 => ?_⟩
  · obtain rfl : (.pointer (some ⟨p, 4, none⟩) : Value) = v2 := Eq.symm hn.1
    refine grow_same (v := .slice (some ⟨gC, 0, none⟩) 4 cC) ?_ ?_
    exact x_load (q := .pointer (some ⟨p, 4, none⟩)) 57 (.tmp 138) (by rfl) (by rfl) (by exact ld_cars _ _ _ (hc.cell hkh id))
    rfl
  refine ⟨fun w1 hc _ hn => ?_, fun v4 => ?_⟩
  · refine grow_same (v := .pointer (some ⟨w.heap.size, 6, none⟩)) ?_ ?_
    exact x_field (q := .pointer (some ⟨w.heap.size, 0, none⟩)) 44 (.tmp 3) 4 (by rfl) (by rfl) (by exact fa_o4 _ _ _)
    rfl
  refine ⟨fun w1 hc _ hn => ?_, fun v5 => ?_⟩
  · obtain rfl : (.pointer (some ⟨w.heap.size, 6, none⟩) : Value) = v4 := Eq.symm hn.1
    refine grow_same (v := .int .i64 ((j : Int) + 1)) ?_ ?_
    exact x_load (q := .pointer (some ⟨w.heap.size, 6, none⟩)) 2 (.tmp 140) (by rfl) (by rfl) (by exact ld_int _ _ _ (hc.cell d6 id))
    rfl
  refine ⟨fun w1 hc _ hn => ?_, fun v6 => ?_⟩
  · obtain rfl : (.int .i64 ((j : Int) + 1) : Value) = v5 := Eq.symm hn.1
    exact grow_same (v := .int .i64 (j : Int)) (x_subc (.tmp 141) (.const (.int .i64 1)) (by rfl) (a := ((j : Int) + 1)) (b := 1) (by rfl) (by rfl) (by omega) (by omega)) rfl
  refine ⟨fun w1 hc _ hn => ?_, fun v7 => ?_⟩
  · refine grow_same (v := .pointer (some ⟨w.heap.size, 2, none⟩)) ?_ ?_
    exact x_field (q := .pointer (some ⟨w.heap.size, 0, none⟩)) 44 (.tmp 3) 2 (by rfl) (by rfl) (by exact fa_o2 _ _ _)
    rfl
  refine ⟨fun w1 hc _ hn => ?_, fun v8 => ?_⟩
  · obtain rfl : (.pointer (some ⟨w.heap.size, 2, none⟩) : Value) = v7 := Eq.symm hn.1
    refine grow_same (v := .agg #[.int .i64 fb, .int .i64 fa]) ?_ ?_
    exact x_load (q := .pointer (some ⟨w.heap.size, 2, none⟩)) 42 (.tmp 143) (by rfl) (by rfl) (by exact ld_needle _ _ _ _ _ (hc.cell d2 id) (hc.cell d3 id))
    rfl
  refine ⟨fun w1 hc _ hn => ?_, fun v9 => ?_⟩
  · refine grow_same (v := .pointer (some ⟨p, 0, none⟩)) ?_ ?_
    exact x_move (.tmp 0) rfl rfl
    rfl
  refine ⟨fun w1 hc _ hn => ?_, fun v10 => ?_⟩
  · obtain rfl : (.pointer (some ⟨p, 0, none⟩) : Value) = v9 := Eq.symm hn.1
    refine grow_same (v := .pointer (some ⟨p, 0, none⟩)) ?_ ?_
    exact x_nil (p := ⟨p, 0, none⟩) (.tmp 145) rfl rfl
    rfl
  refine ⟨fun w1 hc _ hn => ?_, fun v11 => ?_⟩
  · obtain rfl : (.pointer (some ⟨p, 0, none⟩) : Value) = v10 := Eq.symm hn.1
    refine grow_same (v := .pointer (some ⟨p, 1, none⟩)) ?_ ?_
    exact x_field (q := .pointer (some ⟨p, 0, none⟩)) 60 (.tmp 146) 1 (by rfl) (by rfl) (by exact fa_m1 _ _)
    rfl
  refine ⟨fun w1 hc _ hn => ?_, fun v12 => ?_⟩
  · obtain rfl : (.pointer (some ⟨p, 1, none⟩) : Value) = v11 := Eq.symm hn.1
    refine grow_same (v := .int .i64 (m).rack) ?_ ?_
    exact x_load (q := .pointer (some ⟨p, 1, none⟩)) 2 (.tmp 147) (by rfl) (by rfl) (by exact ld_int _ _ _ (hc.cell hp1 id))
    rfl
  refine ⟨fun w1 hc _ hn => ?_, fun v13 => ?_⟩
  · obtain rfl : (.agg #[.int .i64 fb, .int .i64 fa] : Value) = v8 := Eq.symm hn.1
    obtain rfl : (.int .i64 (m).rack : Value) = v12 := Eq.symm hn.2.1
    refine grow_call (f := 85) (args := #[.agg #[.int .i64 fb, .int .i64 fa], .int .i64 (m).rack]) (x_call #[.tmp 144, .tmp 148] #[42, 2] Tryz.func85 (by rfl) (by rfl) (by rfl) (by rfl) (by simp only [List.map_toArray, List.map_cons, List.map_nil]; rfl)) ?_
    refine (place_any w1 fb fa _ (by omega) (by omega)).mono ?_
    rintro e w' ⟨rfl, g1⟩
    exact ⟨_, rfl, rg_up g1, rfl⟩
  refine ⟨fun w1 hc _ hn => ?_, fun v14 => ?_⟩
  · refine grow_same (v := .pointer (some ⟨w.heap.size, 1, none⟩)) ?_ ?_
    exact x_field (q := .pointer (some ⟨w.heap.size, 0, none⟩)) 44 (.tmp 3) 1 (by rfl) (by rfl) (by exact fa_o1 _ _ _)
    rfl
  refine ⟨fun w1 hc _ hn => ?_, fun v15 => ?_⟩
  · obtain rfl : (.pointer (some ⟨w.heap.size, 1, none⟩) : Value) = v14 := Eq.symm hn.1
    refine grow_same (v := .int .i64 1) ?_ ?_
    exact x_load (q := .pointer (some ⟨w.heap.size, 1, none⟩)) 2 (.tmp 150) (by rfl) (by rfl) (by exact ld_int _ _ _ (hc.cell d1 id))
    rfl
  refine ⟨fun w1 hc _ hn => ?_, fun v16 => ?_⟩
  · obtain rfl : (.int .i64 1 : Value) = v15 := Eq.symm hn.1
    exact grow_same (v := .int .i64 2) (x_add (.tmp 151) (.const (.int .i64 1)) (by rfl) (a := 1) (b := 1) (by rfl) (by rfl) (by omega)) rfl
  refine ⟨fun w1 hc _ hn => ?_, fun v17 => ?_⟩
  · obtain rfl : (.int .i64 2 : Value) = v16 := Eq.symm hn.1
    exact grow_same (v := .int .i64 1) (x_quo (.tmp 152) (.const (.int .i64 2)) (by rfl) (a := 2) (b := 2) (by rfl) (by rfl) (by decide) (by decide)) rfl
  refine ⟨fun w1 hc _ hn => ?_, fun v18 => ?_⟩
  · obtain rfl : (.int .i64 (placeM fb fa (m).rack) : Value) = v13 := Eq.symm hn.1
    obtain rfl : (.int .i64 1 : Value) = v17 := Eq.symm hn.2.1
    refine grow_same (v := .int .i64 (placeM fb fa (m).rack + 1)) ?_ ?_
    exact x_add (.tmp 149) (.tmp 153) (by rfl) (a := placeM fb fa (m).rack) (b := 1) (by rfl) (by rfl) (by omega)
    rfl
  refine ⟨fun w1 hc _ hn => ?_, fun v19 => ?_⟩
  · obtain rfl : (.slice (some ⟨gC, 0, none⟩) 4 cC : Value) = v3 := Eq.symm hn.1
    obtain rfl : (.int .i64 (j : Int) : Value) = v6 := Eq.symm hn.2.1
    refine grow_same (v := .pointer (some ⟨gC, j * 2, none⟩)) ?_ ?_
    exact x_ixa 57 (.tmp 139) (.tmp 142) (by rfl) (u1 := .slice (some ⟨gC, 0, none⟩) 4 cC) (u2 := .int .i64 (j : Int)) (by rfl) (by rfl) (by exact ixa_car _ _ _ _ hKj _)
    rfl
  refine ⟨fun w1 hc _ hn => ?_, fun v20 => ?_⟩
  · obtain rfl : (.pointer (some ⟨gC, j * 2, none⟩) : Value) = v19 := Eq.symm hn.1
    refine grow_same (v := .pointer (some ⟨gC, j * 2 + 1, none⟩)) ?_ ?_
    exact x_field (q := .pointer (some ⟨gC, j * 2, none⟩)) 96 (.tmp 155) 1 (by rfl) (by rfl) (by exact fa_c1 _ _ _)
    rfl
  intro wb kb hn8
  obtain ⟨rfl, rfl, rfl, rfl, rfl, rfl, rfl, rfl, rfl, rfl, rfl, rfl, rfl, rfl, rfl, rfl, rfl, rfl, rfl, rfl, rfl, -⟩ := hn8
  have E9 := kb.cell hkb.1 id
  have F9 := (kb.frozen hkb.1 id).trans hkb.2
  have X9 := Lib.hid ((X.out.up kb).ride Hi.out (car := ((j : Int) + 1)) rfl hKj hCe (placeM fb fa (m).rack + 1))
  have G9 := Lib.hid ((X.out.up kb).ride_chg hCe (j * 2 + 1) (.int .i64 (placeM fb fa (m).rack + 1)))
  clear HK hkb hkh hp1 d0 d1 d2 d3 d4 d5 d6 d7
  simp only [List.length_cons, List.length_nil, List.drop_succ_cons, List.drop_zero, Nat.zero_add]
  go_wp2
  go_ret
  refine ⟨rfl, ?_, Chg.trans G0.out (Chg.trans (Chg.of_up kb) (G9.out.mono fun b _ hb => hb.1))⟩
  have := (X9.out.mono (T := S) (fun b _ hb => hb.1)).mach
  exact this
theorem execute_knitL (w : World) {S : Nat → Prop} {K p : Nat} {m : MachM} {F B C L D : Value} {fs bs : List Value} (h : MachX w S K p m F B C L D fs bs) (hS : NewIn S w) (hi : MInv m) (fb fa tb ta rk : Int) (j : Nat) (hx : okOp m.wd ⟨1, (-1), fb, fa, tb, ta, ((j : Int) + 1), rk⟩) (h0 : codeM m ⟨1, (-1), fb, fa, tb, ta, ((j : Int) + 1), rk⟩ = 0) :
    Calls Tryz.prog 69 #[.pointer (some ⟨p, 0, none⟩), .agg #[.int .i64 1, .int .i64 (-1), .int .i64 fb, .int .i64 fa, .int .i64 tb, .int .i64 ta, .int .i64 ((j : Int) + 1), .int .i64 rk]] w fun e w' => e = .returned (.int .i64 0) ∧ Mach w' S K p (execM m ⟨1, (-1), fb, fa, tb, ta, ((j : Int) + 1), rk⟩) ∧ Chg S w w' := by
  obtain ⟨hx1, hx2, hx3⟩ := hx
  have hv := valid_cases hx1
  dsimp only at hx2 hx3 hv
  have hwd := hi.wd
  have hrk := hi.rack
  have cz := code_zero h0
  dsimp only at cz
  have HX := Lib.hid (show okOp m.wd ⟨1, (-1), fb, fa, tb, ta, ((j : Int) + 1), rk⟩ from ⟨hx1, hx2, hx3⟩)
  clear hx1
  have H0 := Lib.hid h0
  clear h0
  have Hi := Lib.hid hi
  have HS := Lib.hid hS
  have HX2 := Lib.hid (h.mono (T := (fun b => S b ∧ b ≠ w.heap.size)) (fun b hb hs => ⟨hs, Nat.ne_of_lt hb⟩))
  have hn1 : okN m fb fa := ⟨by omega, by omega, by omega⟩
  have hnl := cz.2.1 (by decide)
  have hnl2 := hi.nl
  obtain ⟨g1, u1, hH1, hV1⟩ := h.hold hi (b := fb) (a := fa) hn1
  have O1 := Lib.hid (h.off_hold hV1)
  have V1 := Lib.hid (show AtN F B fs bs fb fa g1 u1 from hV1)
  clear hV1
  obtain ⟨A1, c1, rfl, hl1, hc1, -⟩ := hH1.own.ints.shape
  obtain ⟨l1, HL1⟩ : ∃ l1 : List Int, Hid (l1 = onM m fb fa) := ⟨_, rfl⟩
  have hln1 := (hi.on_ fb fa).1
  rw [← HL1.out] at hH1 V1 O1 hl1 hln1
  have HG1 := Lib.hid hH1.cell.lt
  have HB1 := Lib.hid (fun e => absurd (hH1.own.1.lt _ e).2 (Nat.lt_irrefl _) : ¬ (Value.slice A1 l1.length c1).ownBlock = some w.heap.size)
  have X := Lib.hid (HX2.out)
  have U := Lib.hid ((Chg.refl Nowhere w))
  clear h hi hS HX2
  have H1 := Lib.hid (hH1)
  replace X := Lib.hid (X.out.up ((Chg.refl Nowhere w).alloc (.cells #[.int .i64 1, .int .i64 (-1), .int .i64 fb, .int .i64 fa, .int .i64 tb, .int .i64 ta, .int .i64 ((j : Int) + 1), .int .i64 rk] 44)))
  replace U := Lib.hid (Chg.trans U.out ((Chg.refl Nowhere w).alloc (.cells #[.int .i64 1, .int .i64 (-1), .int .i64 fb, .int .i64 fa, .int .i64 tb, .int .i64 ta, .int .i64 ((j : Int) + 1), .int .i64 rk] 44)))
  replace H1 := Lib.hid (H1.out.up ((Chg.refl Nowhere w).alloc (.cells #[.int .i64 1, .int .i64 (-1), .int .i64 fb, .int .i64 fa, .int .i64 tb, .int .i64 ta, .int .i64 ((j : Int) + 1), .int .i64 rk] 44)))
  obtain ⟨b0, b1, b2, b3, b4, b5, b6, b7⟩ := box8 w (.int .i64 1) (.int .i64 (-1)) (.int .i64 fb) (.int .i64 fa) (.int .i64 tb) (.int .i64 ta) (.int .i64 ((j : Int) + 1)) (.int .i64 rk) 44
  have hbx15 : w.heap.size < (w.alloc (.cells #[.int .i64 1, .int .i64 (-1), .int .i64 fb, .int .i64 fa, .int .i64 tb, .int .i64 ta, .int .i64 ((j : Int) + 1), .int .i64 rk] 44)).heap.size := by simp
  have HS2 := Lib.hid ((fun b hb => by have h1 : w.heap.size + 1 ≤ b := (by simpa [NewIn] using hb); exact ⟨HS.out b (by omega), by omega⟩) : NewIn (fun b => S b ∧ b ≠ w.heap.size) (w.alloc (.cells #[.int .i64 1, .int .i64 (-1), .int .i64 fb, .int .i64 fa, .int .i64 tb, .int .i64 ta, .int .i64 ((j : Int) + 1), .int .i64 rk] 44)))
  have hlb : w.heap.size < (w.alloc (.cells #[.int .i64 1, .int .i64 (-1), .int .i64 fb, .int .i64 fa, .int .i64 tb, .int .i64 ta, .int .i64 ((j : Int) + 1), .int .i64 rk] 44)).heap.size := by simp
  go_enter Tryz.func69, Tryz.ntmps69
  go_wp2_with fail
  refine (opCode_0 _ X.out Hi.out _ HX.out H0.out).mono ?_
  rintro e w16 ⟨rfl, g1⟩
  have G1 := Lib.hid g1
  have hz16 := G1.out.size
  clear g1
  replace X := Lib.hid (X.out.up (tt G1.out))
  replace U := Lib.hid (Chg.trans U.out (tt G1.out))
  replace H1 := Lib.hid (H1.out.up (tt G1.out))
  have hh := cc8 (tt G1.out) b0 b1 b2 b3 b4 b5 b6 b7
  clear b0 b1 b2 b3 b4 b5 b6 b7
  obtain ⟨b0, b1, b2, b3, b4, b5, b6, b7⟩ := hh
  clear G1
  go_wp2_with fail
  refine (on_any _ p fb fa g1 _ _ H1.out).mono ?_
  rintro e w28 ⟨rfl, g1⟩
  have G1 := Lib.hid g1
  have hz28 := G1.out.size
  clear g1
  replace X := Lib.hid (X.out.up (tt G1.out))
  replace U := Lib.hid (Chg.trans U.out (tt G1.out))
  replace H1 := Lib.hid (H1.out.up (tt G1.out))
  have hh := cc8 (tt G1.out) b0 b1 b2 b3 b4 b5 b6 b7
  clear b0 b1 b2 b3 b4 b5 b6 b7
  obtain ⟨b0, b1, b2, b3, b4, b5, b6, b7⟩ := hh
  clear G1
  have he1 := H1.out.cell.1
  go_wp2_with fail
  clear he1
  refine (on_any _ p fb fa g1 _ _ H1.out).mono ?_
  rintro e w40 ⟨rfl, g1⟩
  have G1 := Lib.hid g1
  have hz40 := G1.out.size
  clear g1
  replace X := Lib.hid (X.out.up (tt G1.out))
  replace U := Lib.hid (Chg.trans U.out (tt G1.out))
  replace H1 := Lib.hid (H1.out.up (tt G1.out))
  have hh := cc8 (tt G1.out) b0 b1 b2 b3 b4 b5 b6 b7
  clear b0 b1 b2 b3 b4 b5 b6 b7
  obtain ⟨b0, b1, b2, b3, b4, b5, b6, b7⟩ := hh
  clear G1
  have E1 := H1.out.cell.1
  have F1 := H1.out.cell.2
  have hz6 := U.out.size
  have HSn := Lib.hid ((fun b hb => ⟨HS.out b (by omega), by omega⟩) : NewIn (fun b => S b ∧ b ≠ w.heap.size) w40)
  have X6 := Lib.hid (X.out.slot0 HSn.out V1.out)
  have hg1 := HG1.out
  have d0 : (w40.setCell ⟨g1, fa.toNat, none⟩ (.slice none 0 0)).cell? ⟨w.heap.size, 0, none⟩ = _ := keepS b0 (Nat.ne_of_lt hg1)
  clear b0
  have d1 : (w40.setCell ⟨g1, fa.toNat, none⟩ (.slice none 0 0)).cell? ⟨w.heap.size, 1, none⟩ = _ := keepS b1 (Nat.ne_of_lt hg1)
  clear b1
  have d2 : (w40.setCell ⟨g1, fa.toNat, none⟩ (.slice none 0 0)).cell? ⟨w.heap.size, 2, none⟩ = _ := keepS b2 (Nat.ne_of_lt hg1)
  clear b2
  have d3 : (w40.setCell ⟨g1, fa.toNat, none⟩ (.slice none 0 0)).cell? ⟨w.heap.size, 3, none⟩ = _ := keepS b3 (Nat.ne_of_lt hg1)
  clear b3
  have d4 : (w40.setCell ⟨g1, fa.toNat, none⟩ (.slice none 0 0)).cell? ⟨w.heap.size, 4, none⟩ = _ := keepS b4 (Nat.ne_of_lt hg1)
  clear b4
  have d5 : (w40.setCell ⟨g1, fa.toNat, none⟩ (.slice none 0 0)).cell? ⟨w.heap.size, 5, none⟩ = _ := keepS b5 (Nat.ne_of_lt hg1)
  clear b5
  have d6 : (w40.setCell ⟨g1, fa.toNat, none⟩ (.slice none 0 0)).cell? ⟨w.heap.size, 6, none⟩ = _ := keepS b6 (Nat.ne_of_lt hg1)
  clear b6
  have d7 : (w40.setCell ⟨g1, fa.toNat, none⟩ (.slice none 0 0)).cell? ⟨w.heap.size, 7, none⟩ = _ := keepS b7 (Nat.ne_of_lt hg1)
  clear b7
  have hP := Lib.hid (H1.out.own.kept (Chg.setCell (Chg.refl (fun b => b = g1) w40) (.inl rfl) (.slice none 0 0)) (fun x hx e => O1.out.1 (e ▸ hx)) : OwnI (w40.setCell ⟨g1, fa.toNat, none⟩ (.slice none 0 0)) 0 (Value.slice A1 l1.length c1) l1)
  have HS6 := Lib.hid ((fun b hb => ⟨HSn.out b (by simpa using hb), fun e => by have h1 := (hP.out.1.lt _ e).2; omega⟩) : NewIn (fun x => (fun b => S b ∧ b ≠ w.heap.size) x ∧ (Value.slice A1 l1.length c1).ownBlock ≠ some x) (w40.setCell ⟨g1, fa.toNat, none⟩ (.slice none 0 0)))
  have hi6 := Lib.hid (Hi.out.setM_ fb fa (l := []) ⟨by simp, by simp⟩)
  have hs6 := setM_same (m := m) fb fa []
  have hG6 := Lib.hid (Chg.trans (Chg.of_up U.out) (X6.out.2.mono fun b _ hb => hb.1) : Chg S w (w40.setCell ⟨g1, fa.toNat, none⟩ (.slice none 0 0)))
  go_wp2_with fail
  clear E1 F1
  refine (loop_any _ X6.out.1 HS6.out hi6.out 1 (-1) fb fa tb ta ((j : Int) + 1) rk ⟨hn1.1, hn1.2.1, by rw [hs6.1]; exact hn1.2.2⟩ (by rw [onM_setM Hi.out [] hn1.2]; simp) (by rw [hs6.2.2.2]; omega) (fun b => (Value.slice A1 l1.length c1).ownBlock = some b) _ l1 hP.out.intsOwn (fun b _ e h => h.2 e) (by omega)).mono ?_
  rintro e w9 ⟨rfl, hm9, g9⟩
  obtain ⟨F9, B9, C9, L9, D9, fs9, bs9, x9⟩ := hm9
  have X9a := Lib.hid x9
  have G0 := Lib.hid (Chg.trans hG6.out (g9.mono fun b _ hb => hb.1.1) : Chg S w w9)
  replace d0 := g9.cell d0 (fun h => h.1.2 rfl)
  replace d1 := g9.cell d1 (fun h => h.1.2 rfl)
  replace d2 := g9.cell d2 (fun h => h.1.2 rfl)
  replace d3 := g9.cell d3 (fun h => h.1.2 rfl)
  replace d4 := g9.cell d4 (fun h => h.1.2 rfl)
  replace d5 := g9.cell d5 (fun h => h.1.2 rfl)
  replace d6 := g9.cell d6 (fun h => h.1.2 rfl)
  replace d7 := g9.cell d7 (fun h => h.1.2 rfl)
  clear x9 g9
  have hi9 : MInv (loopM (setM m fb fa []) ⟨1, (-1), fb, fa, tb, ta, ((j : Int) + 1), rk⟩) := hi6.out.loop (by dsimp only; rw [onM_setM Hi.out [] hn1.2]; simp) (by rw [hs6.2.2.2]; omega)
  have Hi9 := Lib.hid hi9
  clear hi9
  obtain ⟨gC, jc, cC, hK, hCe⟩ := X9a.out.car Hi9.out (car := ((j : Int) + 1)) (by omega)
  obtain rfl : j = jc := by have := hK.ec; omega
  have hKj := hK.jl
  have hp1 := X9a.out.c1.1
  have HK := Lib.hid hK
  have hkh := hK.hdr.1
  have hkb := hK.b
  clear hK
  have hrk1 : -3 ≤ (loopM (setM m fb fa []) ⟨1, (-1), fb, fa, tb, ta, ((j : Int) + 1), rk⟩).rack ∧ (loopM (setM m fb fa []) ⟨1, (-1), fb, fa, tb, ta, ((j : Int) + 1), rk⟩).rack ≤ 3 := Hi9.out.rack
  have hpl := placeM_bd (b := fb) (a := fa) (r := (loopM (setM m fb fa []) ⟨1, (-1), fb, fa, tb, ta, ((j : Int) + 1), rk⟩).rack) (by omega) hrk1
  go_wp2_with fail
  refine (makesLoop_b _ 1 true (by decide)).mono ?_
  rintro e w' ⟨rfl, rfl⟩
  go_wp2
  refine wp_region_l 157 (Nowhere) 21 [kon (.pointer (some ⟨p, 0, none⟩)), kon (.pointer (some ⟨p, 0, none⟩)), kon (.pointer (some ⟨p, 4, none⟩)), kon (.slice (some ⟨gC, 0, none⟩) 4 cC), kon (.pointer (some ⟨w.heap.size, 6, none⟩)), kon (.int .i64 ((j : Int) + 1)), kon (.int .i64 (j : Int)), kon (.pointer (some ⟨w.heap.size, 2, none⟩)), kon (.agg #[.int .i64 fb, .int .i64 fa]), kon (.pointer (some ⟨p, 0, none⟩)), kon (.pointer (some ⟨p, 0, none⟩)), kon (.pointer (some ⟨p, 1, none⟩)), kon (.int .i64 (loopM (setM m fb fa []) ⟨1, (-1), fb, fa, tb, ta, ((j : Int) + 1), rk⟩).rack), kon (.int .i64 (placeM fb fa (loopM (setM m fb fa []) ⟨1, (-1), fb, fa, tb, ta, ((j : Int) + 1), rk⟩).rack)), kon (.pointer (some ⟨w.heap.size, 1, none⟩)), kon (.int .i64 (-1)), kon (.int .i64 0), kon (.int .i64 0), kon (.int .i64 (placeM fb fa (loopM (setM m fb fa []) ⟨1, (-1), fb, fa, tb, ta, ((j : Int) + 1), rk⟩).rack + 0)), kon (.pointer (some ⟨gC, j * 2, none⟩)), kon (.pointer (some ⟨gC, j * 2 + 1, none⟩))] [(0, 136, []), (1, 137, [0]), (2, 138, [1]), (3, 139, [2]), (4, 140, []), (5, 141, [4]), (6, 142, [5]), (7, 143, []), (8, 144, [7]), (9, 145, []), (10, 146, [9]), (11, 147, [10]), (12, 148, [11]), (13, 149, [8, 12]), (14, 150, []), (15, 151, [14]), (16, 152, [15]), (17, 153, [16]), (18, 154, [13, 17]), (19, 155, [3, 6, 0, 1, 2, 3, 4, 5, 6, 7, 8, 9, 10, 11, 12, 13, 14, 15, 16, 17, 18]), (20, 156, [19, 0, 1, 2, 3, 4, 5, 6, 7, 8, 9, 10, 11, 12, 13, 14, 15, 16, 17, 18])] (by kernel_rfl) (by kernel_rfl) (by kernel_rfl) rfl ?_ ?_ ?_
  · exact ⟨(keeps_kon _), ⟨(keeps_kon _), ⟨(keeps_kon _), ⟨(keeps_kon _), ⟨(keeps_kon _), ⟨(keeps_kon _), ⟨(keeps_kon _), ⟨(keeps_kon _), ⟨(keeps_kon _), ⟨(keeps_kon _), ⟨(keeps_kon _), ⟨(keeps_kon _), ⟨(keeps_kon _), ⟨(keeps_kon _), ⟨(keeps_kon _), ⟨(keeps_kon _), ⟨(keeps_kon _), ⟨(keeps_kon _), ⟨(keeps_kon _), ⟨(keeps_kon _), ⟨(keeps_kon _), trivial⟩⟩⟩⟩⟩⟩⟩⟩⟩⟩⟩⟩⟩⟩⟩⟩⟩⟩⟩⟩⟩
  · exact allBut_none 0 ⟨(keeps_kon _), ⟨(keeps_kon _), ⟨(keeps_kon _), ⟨(keeps_kon _), ⟨(keeps_kon _), ⟨(keeps_kon _), ⟨(keeps_kon _), ⟨(keeps_kon _), ⟨(keeps_kon _), ⟨(keeps_kon _), ⟨(keeps_kon _), ⟨(keeps_kon _), ⟨(keeps_kon _), ⟨(keeps_kon _), ⟨(keeps_kon _), ⟨(keeps_kon _), ⟨(keeps_kon _), ⟨(keeps_kon _), ⟨(keeps_kon _), ⟨(keeps_kon _), ⟨(keeps_kon _), trivial⟩⟩⟩⟩⟩⟩⟩⟩⟩⟩⟩⟩⟩⟩⟩⟩⟩⟩⟩⟩⟩
  refine ⟨fun w1 hc _ hn => ?_, fun v0 => ?_⟩
  · refine grow_same (v := .pointer (some ⟨p, 0, none⟩)) ?_ ?_
    exact x_move (.tmp 0) rfl rfl
    rfl
  refine ⟨fun w1 hc _ hn => ?_, fun v1 => ?_⟩
  · obtain rfl : (.pointer (some ⟨p, 0, none⟩) : Value) = v0 := Eq.symm hn.1
    refine grow_same (v := .pointer (some ⟨p, 0, none⟩)) ?_ ?_
    exact x_nil (p := ⟨p, 0, none⟩) (.tmp 136) rfl rfl
    rfl
  refine ⟨fun w1 hc _ hn => ?_, fun v2 => ?_⟩
  · obtain rfl : (.pointer (some ⟨p, 0, none⟩) : Value) = v1 := Eq.symm hn.1
    refine grow_same (v := .pointer (some ⟨p, 4, none⟩)) ?_ ?_
    exact x_field (q := .pointer (some ⟨p, 0, none⟩)) 60 (.tmp 137) 4 (by rfl) (by rfl) (by exact fa_m4 _ _)
    rfl
  refine ⟨fun w1 hc _ hn => ?_, fun v3 => ?_⟩
  · obtain rfl : (.pointer (some ⟨p, 4, none⟩) : Value) = v2 := Eq.symm hn.1
    refine grow_same (v := .slice (some ⟨gC, 0, none⟩) 4 cC) ?_ ?_
    exact x_load (q := .pointer (some ⟨p, 4, none⟩)) 57 (.tmp 138) (by rfl) (by rfl) (by exact ld_cars _ _ _ (hc.cell hkh id))
    rfl
  refine ⟨fun w1 hc _ hn => ?_, fun v4 => ?_⟩
  · refine grow_same (v := .pointer (some ⟨w.heap.size, 6, none⟩)) ?_ ?_
    exact x_field (q := .pointer (some ⟨w.heap.size, 0, none⟩)) 44 (.tmp 3) 4 (by rfl) (by rfl) (by exact fa_o4 _ _ _)
    rfl
  refine ⟨fun w1 hc _ hn => ?_, fun v5 => ?_⟩
  · obtain rfl : (.pointer (some ⟨w.heap.size, 6, none⟩) : Value) = v4 := Eq.symm hn.1
    refine grow_same (v := .int .i64 ((j : Int) + 1)) ?_ ?_
    exact x_load (q := .pointer (some ⟨w.heap.size, 6, none⟩)) 2 (.tmp 140) (by rfl) (by rfl) (by exact ld_int _ _ _ (hc.cell d6 id))
    rfl
  refine ⟨fun w1 hc _ hn => ?_, fun v6 => ?_⟩
  · obtain rfl : (.int .i64 ((j : Int) + 1) : Value) = v5 := Eq.symm hn.1
    exact grow_same (v := .int .i64 (j : Int)) (x_subc (.tmp 141) (.const (.int .i64 1)) (by rfl) (a := ((j : Int) + 1)) (b := 1) (by rfl) (by rfl) (by omega) (by omega)) rfl
  refine ⟨fun w1 hc _ hn => ?_, fun v7 => ?_⟩
  · refine grow_same (v := .pointer (some ⟨w.heap.size, 2, none⟩)) ?_ ?_
    exact x_field (q := .pointer (some ⟨w.heap.size, 0, none⟩)) 44 (.tmp 3) 2 (by rfl) (by rfl) (by exact fa_o2 _ _ _)
    rfl
  refine ⟨fun w1 hc _ hn => ?_, fun v8 => ?_⟩
  · obtain rfl : (.pointer (some ⟨w.heap.size, 2, none⟩) : Value) = v7 := Eq.symm hn.1
    refine grow_same (v := .agg #[.int .i64 fb, .int .i64 fa]) ?_ ?_
    exact x_load (q := .pointer (some ⟨w.heap.size, 2, none⟩)) 42 (.tmp 143) (by rfl) (by rfl) (by exact ld_needle _ _ _ _ _ (hc.cell d2 id) (hc.cell d3 id))
    rfl
  refine ⟨fun w1 hc _ hn => ?_, fun v9 => ?_⟩
  · refine grow_same (v := .pointer (some ⟨p, 0, none⟩)) ?_ ?_
    exact x_move (.tmp 0) rfl rfl
    rfl
  refine ⟨fun w1 hc _ hn => ?_, fun v10 => ?_⟩
  · obtain rfl : (.pointer (some ⟨p, 0, none⟩) : Value) = v9 := Eq.symm hn.1
    refine grow_same (v := .pointer (some ⟨p, 0, none⟩)) ?_ ?_
    exact x_nil (p := ⟨p, 0, none⟩) (.tmp 145) rfl rfl
    rfl
  refine ⟨fun w1 hc _ hn => ?_, fun v11 => ?_⟩
  · obtain rfl : (.pointer (some ⟨p, 0, none⟩) : Value) = v10 := Eq.symm hn.1
    refine grow_same (v := .pointer (some ⟨p, 1, none⟩)) ?_ ?_
    exact x_field (q := .pointer (some ⟨p, 0, none⟩)) 60 (.tmp 146) 1 (by rfl) (by rfl) (by exact fa_m1 _ _)
    rfl
  refine ⟨fun w1 hc _ hn => ?_, fun v12 => ?_⟩
  · obtain rfl : (.pointer (some ⟨p, 1, none⟩) : Value) = v11 := Eq.symm hn.1
    refine grow_same (v := .int .i64 (loopM (setM m fb fa []) ⟨1, (-1), fb, fa, tb, ta, ((j : Int) + 1), rk⟩).rack) ?_ ?_
    exact x_load (q := .pointer (some ⟨p, 1, none⟩)) 2 (.tmp 147) (by rfl) (by rfl) (by exact ld_int _ _ _ (hc.cell hp1 id))
    rfl
  refine ⟨fun w1 hc _ hn => ?_, fun v13 => ?_⟩
  · obtain rfl : (.agg #[.int .i64 fb, .int .i64 fa] : Value) = v8 := Eq.symm hn.1
    obtain rfl : (.int .i64 (loopM (setM m fb fa []) ⟨1, (-1), fb, fa, tb, ta, ((j : Int) + 1), rk⟩).rack : Value) = v12 := Eq.symm hn.2.1
    refine grow_call (f := 85) (args := #[.agg #[.int .i64 fb, .int .i64 fa], .int .i64 (loopM (setM m fb fa []) ⟨1, (-1), fb, fa, tb, ta, ((j : Int) + 1), rk⟩).rack]) (x_call #[.tmp 144, .tmp 148] #[42, 2] Tryz.func85 (by rfl) (by rfl) (by rfl) (by rfl) (by simp only [List.map_toArray, List.map_cons, List.map_nil]; rfl)) ?_
    refine (place_any w1 fb fa _ (by omega) (by omega)).mono ?_
    rintro e w' ⟨rfl, g1⟩
    exact ⟨_, rfl, rg_up g1, rfl⟩
  refine ⟨fun w1 hc _ hn => ?_, fun v14 => ?_⟩
  · refine grow_same (v := .pointer (some ⟨w.heap.size, 1, none⟩)) ?_ ?_
    exact x_field (q := .pointer (some ⟨w.heap.size, 0, none⟩)) 44 (.tmp 3) 1 (by rfl) (by rfl) (by exact fa_o1 _ _ _)
    rfl
  refine ⟨fun w1 hc _ hn => ?_, fun v15 => ?_⟩
  · obtain rfl : (.pointer (some ⟨w.heap.size, 1, none⟩) : Value) = v14 := Eq.symm hn.1
    refine grow_same (v := .int .i64 (-1)) ?_ ?_
    exact x_load (q := .pointer (some ⟨w.heap.size, 1, none⟩)) 2 (.tmp 150) (by rfl) (by rfl) (by exact ld_int _ _ _ (hc.cell d1 id))
    rfl
  refine ⟨fun w1 hc _ hn => ?_, fun v16 => ?_⟩
  · obtain rfl : (.int .i64 (-1) : Value) = v15 := Eq.symm hn.1
    exact grow_same (v := .int .i64 0) (x_add (.tmp 151) (.const (.int .i64 1)) (by rfl) (a := (-1)) (b := 1) (by rfl) (by rfl) (by omega)) rfl
  refine ⟨fun w1 hc _ hn => ?_, fun v17 => ?_⟩
  · obtain rfl : (.int .i64 0 : Value) = v16 := Eq.symm hn.1
    exact grow_same (v := .int .i64 0) (x_quo (.tmp 152) (.const (.int .i64 2)) (by rfl) (a := 0) (b := 2) (by rfl) (by rfl) (by decide) (by decide)) rfl
  refine ⟨fun w1 hc _ hn => ?_, fun v18 => ?_⟩
  · obtain rfl : (.int .i64 (placeM fb fa (loopM (setM m fb fa []) ⟨1, (-1), fb, fa, tb, ta, ((j : Int) + 1), rk⟩).rack) : Value) = v13 := Eq.symm hn.1
    obtain rfl : (.int .i64 0 : Value) = v17 := Eq.symm hn.2.1
    refine grow_same (v := .int .i64 (placeM fb fa (loopM (setM m fb fa []) ⟨1, (-1), fb, fa, tb, ta, ((j : Int) + 1), rk⟩).rack + 0)) ?_ ?_
    exact x_add (.tmp 149) (.tmp 153) (by rfl) (a := placeM fb fa (loopM (setM m fb fa []) ⟨1, (-1), fb, fa, tb, ta, ((j : Int) + 1), rk⟩).rack) (b := 0) (by rfl) (by rfl) (by omega)
    rfl
  refine ⟨fun w1 hc _ hn => ?_, fun v19 => ?_⟩
  · obtain rfl : (.slice (some ⟨gC, 0, none⟩) 4 cC : Value) = v3 := Eq.symm hn.1
    obtain rfl : (.int .i64 (j : Int) : Value) = v6 := Eq.symm hn.2.1
    refine grow_same (v := .pointer (some ⟨gC, j * 2, none⟩)) ?_ ?_
    exact x_ixa 57 (.tmp 139) (.tmp 142) (by rfl) (u1 := .slice (some ⟨gC, 0, none⟩) 4 cC) (u2 := .int .i64 (j : Int)) (by rfl) (by rfl) (by exact ixa_car _ _ _ _ hKj _)
    rfl
  refine ⟨fun w1 hc _ hn => ?_, fun v20 => ?_⟩
  · obtain rfl : (.pointer (some ⟨gC, j * 2, none⟩) : Value) = v19 := Eq.symm hn.1
    refine grow_same (v := .pointer (some ⟨gC, j * 2 + 1, none⟩)) ?_ ?_
    exact x_field (q := .pointer (some ⟨gC, j * 2, none⟩)) 96 (.tmp 155) 1 (by rfl) (by rfl) (by exact fa_c1 _ _ _)
    rfl
  intro wb kb hn8
  obtain ⟨rfl, rfl, rfl, rfl, rfl, rfl, rfl, rfl, rfl, rfl, rfl, rfl, rfl, rfl, rfl, rfl, rfl, rfl, rfl, rfl, rfl, -⟩ := hn8
  have E9 := kb.cell hkb.1 id
  have F9 := (kb.frozen hkb.1 id).trans hkb.2
  have X9 := Lib.hid ((X9a.out.up kb).ride Hi9.out (car := ((j : Int) + 1)) rfl hKj hCe (placeM fb fa (loopM (setM m fb fa []) ⟨1, (-1), fb, fa, tb, ta, ((j : Int) + 1), rk⟩).rack))
  have G9 := Lib.hid ((X9a.out.up kb).ride_chg hCe (j * 2 + 1) (.int .i64 (placeM fb fa (loopM (setM m fb fa []) ⟨1, (-1), fb, fa, tb, ta, ((j : Int) + 1), rk⟩).rack)))
  clear HK hkb hkh hp1 d0 d1 d2 d3 d4 d5 d6 d7
  simp only [List.length_cons, List.length_nil, List.drop_succ_cons, List.drop_zero, Nat.zero_add]
  go_wp2
  go_ret
  refine ⟨rfl, ?_, Chg.trans G0.out (Chg.trans (Chg.of_up kb) (G9.out.mono fun b _ hb => hb.1.1))⟩
  have := (X9.out.mono (T := S) (fun b _ hb => hb.1.1)).mach
  have hbe : behindM (loopM (setM m fb fa []) ⟨1, (-1), fb, fa, tb, ta, ((j : Int) + 1), rk⟩) ⟨1, (-1), fb, fa, tb, ta, ((j : Int) + 1), rk⟩ = placeM fb fa (loopM (setM m fb fa []) ⟨1, (-1), fb, fa, tb, ta, ((j : Int) + 1), rk⟩).rack := Int.add_zero _
  rw [← hbe] at this ⊢
  exact this
theorem execute_tuckL (w : World) {S : Nat → Prop} {K p : Nat} {m : MachM} {F B C L D : Value} {fs bs : List Value} (h : MachX w S K p m F B C L D fs bs) (hS : NewIn S w) (hi : MInv m) (fb fa tb ta rk : Int) (j : Nat) (hx : okOp m.wd ⟨2, (-1), fb, fa, tb, ta, ((j : Int) + 1), rk⟩) (h0 : codeM m ⟨2, (-1), fb, fa, tb, ta, ((j : Int) + 1), rk⟩ = 0) :
    Calls Tryz.prog 69 #[.pointer (some ⟨p, 0, none⟩), .agg #[.int .i64 2, .int .i64 (-1), .int .i64 fb, .int .i64 fa, .int .i64 tb, .int .i64 ta, .int .i64 ((j : Int) + 1), .int .i64 rk]] w fun e w' => e = .returned (.int .i64 0) ∧ Mach w' S K p (execM m ⟨2, (-1), fb, fa, tb, ta, ((j : Int) + 1), rk⟩) ∧ Chg S w w' := by
  obtain ⟨hx1, hx2, hx3⟩ := hx
  have hv := valid_cases hx1
  dsimp only at hx2 hx3 hv
  have hwd := hi.wd
  have hrk := hi.rack
  have cz := code_zero h0
  dsimp only at cz
  have HX := Lib.hid (show okOp m.wd ⟨2, (-1), fb, fa, tb, ta, ((j : Int) + 1), rk⟩ from ⟨hx1, hx2, hx3⟩)
  clear hx1
  have H0 := Lib.hid h0
  clear h0
  have Hi := Lib.hid hi
  have HS := Lib.hid hS
  have HX2 := Lib.hid (h.mono (T := (fun b => S b ∧ b ≠ w.heap.size)) (fun b hb hs => ⟨hs, Nat.ne_of_lt hb⟩))
  have hn1 : okN m fb fa := ⟨by omega, by omega, by omega⟩
  have hnl := cz.2.1 (by decide)
  have hnl2 := hi.nl
  have hl4 := cz.2.2.1 rfl
  have hl5 := (hi.on_ fb fa).1
  have X := Lib.hid (HX2.out)
  have U := Lib.hid ((Chg.refl Nowhere w))
  clear h hi hS HX2
  replace X := Lib.hid (X.out.up ((Chg.refl Nowhere w).alloc (.cells #[.int .i64 2, .int .i64 (-1), .int .i64 fb, .int .i64 fa, .int .i64 tb, .int .i64 ta, .int .i64 ((j : Int) + 1), .int .i64 rk] 44)))
  replace U := Lib.hid (Chg.trans U.out ((Chg.refl Nowhere w).alloc (.cells #[.int .i64 2, .int .i64 (-1), .int .i64 fb, .int .i64 fa, .int .i64 tb, .int .i64 ta, .int .i64 ((j : Int) + 1), .int .i64 rk] 44)))
  obtain ⟨b0, b1, b2, b3, b4, b5, b6, b7⟩ := box8 w (.int .i64 2) (.int .i64 (-1)) (.int .i64 fb) (.int .i64 fa) (.int .i64 tb) (.int .i64 ta) (.int .i64 ((j : Int) + 1)) (.int .i64 rk) 44
  have hbx13 : w.heap.size < (w.alloc (.cells #[.int .i64 2, .int .i64 (-1), .int .i64 fb, .int .i64 fa, .int .i64 tb, .int .i64 ta, .int .i64 ((j : Int) + 1), .int .i64 rk] 44)).heap.size := by simp
  have HS2 := Lib.hid ((fun b hb => by have h1 : w.heap.size + 1 ≤ b := (by simpa [NewIn] using hb); exact ⟨HS.out b (by omega), by omega⟩) : NewIn (fun b => S b ∧ b ≠ w.heap.size) (w.alloc (.cells #[.int .i64 2, .int .i64 (-1), .int .i64 fb, .int .i64 fa, .int .i64 tb, .int .i64 ta, .int .i64 ((j : Int) + 1), .int .i64 rk] 44)))
  have hlb : w.heap.size < (w.alloc (.cells #[.int .i64 2, .int .i64 (-1), .int .i64 fb, .int .i64 fa, .int .i64 tb, .int .i64 ta, .int .i64 ((j : Int) + 1), .int .i64 rk] 44)).heap.size := by simp
  go_enter Tryz.func69, Tryz.ntmps69
  go_wp2_with fail
  refine (opCode_0 _ X.out Hi.out _ HX.out H0.out).mono ?_
  rintro e w14 ⟨rfl, g1⟩
  have G1 := Lib.hid g1
  have hz14 := G1.out.size
  clear g1
  replace X := Lib.hid (X.out.up (tt G1.out))
  replace U := Lib.hid (Chg.trans U.out (tt G1.out))
  have hh := cc8 (tt G1.out) b0 b1 b2 b3 b4 b5 b6 b7
  clear b0 b1 b2 b3 b4 b5 b6 b7
  obtain ⟨b0, b1, b2, b3, b4, b5, b6, b7⟩ := hh
  clear G1
  have hz6 := U.out.size
  have HSn := Lib.hid ((fun b hb => ⟨HS.out b (by omega), by omega⟩) : NewIn (fun b => S b ∧ b ≠ w.heap.size) w14)
  go_wp2_with fail
  refine (loop_any _ X.out HSn.out Hi.out 2 (-1) fb fa tb ta ((j : Int) + 1) rk hn1 (by omega) (by omega) (fun _ => False) _ [] (Ints.nil _ _ 0 none (by omega)) (fun b _ e _ => e) (by simp)).mono ?_
  rintro e w9 ⟨rfl, hm9, g9⟩
  obtain ⟨F9, B9, C9, L9, D9, fs9, bs9, x9⟩ := hm9
  have X9a := Lib.hid x9
  have G0 := Lib.hid (Chg.trans (Chg.of_up U.out) (g9.mono fun b _ hb => hb.1) : Chg S w w9)
  have d0 := g9.cell b0 (fun h => h.2 rfl)
  clear b0
  have d1 := g9.cell b1 (fun h => h.2 rfl)
  clear b1
  have d2 := g9.cell b2 (fun h => h.2 rfl)
  clear b2
  have d3 := g9.cell b3 (fun h => h.2 rfl)
  clear b3
  have d4 := g9.cell b4 (fun h => h.2 rfl)
  clear b4
  have d5 := g9.cell b5 (fun h => h.2 rfl)
  clear b5
  have d6 := g9.cell b6 (fun h => h.2 rfl)
  clear b6
  have d7 := g9.cell b7 (fun h => h.2 rfl)
  clear b7
  clear x9 g9
  have Hi9 := Lib.hid (Hi.out.loop (o := ⟨2, (-1), fb, fa, tb, ta, ((j : Int) + 1), rk⟩) (by dsimp only; omega) (by omega) : MInv (loopM m ⟨2, (-1), fb, fa, tb, ta, ((j : Int) + 1), rk⟩))
  obtain ⟨gC, jc, cC, hK, hCe⟩ := X9a.out.car Hi9.out (car := ((j : Int) + 1)) (by omega)
  obtain rfl : j = jc := by have := hK.ec; omega
  have hKj := hK.jl
  have hp1 := X9a.out.c1.1
  have HK := Lib.hid hK
  have hkh := hK.hdr.1
  have hkb := hK.b
  clear hK
  have hrk1 : -3 ≤ (loopM m ⟨2, (-1), fb, fa, tb, ta, ((j : Int) + 1), rk⟩).rack ∧ (loopM m ⟨2, (-1), fb, fa, tb, ta, ((j : Int) + 1), rk⟩).rack ≤ 3 := Hi9.out.rack
  have hpl := placeM_bd (b := fb) (a := fa) (r := (loopM m ⟨2, (-1), fb, fa, tb, ta, ((j : Int) + 1), rk⟩).rack) (by omega) hrk1
  go_wp2_with fail
  refine (makesLoop_b _ 2 true (by decide)).mono ?_
  rintro e w' ⟨rfl, rfl⟩
  go_wp2
  refine wp_region_l 157 (Nowhere) 21 [kon (.pointer (some ⟨p, 0, none⟩)), kon (.pointer (some ⟨p, 0, none⟩)), kon (.pointer (some ⟨p, 4, none⟩)), kon (.slice (some ⟨gC, 0, none⟩) 4 cC), kon (.pointer (some ⟨w.heap.size, 6, none⟩)), kon (.int .i64 ((j : Int) + 1)), kon (.int .i64 (j : Int)), kon (.pointer (some ⟨w.heap.size, 2, none⟩)), kon (.agg #[.int .i64 fb, .int .i64 fa]), kon (.pointer (some ⟨p, 0, none⟩)), kon (.pointer (some ⟨p, 0, none⟩)), kon (.pointer (some ⟨p, 1, none⟩)), kon (.int .i64 (loopM m ⟨2, (-1), fb, fa, tb, ta, ((j : Int) + 1), rk⟩).rack), kon (.int .i64 (placeM fb fa (loopM m ⟨2, (-1), fb, fa, tb, ta, ((j : Int) + 1), rk⟩).rack)), kon (.pointer (some ⟨w.heap.size, 1, none⟩)), kon (.int .i64 (-1)), kon (.int .i64 0), kon (.int .i64 0), kon (.int .i64 (placeM fb fa (loopM m ⟨2, (-1), fb, fa, tb, ta, ((j : Int) + 1), rk⟩).rack + 0)), kon (.pointer (some ⟨gC, j * 2, none⟩)), kon (.pointer (some ⟨gC, j * 2 + 1, none⟩))] [(0, 136, []), (1, 137, [0]), (2, 138, [1]), (3, 139, [2]), (4, 140, []), (5, 141, [4]), (6, 142, [5]), (7, 143, []), (8, 144, [7]), (9, 145, []), (10, 146, [9]), (11, 147, [10]), (12, 148, [11]), (13, 149, [8, 12]), (14, 150, []), (15, 151, [14]), (16, 152, [15]), (17, 153, [16]), (18, 154, [13, 17]), (19, 155, [3, 6, 0, 1, 2, 3, 4, 5, 6, 7, 8, 9, 10, 11, 12, 13, 14, 15, 16, 17, 18]), (20, 156, [19, 0, 1, 2, 3, 4, 5, 6, 7, 8, 9, 10, 11, 12, 13, 14, 15, 16, 17, 18])] (by kernel_rfl) (by kernel_rfl) (by kernel_rfl) rfl ?_ ?_ ?_
  · exact ⟨(keeps_kon _), ⟨(keeps_kon _), ⟨(keeps_kon _), ⟨(keeps_kon _), ⟨(keeps_kon _), ⟨(keeps_kon _), ⟨(keeps_kon _), ⟨(keeps_kon _), ⟨(keeps_kon _), ⟨(keeps_kon _), ⟨(keeps_kon _), ⟨(keeps_kon _), ⟨(keeps_kon _), ⟨(keeps_kon _), ⟨(keeps_kon _), ⟨(keeps_kon _), ⟨(keeps_kon _), ⟨(keeps_kon _), ⟨(keeps_kon _), ⟨(keeps_kon _), ⟨(keeps_kon _), trivial⟩⟩⟩⟩⟩⟩⟩⟩⟩⟩⟩⟩⟩⟩⟩⟩⟩⟩⟩⟩⟩
  · exact allBut_none 0 ⟨(keeps_kon _), ⟨(keeps_kon _), ⟨(keeps_kon _), ⟨(keeps_kon _), ⟨(keeps_kon _), ⟨(keeps_kon _), ⟨(keeps_kon _), ⟨(keeps_kon _), ⟨(keeps_kon _), ⟨(keeps_kon _), ⟨(keeps_kon _), ⟨(keeps_kon _), ⟨(keeps_kon _), ⟨(keeps_kon _), ⟨(keeps_kon _), ⟨(keeps_kon _), ⟨(keeps_kon _), ⟨(keeps_kon _), ⟨(keeps_kon _), ⟨(keeps_kon _), ⟨(keeps_kon _), trivial⟩⟩⟩⟩⟩⟩⟩⟩⟩⟩⟩⟩⟩⟩⟩⟩⟩⟩⟩⟩⟩
  refine ⟨fun w1 hc _ hn => ?_, fun v0 => ?_⟩
  · refine grow_same (v := .pointer (some ⟨p, 0, none⟩)) ?_ ?_
    exact x_move (.tmp 0) rfl rfl
    rfl
  refine ⟨fun w1 hc _ hn => ?_, fun v1 => ?_⟩
  · obtain rfl : (.pointer (some ⟨p, 0, none⟩) : Value) = v0 := Eq.symm hn.1
    refine grow_same (v := .pointer (some ⟨p, 0, none⟩)) ?_ ?_
    exact x_nil (p := ⟨p, 0, none⟩) (.tmp 136) rfl rfl
    rfl
  refine ⟨fun w1 hc _ hn => ?_, fun v2 => ?_⟩
  · obtain rfl : (.pointer (some ⟨p, 0, none⟩) : Value) = v1 := Eq.symm hn.1
    refine grow_same (v := .pointer (some ⟨p, 4, none⟩)) ?_ ?_
    exact x_field (q := .pointer (some ⟨p, 0, none⟩)) 60 (.tmp 137) 4 (by rfl) (by rfl) (by exact fa_m4 _ _)
    rfl
  refine ⟨fun w1 hc _ hn => ?_, fun v3 => ?_⟩
  · obtain rfl : (.pointer (some ⟨p, 4, none⟩) : Value) = v2 := Eq.symm hn.1
    refine grow_same (v := .slice (some ⟨gC, 0, none⟩) 4 cC) ?_ ?_
    exact x_load (q := .pointer (some ⟨p, 4, none⟩)) 57 (.tmp 138) (by rfl) (by rfl) (by exact ld_cars _ _ _ (hc.cell hkh id))
    rfl
  refine ⟨fun w1 hc _ hn => ?_, fun v4 => ?_⟩
  · refine grow_same (v := .pointer (some ⟨w.heap.size, 6, none⟩)) ?_ ?_
    exact x_field (q := .pointer (some ⟨w.heap.size, 0, none⟩)) 44 (.tmp 3) 4 (by rfl) (by rfl) (by exact fa_o4 _ _ _)
    rfl
  refine ⟨fun w1 hc _ hn => ?_, fun v5 => ?_⟩
  · obtain rfl : (.pointer (some ⟨w.heap.size, 6, none⟩) : Value) = v4 := Eq.symm hn.1
    refine grow_same (v := .int .i64 ((j : Int) + 1)) ?_ ?_
    exact x_load (q := .pointer (some ⟨w.heap.size, 6, none⟩)) 2 (.tmp 140) (by rfl) (by rfl) (by exact ld_int _ _ _ (hc.cell d6 id))
    rfl
  refine ⟨fun w1 hc _ hn => ?_, fun v6 => ?_⟩
  · obtain rfl : (.int .i64 ((j : Int) + 1) : Value) = v5 := Eq.symm hn.1
    exact grow_same (v := .int .i64 (j : Int)) (x_subc (.tmp 141) (.const (.int .i64 1)) (by rfl) (a := ((j : Int) + 1)) (b := 1) (by rfl) (by rfl) (by omega) (by omega)) rfl
  refine ⟨fun w1 hc _ hn => ?_, fun v7 => ?_⟩
  · refine grow_same (v := .pointer (some ⟨w.heap.size, 2, none⟩)) ?_ ?_
    exact x_field (q := .pointer (some ⟨w.heap.size, 0, none⟩)) 44 (.tmp 3) 2 (by rfl) (by rfl) (by exact fa_o2 _ _ _)
    rfl
  refine ⟨fun w1 hc _ hn => ?_, fun v8 => ?_⟩
  · obtain rfl : (.pointer (some ⟨w.heap.size, 2, none⟩) : Value) = v7 := Eq.symm hn.1
    refine grow_same (v := .agg #[.int .i64 fb, .int .i64 fa]) ?_ ?_
    exact x_load (q := .pointer (some ⟨w.heap.size, 2, none⟩)) 42 (.tmp 143) (by rfl) (by rfl) (by exact ld_needle _ _ _ _ _ (hc.cell d2 id) (hc.cell d3 id))
    rfl
  refine ⟨fun w1 hc _ hn => ?_, fun v9 => ?_⟩
  · refine grow_same (v := .pointer (some ⟨p, 0, none⟩)) ?_ ?_
    exact x_move (.tmp 0) rfl rfl
    rfl
  refine ⟨fun w1 hc _ hn => ?_, fun v10 => ?_⟩
  · obtain rfl : (.pointer (some ⟨p, 0, none⟩) : Value) = v9 := Eq.symm hn.1
    refine grow_same (v := .pointer (some ⟨p, 0, none⟩)) ?_ ?_
    exact x_nil (p := ⟨p, 0, none⟩) (.tmp 145) rfl rfl
    rfl
  refine ⟨fun w1 hc _ hn => ?_, fun v11 => ?_⟩
  · obtain rfl : (.pointer (some ⟨p, 0, none⟩) : Value) = v10 := Eq.symm hn.1
    refine grow_same (v := .pointer (some ⟨p, 1, none⟩)) ?_ ?_
    exact x_field (q := .pointer (some ⟨p, 0, none⟩)) 60 (.tmp 146) 1 (by rfl) (by rfl) (by exact fa_m1 _ _)
    rfl
  refine ⟨fun w1 hc _ hn => ?_, fun v12 => ?_⟩
  · obtain rfl : (.pointer (some ⟨p, 1, none⟩) : Value) = v11 := Eq.symm hn.1
    refine grow_same (v := .int .i64 (loopM m ⟨2, (-1), fb, fa, tb, ta, ((j : Int) + 1), rk⟩).rack) ?_ ?_
    exact x_load (q := .pointer (some ⟨p, 1, none⟩)) 2 (.tmp 147) (by rfl) (by rfl) (by exact ld_int _ _ _ (hc.cell hp1 id))
    rfl
  refine ⟨fun w1 hc _ hn => ?_, fun v13 => ?_⟩
  · obtain rfl : (.agg #[.int .i64 fb, .int .i64 fa] : Value) = v8 := Eq.symm hn.1
    obtain rfl : (.int .i64 (loopM m ⟨2, (-1), fb, fa, tb, ta, ((j : Int) + 1), rk⟩).rack : Value) = v12 := Eq.symm hn.2.1
    refine grow_call (f := 85) (args := #[.agg #[.int .i64 fb, .int .i64 fa], .int .i64 (loopM m ⟨2, (-1), fb, fa, tb, ta, ((j : Int) + 1), rk⟩).rack]) (x_call #[.tmp 144, .tmp 148] #[42, 2] Tryz.func85 (by rfl) (by rfl) (by rfl) (by rfl) (by simp only [List.map_toArray, List.map_cons, List.map_nil]; rfl)) ?_
    refine (place_any w1 fb fa _ (by omega) (by omega)).mono ?_
    rintro e w' ⟨rfl, g1⟩
    exact ⟨_, rfl, rg_up g1, rfl⟩
  refine ⟨fun w1 hc _ hn => ?_, fun v14 => ?_⟩
  · refine grow_same (v := .pointer (some ⟨w.heap.size, 1, none⟩)) ?_ ?_
    exact x_field (q := .pointer (some ⟨w.heap.size, 0, none⟩)) 44 (.tmp 3) 1 (by rfl) (by rfl) (by exact fa_o1 _ _ _)
    rfl
  refine ⟨fun w1 hc _ hn => ?_, fun v15 => ?_⟩
  · obtain rfl : (.pointer (some ⟨w.heap.size, 1, none⟩) : Value) = v14 := Eq.symm hn.1
    refine grow_same (v := .int .i64 (-1)) ?_ ?_
    exact x_load (q := .pointer (some ⟨w.heap.size, 1, none⟩)) 2 (.tmp 150) (by rfl) (by rfl) (by exact ld_int _ _ _ (hc.cell d1 id))
    rfl
  refine ⟨fun w1 hc _ hn => ?_, fun v16 => ?_⟩
  · obtain rfl : (.int .i64 (-1) : Value) = v15 := Eq.symm hn.1
    exact grow_same (v := .int .i64 0) (x_add (.tmp 151) (.const (.int .i64 1)) (by rfl) (a := (-1)) (b := 1) (by rfl) (by rfl) (by omega)) rfl
  refine ⟨fun w1 hc _ hn => ?_, fun v17 => ?_⟩
  · obtain rfl : (.int .i64 0 : Value) = v16 := Eq.symm hn.1
    exact grow_same (v := .int .i64 0) (x_quo (.tmp 152) (.const (.int .i64 2)) (by rfl) (a := 0) (b := 2) (by rfl) (by rfl) (by decide) (by decide)) rfl
  refine ⟨fun w1 hc _ hn => ?_, fun v18 => ?_⟩
  · obtain rfl : (.int .i64 (placeM fb fa (loopM m ⟨2, (-1), fb, fa, tb, ta, ((j : Int) + 1), rk⟩).rack) : Value) = v13 := Eq.symm hn.1
    obtain rfl : (.int .i64 0 : Value) = v17 := Eq.symm hn.2.1
    refine grow_same (v := .int .i64 (placeM fb fa (loopM m ⟨2, (-1), fb, fa, tb, ta, ((j : Int) + 1), rk⟩).rack + 0)) ?_ ?_
    exact x_add (.tmp 149) (.tmp 153) (by rfl) (a := placeM fb fa (loopM m ⟨2, (-1), fb, fa, tb, ta, ((j : Int) + 1), rk⟩).rack) (b := 0) (by rfl) (by rfl) (by omega)
    rfl
  refine ⟨fun w1 hc _ hn => ?_, fun v19 => ?_⟩
  · obtain rfl : (.slice (some ⟨gC, 0, none⟩) 4 cC : Value) = v3 := Eq.symm hn.1
    obtain rfl : (.int .i64 (j : Int) : Value) = v6 := Eq.symm hn.2.1
    refine grow_same (v := .pointer (some ⟨gC, j * 2, none⟩)) ?_ ?_
    exact x_ixa 57 (.tmp 139) (.tmp 142) (by rfl) (u1 := .slice (some ⟨gC, 0, none⟩) 4 cC) (u2 := .int .i64 (j : Int)) (by rfl) (by rfl) (by exact ixa_car _ _ _ _ hKj _)
    rfl
  refine ⟨fun w1 hc _ hn => ?_, fun v20 => ?_⟩
  · obtain rfl : (.pointer (some ⟨gC, j * 2, none⟩) : Value) = v19 := Eq.symm hn.1
    refine grow_same (v := .pointer (some ⟨gC, j * 2 + 1, none⟩)) ?_ ?_
    exact x_field (q := .pointer (some ⟨gC, j * 2, none⟩)) 96 (.tmp 155) 1 (by rfl) (by rfl) (by exact fa_c1 _ _ _)
    rfl
  intro wb kb hn8
  obtain ⟨rfl, rfl, rfl, rfl, rfl, rfl, rfl, rfl, rfl, rfl, rfl, rfl, rfl, rfl, rfl, rfl, rfl, rfl, rfl, rfl, rfl, -⟩ := hn8
  have E9 := kb.cell hkb.1 id
  have F9 := (kb.frozen hkb.1 id).trans hkb.2
  have X9 := Lib.hid ((X9a.out.up kb).ride Hi9.out (car := ((j : Int) + 1)) rfl hKj hCe (placeM fb fa (loopM m ⟨2, (-1), fb, fa, tb, ta, ((j : Int) + 1), rk⟩).rack))
  have G9 := Lib.hid ((X9a.out.up kb).ride_chg hCe (j * 2 + 1) (.int .i64 (placeM fb fa (loopM m ⟨2, (-1), fb, fa, tb, ta, ((j : Int) + 1), rk⟩).rack)))
  clear HK hkb hkh hp1 d0 d1 d2 d3 d4 d5 d6 d7
  simp only [List.length_cons, List.length_nil, List.drop_succ_cons, List.drop_zero, Nat.zero_add]
  go_wp2
  go_ret
  refine ⟨rfl, ?_, Chg.trans G0.out (Chg.trans (Chg.of_up kb) (G9.out.mono fun b _ hb => hb.1))⟩
  have := (X9.out.mono (T := S) (fun b _ hb => hb.1)).mach
  have hbe : behindM (loopM m ⟨2, (-1), fb, fa, tb, ta, ((j : Int) + 1), rk⟩) ⟨2, (-1), fb, fa, tb, ta, ((j : Int) + 1), rk⟩ = placeM fb fa (loopM m ⟨2, (-1), fb, fa, tb, ta, ((j : Int) + 1), rk⟩).rack := Int.add_zero _
  rw [← hbe] at this ⊢
  exact this
theorem execute_missL (w : World) {S : Nat → Prop} {K p : Nat} {m : MachM} {F B C L D : Value} {fs bs : List Value} (h : MachX w S K p m F B C L D fs bs) (hS : NewIn S w) (hi : MInv m) (fb fa tb ta rk : Int) (j : Nat) (hx : okOp m.wd ⟨3, (-1), fb, fa, tb, ta, ((j : Int) + 1), rk⟩) (h0 : codeM m ⟨3, (-1), fb, fa, tb, ta, ((j : Int) + 1), rk⟩ = 0) :
    Calls Tryz.prog 69 #[.pointer (some ⟨p, 0, none⟩), .agg #[.int .i64 3, .int .i64 (-1), .int .i64 fb, .int .i64 fa, .int .i64 tb, .int .i64 ta, .int .i64 ((j : Int) + 1), .int .i64 rk]] w fun e w' => e = .returned (.int .i64 0) ∧ Mach w' S K p (execM m ⟨3, (-1), fb, fa, tb, ta, ((j : Int) + 1), rk⟩) ∧ Chg S w w' := by
  obtain ⟨hx1, hx2, hx3⟩ := hx
  have hv := valid_cases hx1
  dsimp only at hx2 hx3 hv
  have hwd := hi.wd
  have hrk := hi.rack
  have cz := code_zero h0
  dsimp only at cz
  have HX := Lib.hid (show okOp m.wd ⟨3, (-1), fb, fa, tb, ta, ((j : Int) + 1), rk⟩ from ⟨hx1, hx2, hx3⟩)
  clear hx1
  have H0 := Lib.hid h0
  clear h0
  have Hi := Lib.hid hi
  have HS := Lib.hid hS
  have HX2 := Lib.hid (h.mono (T := (fun b => S b ∧ b ≠ w.heap.size)) (fun b hb hs => ⟨hs, Nat.ne_of_lt hb⟩))
  have hn1 : okN m fb fa := ⟨by omega, by omega, by omega⟩
  have X := Lib.hid (HX2.out)
  have U := Lib.hid ((Chg.refl Nowhere w))
  clear h hi hS HX2
  replace X := Lib.hid (X.out.up ((Chg.refl Nowhere w).alloc (.cells #[.int .i64 3, .int .i64 (-1), .int .i64 fb, .int .i64 fa, .int .i64 tb, .int .i64 ta, .int .i64 ((j : Int) + 1), .int .i64 rk] 44)))
  replace U := Lib.hid (Chg.trans U.out ((Chg.refl Nowhere w).alloc (.cells #[.int .i64 3, .int .i64 (-1), .int .i64 fb, .int .i64 fa, .int .i64 tb, .int .i64 ta, .int .i64 ((j : Int) + 1), .int .i64 rk] 44)))
  obtain ⟨b0, b1, b2, b3, b4, b5, b6, b7⟩ := box8 w (.int .i64 3) (.int .i64 (-1)) (.int .i64 fb) (.int .i64 fa) (.int .i64 tb) (.int .i64 ta) (.int .i64 ((j : Int) + 1)) (.int .i64 rk) 44
  have hbx13 : w.heap.size < (w.alloc (.cells #[.int .i64 3, .int .i64 (-1), .int .i64 fb, .int .i64 fa, .int .i64 tb, .int .i64 ta, .int .i64 ((j : Int) + 1), .int .i64 rk] 44)).heap.size := by simp
  have HS2 := Lib.hid ((fun b hb => by have h1 : w.heap.size + 1 ≤ b := (by simpa [NewIn] using hb); exact ⟨HS.out b (by omega), by omega⟩) : NewIn (fun b => S b ∧ b ≠ w.heap.size) (w.alloc (.cells #[.int .i64 3, .int .i64 (-1), .int .i64 fb, .int .i64 fa, .int .i64 tb, .int .i64 ta, .int .i64 ((j : Int) + 1), .int .i64 rk] 44)))
  have hlb : w.heap.size < (w.alloc (.cells #[.int .i64 3, .int .i64 (-1), .int .i64 fb, .int .i64 fa, .int .i64 tb, .int .i64 ta, .int .i64 ((j : Int) + 1), .int .i64 rk] 44)).heap.size := by simp
  go_enter Tryz.func69, Tryz.ntmps69
  go_wp2_with fail
  refine (opCode_0 _ X.out Hi.out _ HX.out H0.out).mono ?_
  rintro e w14 ⟨rfl, g1⟩
  have G1 := Lib.hid g1
  have hz14 := G1.out.size
  clear g1
  replace X := Lib.hid (X.out.up (tt G1.out))
  replace U := Lib.hid (Chg.trans U.out (tt G1.out))
  have hh := cc8 (tt G1.out) b0 b1 b2 b3 b4 b5 b6 b7
  clear b0 b1 b2 b3 b4 b5 b6 b7
  obtain ⟨b0, b1, b2, b3, b4, b5, b6, b7⟩ := hh
  clear G1
  have G0 := Lib.hid (Chg.of_up U.out : Chg S w w14)
  have d0 := b0
  clear b0
  have d1 := b1
  clear b1
  have d2 := b2
  clear b2
  have d3 := b3
  clear b3
  have d4 := b4
  clear b4
  have d5 := b5
  clear b5
  have d6 := b6
  clear b6
  have d7 := b7
  clear b7
  obtain ⟨gC, jc, cC, hK, hCe⟩ := X.out.car Hi.out (car := ((j : Int) + 1)) (by omega)
  obtain rfl : j = jc := by have := hK.ec; omega
  have hKj := hK.jl
  have hp1 := X.out.c1.1
  have HK := Lib.hid hK
  have hkh := hK.hdr.1
  have hkb := hK.b
  clear hK
  have hrk1 : -3 ≤ (m).rack ∧ (m).rack ≤ 3 := Hi.out.rack
  have hpl := placeM_bd (b := fb) (a := fa) (r := (m).rack) (by omega) hrk1
  go_wp2_with fail
  refine (makesLoop_b _ 3 false (by decide)).mono ?_
  rintro e w' ⟨rfl, rfl⟩
  go_wp2
  refine wp_region_l 157 (Nowhere) 21 [kon (.pointer (some ⟨p, 0, none⟩)), kon (.pointer (some ⟨p, 0, none⟩)), kon (.pointer (some ⟨p, 4, none⟩)), kon (.slice (some ⟨gC, 0, none⟩) 4 cC), kon (.pointer (some ⟨w.heap.size, 6, none⟩)), kon (.int .i64 ((j : Int) + 1)), kon (.int .i64 (j : Int)), kon (.pointer (some ⟨w.heap.size, 2, none⟩)), kon (.agg #[.int .i64 fb, .int .i64 fa]), kon (.pointer (some ⟨p, 0, none⟩)), kon (.pointer (some ⟨p, 0, none⟩)), kon (.pointer (some ⟨p, 1, none⟩)), kon (.int .i64 (m).rack), kon (.int .i64 (placeM fb fa (m).rack)), kon (.pointer (some ⟨w.heap.size, 1, none⟩)), kon (.int .i64 (-1)), kon (.int .i64 0), kon (.int .i64 0), kon (.int .i64 (placeM fb fa (m).rack + 0)), kon (.pointer (some ⟨gC, j * 2, none⟩)), kon (.pointer (some ⟨gC, j * 2 + 1, none⟩))] [(0, 136, []), (1, 137, [0]), (2, 138, [1]), (3, 139, [2]), (4, 140, []), (5, 141, [4]), (6, 142, [5]), (7, 143, []), (8, 144, [7]), (9, 145, []), (10, 146, [9]), (11, 147, [10]), (12, 148, [11]), (13, 149, [8, 12]), (14, 150, []), (15, 151, [14]), (16, 152, [15]), (17, 153, [16]), (18, 154, [13, 17]), (19, 155, [3, 6, 0, 1, 2, 3, 4, 5, 6, 7, 8, 9, 10, 11, 12, 13, 14, 15, 16, 17, 18]), (20, 156, [19, 0, 1, 2, 3, 4, 5, 6, 7, 8, 9, 10, 11, 12, 13, 14, 15, 16, 17, 18])] (by kernel_rfl) (by kernel_rfl) (by kernel_rfl) rfl ?_ ?_ ?_
  · exact ⟨(keeps_kon _), ⟨(keeps_kon _), ⟨(keeps_kon _), ⟨(keeps_kon _), ⟨(keeps_kon _), ⟨(keeps_kon _), ⟨(keeps_kon _), ⟨(keeps_kon _), ⟨(keeps_kon _), ⟨(keeps_kon _), ⟨(keeps_kon _), ⟨(keeps_kon _), ⟨(keeps_kon _), ⟨(keeps_kon _), ⟨(keeps_kon _), ⟨(keeps_kon _), ⟨(keeps_kon _), ⟨(keeps_kon _), ⟨(keeps_kon _), ⟨(keeps_kon _), ⟨(keeps_kon _), trivial⟩⟩⟩⟩⟩⟩⟩⟩⟩⟩⟩⟩⟩⟩⟩⟩⟩⟩⟩⟩⟩
  · exact allBut_none 0 ⟨(keeps_kon _), ⟨(keeps_kon _), ⟨(keeps_kon _), ⟨(keeps_kon _), ⟨(keeps_kon _), ⟨(keeps_kon _), ⟨(keeps_kon _), ⟨(keeps_kon _), ⟨(keeps_kon _), ⟨(keeps_kon _), ⟨(keeps_kon _), ⟨(keeps_kon _), ⟨(keeps_kon _), ⟨(keeps_kon _), ⟨(keeps_kon _), ⟨(keeps_kon _), ⟨(keeps_kon _), ⟨(keeps_kon _), ⟨(keeps_kon _), ⟨(keeps_kon _), ⟨(keeps_kon _), trivial⟩⟩⟩⟩⟩⟩⟩⟩⟩⟩⟩⟩⟩⟩⟩⟩⟩⟩⟩⟩⟩
  refine ⟨fun w1 hc _ hn => ?_, fun v0 => ?_⟩
  · refine grow_same (v := .pointer (some ⟨p, 0, none⟩)) ?_ ?_
    exact x_move (.tmp 0) rfl rfl
    rfl
  refine ⟨fun w1 hc _ hn => ?_, fun v1 => ?_⟩
  · obtain rfl : (.pointer (some ⟨p, 0, none⟩) : Value) = v0 := Eq.symm hn.1
    refine grow_same (v := .pointer (some ⟨p, 0, none⟩)) ?_ ?_
    exact x_nil (p := ⟨p, 0, none⟩) (.tmp 136) rfl rfl
    rfl
  refine ⟨fun w1 hc _ hn => ?_, fun v2 => ?_⟩
  · obtain rfl : (.pointer (some ⟨p, 0, none⟩) : Value) = v1 := Eq.symm hn.1
    refine grow_same (v := .pointer (some ⟨p, 4, none⟩)) ?_ ?_
    exact x_field (q := .pointer (some ⟨p, 0, none⟩)) 60 (.tmp 137) 4 (by rfl) (by rfl) (by exact fa_m4 _ _)
    rfl
  refine ⟨fun w1 hc _ hn => ?_, fun v3 => ?_⟩
  · obtain rfl : (.pointer (some ⟨p, 4, none⟩) : Value) = v2 := Eq.symm hn.1
    refine grow_same (v := .slice (some ⟨gC, 0, none⟩) 4 cC) ?_ ?_
    exact x_load (q := .pointer (some ⟨p, 4, none⟩)) 57 (.tmp 138) (by rfl) (by rfl) (by exact ld_cars _ _ _ (hc.cell hkh id))
    rfl
  refine ⟨fun w1 hc _ hn => ?_, fun v4 => ?_⟩
  · refine grow_same (v := .pointer (some ⟨w.heap.size, 6, none⟩)) ?_ ?_
    exact x_field (q := .pointer (some ⟨w.heap.size, 0, none⟩)) 44 (.tmp 3) 4 (by rfl) (by rfl) (by exact fa_o4 _ _ _)
    rfl
  refine ⟨fun w1 hc _ hn => ?_, fun v5 => ?_⟩
  · obtain rfl : (.pointer (some ⟨w.heap.size, 6, none⟩) : Value) = v4 := Eq.symm hn.1
    refine grow_same (v := .int .i64 ((j : Int) + 1)) ?_ ?_
    exact x_load (q := .pointer (some ⟨w.heap.size, 6, none⟩)) 2 (.tmp 140) (by rfl) (by rfl) (by exact ld_int _ _ _ (hc.cell d6 id))
    rfl
  refine ⟨fun w1 hc _ hn => ?_, fun v6 => ?_⟩
  · obtain rfl : (.int .i64 ((j : Int) + 1) : Value) = v5 := Eq.symm hn.1
    exact grow_same (v := .int .i64 (j : Int)) (x_subc (.tmp 141) (.const (.int .i64 1)) (by rfl) (a := ((j : Int) + 1)) (b := 1) (by rfl) (by rfl) (by omega) (by omega)) rfl
  refine ⟨fun w1 hc _ hn => ?_, fun v7 => ?_⟩
  · refine grow_same (v := .pointer (some ⟨w.heap.size, 2, none⟩)) ?_ ?_
    exact x_field (q := .pointer (some ⟨w.heap.size, 0, none⟩)) 44 (.tmp 3) 2 (by rfl) (by rfl) (by exact fa_o2 _ _ _)
    rfl
  refine ⟨fun w1 hc _ hn => ?_, fun v8 => ?_⟩
  · obtain rfl : (.pointer (some ⟨w.heap.size, 2, none⟩) : Value) = v7 := Eq.symm hn.1
    refine grow_same (v := .agg #[.int .i64 fb, .int .i64 fa]) ?_ ?_
    exact x_load (q := .pointer (some ⟨w.heap.size, 2, none⟩)) 42 (.tmp 143) (by rfl) (by rfl) (by exact ld_needle _ _ _ _ _ (hc.cell d2 id) (hc.cell d3 id))
    rfl
  refine ⟨fun w1 hc _ hn => ?_, fun v9 => ?_⟩
  · refine grow_same (v := .pointer (some ⟨p, 0, none⟩)) ?_ ?_
    exact x_move (.tmp 0) rfl rfl
    rfl
  refine ⟨fun w1 hc _ hn => ?_, fun v10 => ?_⟩
  · obtain rfl : (.pointer (some ⟨p, 0, none⟩) : Value) = v9 := Eq.symm hn.1
    refine grow_same (v := .pointer (some ⟨p, 0, none⟩)) ?_ ?_
    exact x_nil (p := ⟨p, 0, none⟩) (.tmp 145) rfl rfl
    rfl
  refine ⟨fun w1 hc _ hn => ?_, fun v11 => ?_⟩
  · obtain rfl : (.pointer (some ⟨p, 0, none⟩) : Value) = v10 := Eq.symm hn.1
    refine grow_same (v := .pointer (some ⟨p, 1, none⟩)) ?_ ?_
    exact x_field (q := .pointer (some ⟨p, 0, none⟩)) 60 (.tmp 146) 1 (by rfl) (by rfl) (by exact fa_m1 _ _)
    rfl
  refine ⟨fun w1 hc _ hn => ?_, fun v12 => ?_⟩
  · obtain rfl : (.pointer (some ⟨p, 1, none⟩) : Value) = v11 := Eq.symm hn.1
    refine grow_same (v := .int .i64 (m).rack) ?_ ?_
    exact x_load (q := .pointer (some ⟨p, 1, none⟩)) 2 (.tmp 147) (by rfl) (by rfl) (by exact ld_int _ _ _ (hc.cell hp1 id))
    rfl
  refine ⟨fun w1 hc _ hn => ?_, fun v13 => ?_⟩
  · obtain rfl : (.agg #[.int .i64 fb, .int .i64 fa] : Value) = v8 := Eq.symm hn.1
    obtain rfl : (.int .i64 (m).rack : Value) = v12 := Eq.symm hn.2.1
    refine grow_call (f := 85) (args := #[.agg #[.int .i64 fb, .int .i64 fa], .int .i64 (m).rack]) (x_call #[.tmp 144, .tmp 148] #[42, 2] Tryz.func85 (by rfl) (by rfl) (by rfl) (by rfl) (by simp only [List.map_toArray, List.map_cons, List.map_nil]; rfl)) ?_
    refine (place_any w1 fb fa _ (by omega) (by omega)).mono ?_
    rintro e w' ⟨rfl, g1⟩
    exact ⟨_, rfl, rg_up g1, rfl⟩
  refine ⟨fun w1 hc _ hn => ?_, fun v14 => ?_⟩
  · refine grow_same (v := .pointer (some ⟨w.heap.size, 1, none⟩)) ?_ ?_
    exact x_field (q := .pointer (some ⟨w.heap.size, 0, none⟩)) 44 (.tmp 3) 1 (by rfl) (by rfl) (by exact fa_o1 _ _ _)
    rfl
  refine ⟨fun w1 hc _ hn => ?_, fun v15 => ?_⟩
  · obtain rfl : (.pointer (some ⟨w.heap.size, 1, none⟩) : Value) = v14 := Eq.symm hn.1
    refine grow_same (v := .int .i64 (-1)) ?_ ?_
    exact x_load (q := .pointer (some ⟨w.heap.size, 1, none⟩)) 2 (.tmp 150) (by rfl) (by rfl) (by exact ld_int _ _ _ (hc.cell d1 id))
    rfl
  refine ⟨fun w1 hc _ hn => ?_, fun v16 => ?_⟩
  · obtain rfl : (.int .i64 (-1) : Value) = v15 := Eq.symm hn.1
    exact grow_same (v := .int .i64 0) (x_add (.tmp 151) (.const (.int .i64 1)) (by rfl) (a := (-1)) (b := 1) (by rfl) (by rfl) (by omega)) rfl
  refine ⟨fun w1 hc _ hn => ?_, fun v17 => ?_⟩
  · obtain rfl : (.int .i64 0 : Value) = v16 := Eq.symm hn.1
    exact grow_same (v := .int .i64 0) (x_quo (.tmp 152) (.const (.int .i64 2)) (by rfl) (a := 0) (b := 2) (by rfl) (by rfl) (by decide) (by decide)) rfl
  refine ⟨fun w1 hc _ hn => ?_, fun v18 => ?_⟩
  · obtain rfl : (.int .i64 (placeM fb fa (m).rack) : Value) = v13 := Eq.symm hn.1
    obtain rfl : (.int .i64 0 : Value) = v17 := Eq.symm hn.2.1
    refine grow_same (v := .int .i64 (placeM fb fa (m).rack + 0)) ?_ ?_
    exact x_add (.tmp 149) (.tmp 153) (by rfl) (a := placeM fb fa (m).rack) (b := 0) (by rfl) (by rfl) (by omega)
    rfl
  refine ⟨fun w1 hc _ hn => ?_, fun v19 => ?_⟩
  · obtain rfl : (.slice (some ⟨gC, 0, none⟩) 4 cC : Value) = v3 := Eq.symm hn.1
    obtain rfl : (.int .i64 (j : Int) : Value) = v6 := Eq.symm hn.2.1
    refine grow_same (v := .pointer (some ⟨gC, j * 2, none⟩)) ?_ ?_
    exact x_ixa 57 (.tmp 139) (.tmp 142) (by rfl) (u1 := .slice (some ⟨gC, 0, none⟩) 4 cC) (u2 := .int .i64 (j : Int)) (by rfl) (by rfl) (by exact ixa_car _ _ _ _ hKj _)
    rfl
  refine ⟨fun w1 hc _ hn => ?_, fun v20 => ?_⟩
  · obtain rfl : (.pointer (some ⟨gC, j * 2, none⟩) : Value) = v19 := Eq.symm hn.1
    refine grow_same (v := .pointer (some ⟨gC, j * 2 + 1, none⟩)) ?_ ?_
    exact x_field (q := .pointer (some ⟨gC, j * 2, none⟩)) 96 (.tmp 155) 1 (by rfl) (by rfl) (by exact fa_c1 _ _ _)
    rfl
  intro wb kb hn8
  obtain ⟨rfl, rfl, rfl, rfl, rfl, rfl, rfl, rfl, rfl, rfl, rfl, rfl, rfl, rfl, rfl, rfl, rfl, rfl, rfl, rfl, rfl, -⟩ := hn8
  have E9 := kb.cell hkb.1 id
  have F9 := (kb.frozen hkb.1 id).trans hkb.2
  have X9 := Lib.hid ((X.out.up kb).ride Hi.out (car := ((j : Int) + 1)) rfl hKj hCe (placeM fb fa (m).rack))
  have G9 := Lib.hid ((X.out.up kb).ride_chg hCe (j * 2 + 1) (.int .i64 (placeM fb fa (m).rack)))
  clear HK hkb hkh hp1 d0 d1 d2 d3 d4 d5 d6 d7
  simp only [List.length_cons, List.length_nil, List.drop_succ_cons, List.drop_zero, Nat.zero_add]
  go_wp2
  go_ret
  refine ⟨rfl, ?_, Chg.trans G0.out (Chg.trans (Chg.of_up kb) (G9.out.mono fun b _ hb => hb.1))⟩
  have := (X9.out.mono (T := S) (fun b _ hb => hb.1)).mach
  have hbe : behindM (m) ⟨3, (-1), fb, fa, tb, ta, ((j : Int) + 1), rk⟩ = placeM fb fa (m).rack := Int.add_zero _
  rw [← hbe] at this ⊢
  exact this
theorem execute_xfer12 (w : World) {S : Nat → Prop} {K p : Nat} {m : MachM} {F B C L D : Value} {fs bs : List Value} (h : MachX w S K p m F B C L D fs bs) (hS : NewIn S w) (hi : MInv m) (fb fa tb ta rk : Int) (j : Nat) (hx : okOp m.wd ⟨4, 0, 1, fa, 2, ta, 0, 0⟩) (h0 : codeM m ⟨4, 0, 1, fa, 2, ta, 0, 0⟩ = 0) :
    Calls Tryz.prog 69 #[.pointer (some ⟨p, 0, none⟩), .agg #[.int .i64 4, .int .i64 0, .int .i64 1, .int .i64 fa, .int .i64 2, .int .i64 ta, .int .i64 0, .int .i64 0]] w fun e w' => e = .returned (.int .i64 0) ∧ Mach w' S K p (execM m ⟨4, 0, 1, fa, 2, ta, 0, 0⟩) ∧ Chg S w w' := by
  obtain ⟨hx1, hx2, hx3⟩ := hx
  have hv := valid_cases hx1
  dsimp only at hx2 hx3 hv
  have hwd := hi.wd
  have hrk := hi.rack
  have cz := code_zero h0
  dsimp only at cz
  have HX := Lib.hid (show okOp m.wd ⟨4, 0, 1, fa, 2, ta, 0, 0⟩ from ⟨hx1, hx2, hx3⟩)
  clear hx1
  have H0 := Lib.hid h0
  clear h0
  have Hi := Lib.hid hi
  have HS := Lib.hid hS
  have HX2 := Lib.hid (h.mono (T := (fun b => S b ∧ b ≠ w.heap.size)) (fun b hb hs => ⟨hs, Nat.ne_of_lt hb⟩))
  have hn1 : okN m 1 fa := ⟨by decide, by omega, by omega⟩
  have hn2 : okN m 2 ta := ⟨by decide, by omega, by omega⟩
  have hl9 := (cz.2.2.2.2 (.inl rfl)).2.2
  have X := Lib.hid (HX2.out)
  have U := Lib.hid ((Chg.refl Nowhere w))
  clear h hi hS HX2
  replace X := Lib.hid (X.out.up ((Chg.refl Nowhere w).alloc (.cells #[.int .i64 4, .int .i64 0, .int .i64 1, .int .i64 fa, .int .i64 2, .int .i64 ta, .int .i64 0, .int .i64 0] 44)))
  replace U := Lib.hid (Chg.trans U.out ((Chg.refl Nowhere w).alloc (.cells #[.int .i64 4, .int .i64 0, .int .i64 1, .int .i64 fa, .int .i64 2, .int .i64 ta, .int .i64 0, .int .i64 0] 44)))
  obtain ⟨b0, b1, b2, b3, b4, b5, b6, b7⟩ := box8 w (.int .i64 4) (.int .i64 0) (.int .i64 1) (.int .i64 fa) (.int .i64 2) (.int .i64 ta) (.int .i64 0) (.int .i64 0) 44
  have hbx13 : w.heap.size < (w.alloc (.cells #[.int .i64 4, .int .i64 0, .int .i64 1, .int .i64 fa, .int .i64 2, .int .i64 ta, .int .i64 0, .int .i64 0] 44)).heap.size := by simp
  have HS2 := Lib.hid ((fun b hb => by have h1 : w.heap.size + 1 ≤ b := (by simpa [NewIn] using hb); exact ⟨HS.out b (by omega), by omega⟩) : NewIn (fun b => S b ∧ b ≠ w.heap.size) (w.alloc (.cells #[.int .i64 4, .int .i64 0, .int .i64 1, .int .i64 fa, .int .i64 2, .int .i64 ta, .int .i64 0, .int .i64 0] 44)))
  have hlb : w.heap.size < (w.alloc (.cells #[.int .i64 4, .int .i64 0, .int .i64 1, .int .i64 fa, .int .i64 2, .int .i64 ta, .int .i64 0, .int .i64 0] 44)).heap.size := by simp
  go_enter Tryz.func69, Tryz.ntmps69
  go_wp2_with fail
  refine (opCode_0 _ X.out Hi.out _ HX.out H0.out).mono ?_
  rintro e w14 ⟨rfl, g1⟩
  have G1 := Lib.hid g1
  have hz14 := G1.out.size
  clear g1
  replace X := Lib.hid (X.out.up (tt G1.out))
  replace U := Lib.hid (Chg.trans U.out (tt G1.out))
  have hh := cc8 (tt G1.out) b0 b1 b2 b3 b4 b5 b6 b7
  clear b0 b1 b2 b3 b4 b5 b6 b7
  obtain ⟨b0, b1, b2, b3, b4, b5, b6, b7⟩ := hh
  clear G1
  have hz6 := U.out.size
  have HSn := Lib.hid ((fun b hb => ⟨HS.out b (by omega), by omega⟩) : NewIn (fun b => S b ∧ b ≠ w.heap.size) w14)
  go_wp2_with fail
  refine (transfer_12 _ X.out HSn.out Hi.out 4 0 fa ta 0 0 hn1 hn2 hl9).mono ?_
  rintro e w9 ⟨v9, rfl, -, hm9, g9⟩
  have HM := Lib.hid hm9
  have G0 := Lib.hid (Chg.trans (Chg.of_up U.out) (g9.mono fun b _ hb => hb.1) : Chg S w w9)
  have d0 := g9.cell b0 (fun h => h.2 rfl)
  clear b0
  have d1 := g9.cell b1 (fun h => h.2 rfl)
  clear b1
  have d2 := g9.cell b2 (fun h => h.2 rfl)
  clear b2
  have d3 := g9.cell b3 (fun h => h.2 rfl)
  clear b3
  have d4 := g9.cell b4 (fun h => h.2 rfl)
  clear b4
  have d5 := g9.cell b5 (fun h => h.2 rfl)
  clear b5
  have d6 := g9.cell b6 (fun h => h.2 rfl)
  clear b6
  have d7 := g9.cell b7 (fun h => h.2 rfl)
  clear b7
  clear hm9 g9
  go_wp2_with fail
  refine (makesLoop_b _ 4 false (by decide)).mono ?_
  rintro e w' ⟨rfl, rfl⟩
  go_wp2
  go_ret
  exact ⟨rfl, HM.out.mono (fun b _ hb => hb.1.1), G0.out⟩
theorem execute_xfer21 (w : World) {S : Nat → Prop} {K p : Nat} {m : MachM} {F B C L D : Value} {fs bs : List Value} (h : MachX w S K p m F B C L D fs bs) (hS : NewIn S w) (hi : MInv m) (fb fa tb ta rk : Int) (j : Nat) (hx : okOp m.wd ⟨4, 0, 2, fa, 1, ta, 0, 0⟩) (h0 : codeM m ⟨4, 0, 2, fa, 1, ta, 0, 0⟩ = 0) :
    Calls Tryz.prog 69 #[.pointer (some ⟨p, 0, none⟩), .agg #[.int .i64 4, .int .i64 0, .int .i64 2, .int .i64 fa, .int .i64 1, .int .i64 ta, .int .i64 0, .int .i64 0]] w fun e w' => e = .returned (.int .i64 0) ∧ Mach w' S K p (execM m ⟨4, 0, 2, fa, 1, ta, 0, 0⟩) ∧ Chg S w w' := by
  obtain ⟨hx1, hx2, hx3⟩ := hx
  have hv := valid_cases hx1
  dsimp only at hx2 hx3 hv
  have hwd := hi.wd
  have hrk := hi.rack
  have cz := code_zero h0
  dsimp only at cz
  have HX := Lib.hid (show okOp m.wd ⟨4, 0, 2, fa, 1, ta, 0, 0⟩ from ⟨hx1, hx2, hx3⟩)
  clear hx1
  have H0 := Lib.hid h0
  clear h0
  have Hi := Lib.hid hi
  have HS := Lib.hid hS
  have HX2 := Lib.hid (h.mono (T := (fun b => S b ∧ b ≠ w.heap.size)) (fun b hb hs => ⟨hs, Nat.ne_of_lt hb⟩))
  have hn1 : okN m 2 fa := ⟨by decide, by omega, by omega⟩
  have hn2 : okN m 1 ta := ⟨by decide, by omega, by omega⟩
  have hl9 := (cz.2.2.2.2 (.inl rfl)).2.2
  have X := Lib.hid (HX2.out)
  have U := Lib.hid ((Chg.refl Nowhere w))
  clear h hi hS HX2
  replace X := Lib.hid (X.out.up ((Chg.refl Nowhere w).alloc (.cells #[.int .i64 4, .int .i64 0, .int .i64 2, .int .i64 fa, .int .i64 1, .int .i64 ta, .int .i64 0, .int .i64 0] 44)))
  replace U := Lib.hid (Chg.trans U.out ((Chg.refl Nowhere w).alloc (.cells #[.int .i64 4, .int .i64 0, .int .i64 2, .int .i64 fa, .int .i64 1, .int .i64 ta, .int .i64 0, .int .i64 0] 44)))
  obtain ⟨b0, b1, b2, b3, b4, b5, b6, b7⟩ := box8 w (.int .i64 4) (.int .i64 0) (.int .i64 2) (.int .i64 fa) (.int .i64 1) (.int .i64 ta) (.int .i64 0) (.int .i64 0) 44
  have hbx13 : w.heap.size < (w.alloc (.cells #[.int .i64 4, .int .i64 0, .int .i64 2, .int .i64 fa, .int .i64 1, .int .i64 ta, .int .i64 0, .int .i64 0] 44)).heap.size := by simp
  have HS2 := Lib.hid ((fun b hb => by have h1 : w.heap.size + 1 ≤ b := (by simpa [NewIn] using hb); exact ⟨HS.out b (by omega), by omega⟩) : NewIn (fun b => S b ∧ b ≠ w.heap.size) (w.alloc (.cells #[.int .i64 4, .int .i64 0, .int .i64 2, .int .i64 fa, .int .i64 1, .int .i64 ta, .int .i64 0, .int .i64 0] 44)))
  have hlb : w.heap.size < (w.alloc (.cells #[.int .i64 4, .int .i64 0, .int .i64 2, .int .i64 fa, .int .i64 1, .int .i64 ta, .int .i64 0, .int .i64 0] 44)).heap.size := by simp
  go_enter Tryz.func69, Tryz.ntmps69
  go_wp2_with fail
  refine (opCode_0 _ X.out Hi.out _ HX.out H0.out).mono ?_
  rintro e w14 ⟨rfl, g1⟩
  have G1 := Lib.hid g1
  have hz14 := G1.out.size
  clear g1
  replace X := Lib.hid (X.out.up (tt G1.out))
  replace U := Lib.hid (Chg.trans U.out (tt G1.out))
  have hh := cc8 (tt G1.out) b0 b1 b2 b3 b4 b5 b6 b7
  clear b0 b1 b2 b3 b4 b5 b6 b7
  obtain ⟨b0, b1, b2, b3, b4, b5, b6, b7⟩ := hh
  clear G1
  have hz6 := U.out.size
  have HSn := Lib.hid ((fun b hb => ⟨HS.out b (by omega), by omega⟩) : NewIn (fun b => S b ∧ b ≠ w.heap.size) w14)
  go_wp2_with fail
  refine (transfer_21 _ X.out HSn.out Hi.out 4 0 fa ta 0 0 hn1 hn2 hl9).mono ?_
  rintro e w9 ⟨v9, rfl, -, hm9, g9⟩
  have HM := Lib.hid hm9
  have G0 := Lib.hid (Chg.trans (Chg.of_up U.out) (g9.mono fun b _ hb => hb.1) : Chg S w w9)
  have d0 := g9.cell b0 (fun h => h.2 rfl)
  clear b0
  have d1 := g9.cell b1 (fun h => h.2 rfl)
  clear b1
  have d2 := g9.cell b2 (fun h => h.2 rfl)
  clear b2
  have d3 := g9.cell b3 (fun h => h.2 rfl)
  clear b3
  have d4 := g9.cell b4 (fun h => h.2 rfl)
  clear b4
  have d5 := g9.cell b5 (fun h => h.2 rfl)
  clear b5
  have d6 := g9.cell b6 (fun h => h.2 rfl)
  clear b6
  have d7 := g9.cell b7 (fun h => h.2 rfl)
  clear b7
  clear hm9 g9
  go_wp2_with fail
  refine (makesLoop_b _ 4 false (by decide)).mono ?_
  rintro e w' ⟨rfl, rfl⟩
  go_wp2
  go_ret
  exact ⟨rfl, HM.out.mono (fun b _ hb => hb.1.1), G0.out⟩
theorem execute_split12R (w : World) {S : Nat → Prop} {K p : Nat} {m : MachM} {F B C L D : Value} {fs bs : List Value} (h : MachX w S K p m F B C L D fs bs) (hS : NewIn S w) (hi : MInv m) (fb fa tb ta rk : Int) (j : Nat) (hx : okOp m.wd ⟨5, 1, 1, fa, 2, ta, ((j : Int) + 1), 0⟩) (h0 : codeM m ⟨5, 1, 1, fa, 2, ta, ((j : Int) + 1), 0⟩ = 0) :
    Calls Tryz.prog 69 #[.pointer (some ⟨p, 0, none⟩), .agg #[.int .i64 5, .int .i64 1, .int .i64 1, .int .i64 fa, .int .i64 2, .int .i64 ta, .int .i64 ((j : Int) + 1), .int .i64 0]] w fun e w' => e = .returned (.int .i64 0) ∧ Mach w' S K p (execM m ⟨5, 1, 1, fa, 2, ta, ((j : Int) + 1), 0⟩) ∧ Chg S w w' := by
  obtain ⟨hx1, hx2, hx3⟩ := hx
  have hv := valid_cases hx1
  dsimp only at hx2 hx3 hv
  have hwd := hi.wd
  have hrk := hi.rack
  have cz := code_zero h0
  dsimp only at cz
  have HX := Lib.hid (show okOp m.wd ⟨5, 1, 1, fa, 2, ta, ((j : Int) + 1), 0⟩ from ⟨hx1, hx2, hx3⟩)
  clear hx1
  have H0 := Lib.hid h0
  clear h0
  have Hi := Lib.hid hi
  have HS := Lib.hid hS
  have HX2 := Lib.hid (h.mono (T := (fun b => S b ∧ b ≠ w.heap.size)) (fun b hb hs => ⟨hs, Nat.ne_of_lt hb⟩))
  have hn1 : okN m 1 fa := ⟨by decide, by omega, by omega⟩
  have hn2 : okN m 2 ta := ⟨by decide, by omega, by omega⟩
  have hl9 := (cz.2.2.2.2 (.inr rfl)).2.2
  have hnl := cz.2.1 (by decide)
  have hnl2 := hi.nl
  have hll := (hi.on_ 1 fa).1
  have X := Lib.hid (HX2.out)
  have U := Lib.hid ((Chg.refl Nowhere w))
  clear h hi hS HX2
  replace X := Lib.hid (X.out.up ((Chg.refl Nowhere w).alloc (.cells #[.int .i64 5, .int .i64 1, .int .i64 1, .int .i64 fa, .int .i64 2, .int .i64 ta, .int .i64 ((j : Int) + 1), .int .i64 0] 44)))
  replace U := Lib.hid (Chg.trans U.out ((Chg.refl Nowhere w).alloc (.cells #[.int .i64 5, .int .i64 1, .int .i64 1, .int .i64 fa, .int .i64 2, .int .i64 ta, .int .i64 ((j : Int) + 1), .int .i64 0] 44)))
  obtain ⟨b0, b1, b2, b3, b4, b5, b6, b7⟩ := box8 w (.int .i64 5) (.int .i64 1) (.int .i64 1) (.int .i64 fa) (.int .i64 2) (.int .i64 ta) (.int .i64 ((j : Int) + 1)) (.int .i64 0) 44
  have hbx13 : w.heap.size < (w.alloc (.cells #[.int .i64 5, .int .i64 1, .int .i64 1, .int .i64 fa, .int .i64 2, .int .i64 ta, .int .i64 ((j : Int) + 1), .int .i64 0] 44)).heap.size := by simp
  have HS2 := Lib.hid ((fun b hb => by have h1 : w.heap.size + 1 ≤ b := (by simpa [NewIn] using hb); exact ⟨HS.out b (by omega), by omega⟩) : NewIn (fun b => S b ∧ b ≠ w.heap.size) (w.alloc (.cells #[.int .i64 5, .int .i64 1, .int .i64 1, .int .i64 fa, .int .i64 2, .int .i64 ta, .int .i64 ((j : Int) + 1), .int .i64 0] 44)))
  have hlb : w.heap.size < (w.alloc (.cells #[.int .i64 5, .int .i64 1, .int .i64 1, .int .i64 fa, .int .i64 2, .int .i64 ta, .int .i64 ((j : Int) + 1), .int .i64 0] 44)).heap.size := by simp
  go_enter Tryz.func69, Tryz.ntmps69
  go_wp2_with fail
  refine (opCode_0 _ X.out Hi.out _ HX.out H0.out).mono ?_
  rintro e w14 ⟨rfl, g1⟩
  have G1 := Lib.hid g1
  have hz14 := G1.out.size
  clear g1
  replace X := Lib.hid (X.out.up (tt G1.out))
  replace U := Lib.hid (Chg.trans U.out (tt G1.out))
  have hh := cc8 (tt G1.out) b0 b1 b2 b3 b4 b5 b6 b7
  clear b0 b1 b2 b3 b4 b5 b6 b7
  obtain ⟨b0, b1, b2, b3, b4, b5, b6, b7⟩ := hh
  clear G1
  have hz6 := U.out.size
  have HSn := Lib.hid ((fun b hb => ⟨HS.out b (by omega), by omega⟩) : NewIn (fun b => S b ∧ b ≠ w.heap.size) w14)
  go_wp2
  refine wp_region_l 157 ((fun b => S b ∧ b ≠ w.heap.size)) 7 [kon (.pointer (some ⟨p, 0, none⟩)), kon (.agg #[.int .i64 5, .int .i64 1, .int .i64 1, .int .i64 fa, .int .i64 2, .int .i64 ta, .int .i64 ((j : Int) + 1), .int .i64 0]), kon (.pointer (some ⟨p, 0, none⟩)), kon (.pointer (some ⟨w.heap.size, 2, none⟩)), kon (.agg #[.int .i64 1, .int .i64 fa]), kon (.pointer (some ⟨w.heap.size, 4, none⟩)), kon (.agg #[.int .i64 2, .int .i64 ta]), (fun v w' => OwnI w' 0 v (onM m 1 fa) ∧ Mach w' (fun b => (fun b => S b ∧ b ≠ w.heap.size) b ∧ v.ownBlock ≠ some b) K p (shiftM m ⟨5, 1, 1, fa, 2, ta, ((j : Int) + 1), 0⟩))] [(0, 47, []), (1, 48, []), (2, 49, []), (3, 50, []), (4, 51, [3]), (5, 52, []), (6, 53, [5]), (7, 54, [2, 4, 6])] (by kernel_rfl) (by kernel_rfl) (by kernel_rfl) rfl ?_ ?_ ?_
  · exact ⟨(keeps_kon _), ⟨(keeps_kon _), ⟨(keeps_kon _), ⟨(keeps_kon _), ⟨(keeps_kon _), ⟨(keeps_kon _), ⟨(keeps_kon _), ⟨(fun v w1 w2 ⟨h1, h2⟩ k => ⟨h1.up k, h2.up k⟩), trivial⟩⟩⟩⟩⟩⟩⟩⟩
  · exact ⟨.inr (keeps_kon _), ⟨.inr (keeps_kon _), ⟨.inr (keeps_kon _), ⟨.inr (keeps_kon _), ⟨.inr (keeps_kon _), ⟨.inr (keeps_kon _), ⟨.inr (keeps_kon _), ⟨.inl rfl, trivial⟩⟩⟩⟩⟩⟩⟩⟩
  refine ⟨fun w1 hc _ hn => ?_, fun v0 => ?_⟩
  · refine grow_same (v := .pointer (some ⟨p, 0, none⟩)) ?_ ?_
    exact x_move (.tmp 0) rfl rfl
    rfl
  refine ⟨fun w1 hc _ hn => ?_, fun v1 => ?_⟩
  · refine grow_same (v := .agg #[.int .i64 5, .int .i64 1, .int .i64 1, .int .i64 fa, .int .i64 2, .int .i64 ta, .int .i64 ((j : Int) + 1), .int .i64 0]) ?_ ?_
    exact x_load (q := .pointer (some ⟨w.heap.size, 0, none⟩)) 44 (.tmp 3) (by rfl) (by rfl) (by exact ld_op _ _ _ _ _ _ _ _ _ _ _ (hc.cell b0 (fun h => h.2 rfl)) (hc.cell b1 (fun h => h.2 rfl)) (hc.cell b2 (fun h => h.2 rfl)) (hc.cell b3 (fun h => h.2 rfl)) (hc.cell b4 (fun h => h.2 rfl)) (hc.cell b5 (fun h => h.2 rfl)) (hc.cell b6 (fun h => h.2 rfl)) (hc.cell b7 (fun h => h.2 rfl)))
    rfl
  refine ⟨fun w1 hc _ hn => ?_, fun v2 => ?_⟩
  · refine grow_same (v := .pointer (some ⟨p, 0, none⟩)) ?_ ?_
    exact x_move (.tmp 0) rfl rfl
    rfl
  refine ⟨fun w1 hc _ hn => ?_, fun v3 => ?_⟩
  · refine grow_same (v := .pointer (some ⟨w.heap.size, 2, none⟩)) ?_ ?_
    exact x_field (q := .pointer (some ⟨w.heap.size, 0, none⟩)) 44 (.tmp 3) 2 (by rfl) (by rfl) (by exact fa_o2 _ _ _)
    rfl
  refine ⟨fun w1 hc _ hn => ?_, fun v4 => ?_⟩
  · obtain rfl : (.pointer (some ⟨w.heap.size, 2, none⟩) : Value) = v3 := Eq.symm hn.1
    refine grow_same (v := .agg #[.int .i64 1, .int .i64 fa]) ?_ ?_
    exact x_load (q := .pointer (some ⟨w.heap.size, 2, none⟩)) 42 (.tmp 50) (by rfl) (by rfl) (by exact ld_needle _ _ _ _ _ (hc.cell b2 (fun h => h.2 rfl)) (hc.cell b3 (fun h => h.2 rfl)))
    rfl
  refine ⟨fun w1 hc _ hn => ?_, fun v5 => ?_⟩
  · refine grow_same (v := .pointer (some ⟨w.heap.size, 4, none⟩)) ?_ ?_
    exact x_field (q := .pointer (some ⟨w.heap.size, 0, none⟩)) 44 (.tmp 3) 3 (by rfl) (by rfl) (by exact fa_o3 _ _ _)
    rfl
  refine ⟨fun w1 hc _ hn => ?_, fun v6 => ?_⟩
  · obtain rfl : (.pointer (some ⟨w.heap.size, 4, none⟩) : Value) = v5 := Eq.symm hn.1
    refine grow_same (v := .agg #[.int .i64 2, .int .i64 ta]) ?_ ?_
    exact x_load (q := .pointer (some ⟨w.heap.size, 4, none⟩)) 42 (.tmp 52) (by rfl) (by rfl) (by exact ld_needle _ _ _ _ _ (hc.cell b4 (fun h => h.2 rfl)) (hc.cell b5 (fun h => h.2 rfl)))
    rfl
  refine ⟨fun w1 hc hu hn => ?_, fun v7 => ?_⟩
  · obtain rfl : (.pointer (some ⟨p, 0, none⟩) : Value) = v2 := Eq.symm hn.1
    obtain rfl : (.agg #[.int .i64 1, .int .i64 fa] : Value) = v4 := Eq.symm hn.2.1
    obtain rfl : (.agg #[.int .i64 2, .int .i64 ta] : Value) = v6 := Eq.symm hn.2.2.1
    refine grow_call (f := 82) (args := #[.pointer (some ⟨p, 0, none⟩), .agg #[.int .i64 1, .int .i64 fa], .agg #[.int .i64 2, .int .i64 ta]]) (x_call #[.tmp 49, .tmp 51, .tmp 53] #[63, 42, 42] Tryz.func82 (by rfl) (by rfl) (by rfl) (by rfl) (by simp only [List.map_toArray, List.map_cons, List.map_nil]; rfl)) ?_
    refine (transfer_12 w1 (X.out.up (hu rfl)) (NewIn.up HSn.out hc) Hi.out 5 1 fa ta ((j : Int) + 1) 0 hn1 hn2 hl9).mono ?_
    rintro e w' ⟨v', rfl, k1, k2, k3⟩
    exact ⟨_, rfl, rg_eff k3, k1, k2⟩
  intro wa ka hn7
  obtain ⟨⟨fo, fm⟩, rfl, rfl, rfl, rfl, rfl, rfl, rfl, -⟩ := hn7
  obtain ⟨F7, B7, C7, L7, D7, fs7, bs7, x7⟩ := fm
  have HO7 := Lib.hid fo
  have X7 := Lib.hid x7
  clear fo x7
  have hw7 := ka.size
  have HS7 := Lib.hid ((fun b hb => ⟨HSn.out b (by omega), fun e => by have h1 := (HO7.out.1.lt _ e).2; omega⟩) : NewIn (fun b => (fun b => S b ∧ b ≠ w.heap.size) b ∧ v7.ownBlock ≠ some b) wa)
  have d0 := ka.cell b0 (fun h => h.2 rfl)
  clear b0
  have d1 := ka.cell b1 (fun h => h.2 rfl)
  clear b1
  have d2 := ka.cell b2 (fun h => h.2 rfl)
  clear b2
  have d3 := ka.cell b3 (fun h => h.2 rfl)
  clear b3
  have d4 := ka.cell b4 (fun h => h.2 rfl)
  clear b4
  have d5 := ka.cell b5 (fun h => h.2 rfl)
  clear b5
  have d6 := ka.cell b6 (fun h => h.2 rfl)
  clear b6
  have d7 := ka.cell b7 (fun h => h.2 rfl)
  clear b7
  have hi7 := Lib.hid (Hi.out.shift (o := ⟨5, 1, 1, fa, 2, ta, ((j : Int) + 1), 0⟩) hl9)
  have hon7 : onM (shiftM m ⟨5, 1, 1, fa, 2, ta, ((j : Int) + 1), 0⟩) 1 fa = [] := onM_setM (Hi.out.setM_ _ _ (bothM_ok Hi.out (o := ⟨5, 1, 1, fa, 2, ta, ((j : Int) + 1), 0⟩) hl9)) [] ⟨hn1.2.1, by rw [(setM_same _ _ _).1]; exact hn1.2.2⟩
  have hs7 : (shiftM m ⟨5, 1, 1, fa, 2, ta, ((j : Int) + 1), 0⟩).nl = m.nl := by unfold shiftM; rw [(setM_same _ _ _).2.2.2, (setM_same _ _ _).2.2.2]
  have hsw : (shiftM m ⟨5, 1, 1, fa, 2, ta, ((j : Int) + 1), 0⟩).wd = m.wd := by unfold shiftM; rw [(setM_same _ _ _).1, (setM_same _ _ _).1]
  have G7 := Lib.hid (Chg.trans (Chg.of_up U.out) (ka.mono fun b _ hb => hb.1) : Chg S w wa)
  simp only [List.length_cons, List.length_nil, List.drop_succ_cons, List.drop_zero, Nat.zero_add]
  go_wp2_with fail
  refine (loop_any _ X7.out HS7.out hi7.out 5 1 1 fa 2 ta ((j : Int) + 1) 0 ⟨hn1.1, hn1.2.1, by rw [hsw]; exact hn1.2.2⟩ (by rw [hon7]; simp) (by omega) (fun b => v7.ownBlock = some b) _ _ HO7.out.intsOwn (fun b _ e h => h.2 e) (by omega)).mono ?_
  rintro e w9 ⟨rfl, hm9, g9⟩
  obtain ⟨F9, B9, C9, L9, D9, fs9, bs9, x9⟩ := hm9
  have X9a := Lib.hid x9
  have G0 := Lib.hid (Chg.trans G7.out (g9.mono fun b _ hb => hb.1.1) : Chg S w w9)
  replace d0 := g9.cell d0 (fun h => h.1.2 rfl)
  replace d1 := g9.cell d1 (fun h => h.1.2 rfl)
  replace d2 := g9.cell d2 (fun h => h.1.2 rfl)
  replace d3 := g9.cell d3 (fun h => h.1.2 rfl)
  replace d4 := g9.cell d4 (fun h => h.1.2 rfl)
  replace d5 := g9.cell d5 (fun h => h.1.2 rfl)
  replace d6 := g9.cell d6 (fun h => h.1.2 rfl)
  replace d7 := g9.cell d7 (fun h => h.1.2 rfl)
  clear x9 g9
  have Hi9 := Lib.hid (hi7.out.loop (o := ⟨5, 1, 1, fa, 2, ta, ((j : Int) + 1), 0⟩) (by dsimp only; rw [hon7]; simp) (by omega) : MInv (loopM (shiftM m ⟨5, 1, 1, fa, 2, ta, ((j : Int) + 1), 0⟩) ⟨5, 1, 1, fa, 2, ta, ((j : Int) + 1), 0⟩))
  obtain ⟨gC, jc, cC, hK, hCe⟩ := X9a.out.car Hi9.out (car := ((j : Int) + 1)) (by omega)
  obtain rfl : j = jc := by have := hK.ec; omega
  have hKj := hK.jl
  have hp1 := X9a.out.c1.1
  have HK := Lib.hid hK
  have hkh := hK.hdr.1
  have hkb := hK.b
  clear hK
  have hrk1 : -3 ≤ (loopM (shiftM m ⟨5, 1, 1, fa, 2, ta, ((j : Int) + 1), 0⟩) ⟨5, 1, 1, fa, 2, ta, ((j : Int) + 1), 0⟩).rack ∧ (loopM (shiftM m ⟨5, 1, 1, fa, 2, ta, ((j : Int) + 1), 0⟩) ⟨5, 1, 1, fa, 2, ta, ((j : Int) + 1), 0⟩).rack ≤ 3 := Hi9.out.rack
  have hpl := placeM_bd (b := 1) (a := fa) (r := (loopM (shiftM m ⟨5, 1, 1, fa, 2, ta, ((j : Int) + 1), 0⟩) ⟨5, 1, 1, fa, 2, ta, ((j : Int) + 1), 0⟩).rack) (by omega) hrk1
  go_wp2_with fail
  refine (makesLoop_b _ 5 true (by decide)).mono ?_
  rintro e w' ⟨rfl, rfl⟩
  go_wp2
  refine wp_region_l 157 (Nowhere) 21 [kon (.pointer (some ⟨p, 0, none⟩)), kon (.pointer (some ⟨p, 0, none⟩)), kon (.pointer (some ⟨p, 4, none⟩)), kon (.slice (some ⟨gC, 0, none⟩) 4 cC), kon (.pointer (some ⟨w.heap.size, 6, none⟩)), kon (.int .i64 ((j : Int) + 1)), kon (.int .i64 (j : Int)), kon (.pointer (some ⟨w.heap.size, 2, none⟩)), kon (.agg #[.int .i64 1, .int .i64 fa]), kon (.pointer (some ⟨p, 0, none⟩)), kon (.pointer (some ⟨p, 0, none⟩)), kon (.pointer (some ⟨p, 1, none⟩)), kon (.int .i64 (loopM (shiftM m ⟨5, 1, 1, fa, 2, ta, ((j : Int) + 1), 0⟩) ⟨5, 1, 1, fa, 2, ta, ((j : Int) + 1), 0⟩).rack), kon (.int .i64 (placeM 1 fa (loopM (shiftM m ⟨5, 1, 1, fa, 2, ta, ((j : Int) + 1), 0⟩) ⟨5, 1, 1, fa, 2, ta, ((j : Int) + 1), 0⟩).rack)), kon (.pointer (some ⟨w.heap.size, 1, none⟩)), kon (.int .i64 1), kon (.int .i64 2), kon (.int .i64 1), kon (.int .i64 (placeM 1 fa (loopM (shiftM m ⟨5, 1, 1, fa, 2, ta, ((j : Int) + 1), 0⟩) ⟨5, 1, 1, fa, 2, ta, ((j : Int) + 1), 0⟩).rack + 1)), kon (.pointer (some ⟨gC, j * 2, none⟩)), kon (.pointer (some ⟨gC, j * 2 + 1, none⟩))] [(0, 136, []), (1, 137, [0]), (2, 138, [1]), (3, 139, [2]), (4, 140, []), (5, 141, [4]), (6, 142, [5]), (7, 143, []), (8, 144, [7]), (9, 145, []), (10, 146, [9]), (11, 147, [10]), (12, 148, [11]), (13, 149, [8, 12]), (14, 150, []), (15, 151, [14]), (16, 152, [15]), (17, 153, [16]), (18, 154, [13, 17]), (19, 155, [3, 6, 0, 1, 2, 3, 4, 5, 6, 7, 8, 9, 10, 11, 12, 13, 14, 15, 16, 17, 18]), (20, 156, [19, 0, 1, 2, 3, 4, 5, 6, 7, 8, 9, 10, 11, 12, 13, 14, 15, 16, 17, 18])] (by kernel_rfl) (by kernel_rfl) (by kernel_rfl) rfl ?_ ?_ ?_
  · exact ⟨(keeps_kon _), ⟨(keeps_kon _), ⟨(keeps_kon _), ⟨(keeps_kon _), ⟨(keeps_kon _), ⟨(keeps_kon _), ⟨(keeps_kon _), ⟨(keeps_kon _), ⟨(keeps_kon _), ⟨(keeps_kon _), ⟨(keeps_kon _), ⟨(keeps_kon _), ⟨(keeps_kon _), ⟨(keeps_kon _), ⟨(keeps_kon _), ⟨(keeps_kon _), ⟨(keeps_kon _), ⟨(keeps_kon _), ⟨(keeps_kon _), ⟨(keeps_kon _), ⟨(keeps_kon _), trivial⟩⟩⟩⟩⟩⟩⟩⟩⟩⟩⟩⟩⟩⟩⟩⟩⟩⟩⟩⟩⟩
  · exact allBut_none 0 ⟨(keeps_kon _), ⟨(keeps_kon _), ⟨(keeps_kon _), ⟨(keeps_kon _), ⟨(keeps_kon _), ⟨(keeps_kon _), ⟨(keeps_kon _), ⟨(keeps_kon _), ⟨(keeps_kon _), ⟨(keeps_kon _), ⟨(keeps_kon _), ⟨(keeps_kon _), ⟨(keeps_kon _), ⟨(keeps_kon _), ⟨(keeps_kon _), ⟨(keeps_kon _), ⟨(keeps_kon _), ⟨(keeps_kon _), ⟨(keeps_kon _), ⟨(keeps_kon _), ⟨(keeps_kon _), trivial⟩⟩⟩⟩⟩⟩⟩⟩⟩⟩⟩⟩⟩⟩⟩⟩⟩⟩⟩⟩⟩
  refine ⟨fun w1 hc _ hn => ?_, fun v0 => ?_⟩
  · refine grow_same (v := .pointer (some ⟨p, 0, none⟩)) ?_ ?_
    exact x_move (.tmp 0) rfl rfl
    rfl
  refine ⟨fun w1 hc _ hn => ?_, fun v1 => ?_⟩
  · obtain rfl : (.pointer (some ⟨p, 0, none⟩) : Value) = v0 := Eq.symm hn.1
    refine grow_same (v := .pointer (some ⟨p, 0, none⟩)) ?_ ?_
    exact x_nil (p := ⟨p, 0, none⟩) (.tmp 136) rfl rfl
    rfl
  refine ⟨fun w1 hc _ hn => ?_, fun v2 => ?_⟩
  · obtain rfl : (.pointer (some ⟨p, 0, none⟩) : Value) = v1 := Eq.symm hn.1
    refine grow_same (v := .pointer (some ⟨p, 4, none⟩)) ?_ ?_
    exact x_field (q := .pointer (some ⟨p, 0, none⟩)) 60 (.tmp 137) 4 (by rfl) (by rfl) (by exact fa_m4 _ _)
    rfl
  refine ⟨fun w1 hc _ hn => ?_, fun v3 => ?_⟩
  · obtain rfl : (.pointer (some ⟨p, 4, none⟩) : Value) = v2 := Eq.symm hn.1
    refine grow_same (v := .slice (some ⟨gC, 0, none⟩) 4 cC) ?_ ?_
    exact x_load (q := .pointer (some ⟨p, 4, none⟩)) 57 (.tmp 138) (by rfl) (by rfl) (by exact ld_cars _ _ _ (hc.cell hkh id))
    rfl
  refine ⟨fun w1 hc _ hn => ?_, fun v4 => ?_⟩
  · refine grow_same (v := .pointer (some ⟨w.heap.size, 6, none⟩)) ?_ ?_
    exact x_field (q := .pointer (some ⟨w.heap.size, 0, none⟩)) 44 (.tmp 3) 4 (by rfl) (by rfl) (by exact fa_o4 _ _ _)
    rfl
  refine ⟨fun w1 hc _ hn => ?_, fun v5 => ?_⟩
  · obtain rfl : (.pointer (some ⟨w.heap.size, 6, none⟩) : Value) = v4 := Eq.symm hn.1
    refine grow_same (v := .int .i64 ((j : Int) + 1)) ?_ ?_
    exact x_load (q := .pointer (some ⟨w.heap.size, 6, none⟩)) 2 (.tmp 140) (by rfl) (by rfl) (by exact ld_int _ _ _ (hc.cell d6 id))
    rfl
  refine ⟨fun w1 hc _ hn => ?_, fun v6 => ?_⟩
  · obtain rfl : (.int .i64 ((j : Int) + 1) : Value) = v5 := Eq.symm hn.1
    exact grow_same (v := .int .i64 (j : Int)) (x_subc (.tmp 141) (.const (.int .i64 1)) (by rfl) (a := ((j : Int) + 1)) (b := 1) (by rfl) (by rfl) (by omega) (by omega)) rfl
  refine ⟨fun w1 hc _ hn => ?_, fun v7 => ?_⟩
  · refine grow_same (v := .pointer (some ⟨w.heap.size, 2, none⟩)) ?_ ?_
    exact x_field (q := .pointer (some ⟨w.heap.size, 0, none⟩)) 44 (.tmp 3) 2 (by rfl) (by rfl) (by exact fa_o2 _ _ _)
    rfl
  refine ⟨fun w1 hc _ hn => ?_, fun v8 => ?_⟩
  · obtain rfl : (.pointer (some ⟨w.heap.size, 2, none⟩) : Value) = v7 := Eq.symm hn.1
    refine grow_same (v := .agg #[.int .i64 1, .int .i64 fa]) ?_ ?_
    exact x_load (q := .pointer (some ⟨w.heap.size, 2, none⟩)) 42 (.tmp 143) (by rfl) (by rfl) (by exact ld_needle _ _ _ _ _ (hc.cell d2 id) (hc.cell d3 id))
    rfl
  refine ⟨fun w1 hc _ hn => ?_, fun v9 => ?_⟩
  · refine grow_same (v := .pointer (some ⟨p, 0, none⟩)) ?_ ?_
    exact x_move (.tmp 0) rfl rfl
    rfl
  refine ⟨fun w1 hc _ hn => ?_, fun v10 => ?_⟩
  · obtain rfl : (.pointer (some ⟨p, 0, none⟩) : Value) = v9 := Eq.symm hn.1
    refine grow_same (v := .pointer (some ⟨p, 0, none⟩)) ?_ ?_
    exact x_nil (p := ⟨p, 0, none⟩) (.tmp 145) rfl rfl
    rfl
  refine ⟨fun w1 hc _ hn => ?_, fun v11 => ?_⟩
  · obtain rfl : (.pointer (some ⟨p, 0, none⟩) : Value) = v10 := Eq.symm hn.1
    refine grow_same (v := .pointer (some ⟨p, 1, none⟩)) ?_ ?_
    exact x_field (q := .pointer (some ⟨p, 0, none⟩)) 60 (.tmp 146) 1 (by rfl) (by rfl) (by exact fa_m1 _ _)
    rfl
  refine ⟨fun w1 hc _ hn => ?_, fun v12 => ?_⟩
  · obtain rfl : (.pointer (some ⟨p, 1, none⟩) : Value) = v11 := Eq.symm hn.1
    refine grow_same (v := .int .i64 (loopM (shiftM m ⟨5, 1, 1, fa, 2, ta, ((j : Int) + 1), 0⟩) ⟨5, 1, 1, fa, 2, ta, ((j : Int) + 1), 0⟩).rack) ?_ ?_
    exact x_load (q := .pointer (some ⟨p, 1, none⟩)) 2 (.tmp 147) (by rfl) (by rfl) (by exact ld_int _ _ _ (hc.cell hp1 id))
    rfl
  refine ⟨fun w1 hc _ hn => ?_, fun v13 => ?_⟩
  · obtain rfl : (.agg #[.int .i64 1, .int .i64 fa] : Value) = v8 := Eq.symm hn.1
    obtain rfl : (.int .i64 (loopM (shiftM m ⟨5, 1, 1, fa, 2, ta, ((j : Int) + 1), 0⟩) ⟨5, 1, 1, fa, 2, ta, ((j : Int) + 1), 0⟩).rack : Value) = v12 := Eq.symm hn.2.1
    refine grow_call (f := 85) (args := #[.agg #[.int .i64 1, .int .i64 fa], .int .i64 (loopM (shiftM m ⟨5, 1, 1, fa, 2, ta, ((j : Int) + 1), 0⟩) ⟨5, 1, 1, fa, 2, ta, ((j : Int) + 1), 0⟩).rack]) (x_call #[.tmp 144, .tmp 148] #[42, 2] Tryz.func85 (by rfl) (by rfl) (by rfl) (by rfl) (by simp only [List.map_toArray, List.map_cons, List.map_nil]; rfl)) ?_
    refine (place_any w1 1 fa _ (by omega) (by omega)).mono ?_
    rintro e w' ⟨rfl, g1⟩
    exact ⟨_, rfl, rg_up g1, rfl⟩
  refine ⟨fun w1 hc _ hn => ?_, fun v14 => ?_⟩
  · refine grow_same (v := .pointer (some ⟨w.heap.size, 1, none⟩)) ?_ ?_
    exact x_field (q := .pointer (some ⟨w.heap.size, 0, none⟩)) 44 (.tmp 3) 1 (by rfl) (by rfl) (by exact fa_o1 _ _ _)
    rfl
  refine ⟨fun w1 hc _ hn => ?_, fun v15 => ?_⟩
  · obtain rfl : (.pointer (some ⟨w.heap.size, 1, none⟩) : Value) = v14 := Eq.symm hn.1
    refine grow_same (v := .int .i64 1) ?_ ?_
    exact x_load (q := .pointer (some ⟨w.heap.size, 1, none⟩)) 2 (.tmp 150) (by rfl) (by rfl) (by exact ld_int _ _ _ (hc.cell d1 id))
    rfl
  refine ⟨fun w1 hc _ hn => ?_, fun v16 => ?_⟩
  · obtain rfl : (.int .i64 1 : Value) = v15 := Eq.symm hn.1
    exact grow_same (v := .int .i64 2) (x_add (.tmp 151) (.const (.int .i64 1)) (by rfl) (a := 1) (b := 1) (by rfl) (by rfl) (by omega)) rfl
  refine ⟨fun w1 hc _ hn => ?_, fun v17 => ?_⟩
  · obtain rfl : (.int .i64 2 : Value) = v16 := Eq.symm hn.1
    exact grow_same (v := .int .i64 1) (x_quo (.tmp 152) (.const (.int .i64 2)) (by rfl) (a := 2) (b := 2) (by rfl) (by rfl) (by decide) (by decide)) rfl
  refine ⟨fun w1 hc _ hn => ?_, fun v18 => ?_⟩
  · obtain rfl : (.int .i64 (placeM 1 fa (loopM (shiftM m ⟨5, 1, 1, fa, 2, ta, ((j : Int) + 1), 0⟩) ⟨5, 1, 1, fa, 2, ta, ((j : Int) + 1), 0⟩).rack) : Value) = v13 := Eq.symm hn.1
    obtain rfl : (.int .i64 1 : Value) = v17 := Eq.symm hn.2.1
    refine grow_same (v := .int .i64 (placeM 1 fa (loopM (shiftM m ⟨5, 1, 1, fa, 2, ta, ((j : Int) + 1), 0⟩) ⟨5, 1, 1, fa, 2, ta, ((j : Int) + 1), 0⟩).rack + 1)) ?_ ?_
    exact x_add (.tmp 149) (.tmp 153) (by rfl) (a := placeM 1 fa (loopM (shiftM m ⟨5, 1, 1, fa, 2, ta, ((j : Int) + 1), 0⟩) ⟨5, 1, 1, fa, 2, ta, ((j : Int) + 1), 0⟩).rack) (b := 1) (by rfl) (by rfl) (by omega)
    rfl
  refine ⟨fun w1 hc _ hn => ?_, fun v19 => ?_⟩
  · obtain rfl : (.slice (some ⟨gC, 0, none⟩) 4 cC : Value) = v3 := Eq.symm hn.1
    obtain rfl : (.int .i64 (j : Int) : Value) = v6 := Eq.symm hn.2.1
    refine grow_same (v := .pointer (some ⟨gC, j * 2, none⟩)) ?_ ?_
    exact x_ixa 57 (.tmp 139) (.tmp 142) (by rfl) (u1 := .slice (some ⟨gC, 0, none⟩) 4 cC) (u2 := .int .i64 (j : Int)) (by rfl) (by rfl) (by exact ixa_car _ _ _ _ hKj _)
    rfl
  refine ⟨fun w1 hc _ hn => ?_, fun v20 => ?_⟩
  · obtain rfl : (.pointer (some ⟨gC, j * 2, none⟩) : Value) = v19 := Eq.symm hn.1
    refine grow_same (v := .pointer (some ⟨gC, j * 2 + 1, none⟩)) ?_ ?_
    exact x_field (q := .pointer (some ⟨gC, j * 2, none⟩)) 96 (.tmp 155) 1 (by rfl) (by rfl) (by exact fa_c1 _ _ _)
    rfl
  intro wb kb hn8
  obtain ⟨rfl, rfl, rfl, rfl, rfl, rfl, rfl, rfl, rfl, rfl, rfl, rfl, rfl, rfl, rfl, rfl, rfl, rfl, rfl, rfl, rfl, -⟩ := hn8
  have E9 := kb.cell hkb.1 id
  have F9 := (kb.frozen hkb.1 id).trans hkb.2
  have X9 := Lib.hid ((X9a.out.up kb).ride Hi9.out (car := ((j : Int) + 1)) rfl hKj hCe (placeM 1 fa (loopM (shiftM m ⟨5, 1, 1, fa, 2, ta, ((j : Int) + 1), 0⟩) ⟨5, 1, 1, fa, 2, ta, ((j : Int) + 1), 0⟩).rack + 1))
  have G9 := Lib.hid ((X9a.out.up kb).ride_chg hCe (j * 2 + 1) (.int .i64 (placeM 1 fa (loopM (shiftM m ⟨5, 1, 1, fa, 2, ta, ((j : Int) + 1), 0⟩) ⟨5, 1, 1, fa, 2, ta, ((j : Int) + 1), 0⟩).rack + 1)))
  clear HK hkb hkh hp1 d0 d1 d2 d3 d4 d5 d6 d7
  simp only [List.length_cons, List.length_nil, List.drop_succ_cons, List.drop_zero, Nat.zero_add]
  go_wp2
  go_ret
  refine ⟨rfl, ?_, Chg.trans G0.out (Chg.trans (Chg.of_up kb) (G9.out.mono fun b _ hb => hb.1.1))⟩
  have := (X9.out.mono (T := S) (fun b _ hb => hb.1.1)).mach
  exact this
theorem execute_split12L (w : World) {S : Nat → Prop} {K p : Nat} {m : MachM} {F B C L D : Value} {fs bs : List Value} (h : MachX w S K p m F B C L D fs bs) (hS : NewIn S w) (hi : MInv m) (fb fa tb ta rk : Int) (j : Nat) (hx : okOp m.wd ⟨5, (-1), 1, fa, 2, ta, ((j : Int) + 1), 0⟩) (h0 : codeM m ⟨5, (-1), 1, fa, 2, ta, ((j : Int) + 1), 0⟩ = 0) :
    Calls Tryz.prog 69 #[.pointer (some ⟨p, 0, none⟩), .agg #[.int .i64 5, .int .i64 (-1), .int .i64 1, .int .i64 fa, .int .i64 2, .int .i64 ta, .int .i64 ((j : Int) + 1), .int .i64 0]] w fun e w' => e = .returned (.int .i64 0) ∧ Mach w' S K p (execM m ⟨5, (-1), 1, fa, 2, ta, ((j : Int) + 1), 0⟩) ∧ Chg S w w' := by
  obtain ⟨hx1, hx2, hx3⟩ := hx
  have hv := valid_cases hx1
  dsimp only at hx2 hx3 hv
  have hwd := hi.wd
  have hrk := hi.rack
  have cz := code_zero h0
  dsimp only at cz
  have HX := Lib.hid (show okOp m.wd ⟨5, (-1), 1, fa, 2, ta, ((j : Int) + 1), 0⟩ from ⟨hx1, hx2, hx3⟩)
  clear hx1
  have H0 := Lib.hid h0
  clear h0
  have Hi := Lib.hid hi
  have HS := Lib.hid hS
  have HX2 := Lib.hid (h.mono (T := (fun b => S b ∧ b ≠ w.heap.size)) (fun b hb hs => ⟨hs, Nat.ne_of_lt hb⟩))
  have hn1 : okN m 1 fa := ⟨by decide, by omega, by omega⟩
  have hn2 : okN m 2 ta := ⟨by decide, by omega, by omega⟩
  have hl9 := (cz.2.2.2.2 (.inr rfl)).2.2
  have hnl := cz.2.1 (by decide)
  have hnl2 := hi.nl
  have hll := (hi.on_ 1 fa).1
  have X := Lib.hid (HX2.out)
  have U := Lib.hid ((Chg.refl Nowhere w))
  clear h hi hS HX2
  replace X := Lib.hid (X.out.up ((Chg.refl Nowhere w).alloc (.cells #[.int .i64 5, .int .i64 (-1), .int .i64 1, .int .i64 fa, .int .i64 2, .int .i64 ta, .int .i64 ((j : Int) + 1), .int .i64 0] 44)))
  replace U := Lib.hid (Chg.trans U.out ((Chg.refl Nowhere w).alloc (.cells #[.int .i64 5, .int .i64 (-1), .int .i64 1, .int .i64 fa, .int .i64 2, .int .i64 ta, .int .i64 ((j : Int) + 1), .int .i64 0] 44)))
  obtain ⟨b0, b1, b2, b3, b4, b5, b6, b7⟩ := box8 w (.int .i64 5) (.int .i64 (-1)) (.int .i64 1) (.int .i64 fa) (.int .i64 2) (.int .i64 ta) (.int .i64 ((j : Int) + 1)) (.int .i64 0) 44
  have hbx13 : w.heap.size < (w.alloc (.cells #[.int .i64 5, .int .i64 (-1), .int .i64 1, .int .i64 fa, .int .i64 2, .int .i64 ta, .int .i64 ((j : Int) + 1), .int .i64 0] 44)).heap.size := by simp
  have HS2 := Lib.hid ((fun b hb => by have h1 : w.heap.size + 1 ≤ b := (by simpa [NewIn] using hb); exact ⟨HS.out b (by omega), by omega⟩) : NewIn (fun b => S b ∧ b ≠ w.heap.size) (w.alloc (.cells #[.int .i64 5, .int .i64 (-1), .int .i64 1, .int .i64 fa, .int .i64 2, .int .i64 ta, .int .i64 ((j : Int) + 1), .int .i64 0] 44)))
  have hlb : w.heap.size < (w.alloc (.cells #[.int .i64 5, .int .i64 (-1), .int .i64 1, .int .i64 fa, .int .i64 2, .int .i64 ta, .int .i64 ((j : Int) + 1), .int .i64 0] 44)).heap.size := by simp
  go_enter Tryz.func69, Tryz.ntmps69
  go_wp2_with fail
  refine (opCode_0 _ X.out Hi.out _ HX.out H0.out).mono ?_
  rintro e w14 ⟨rfl, g1⟩
  have G1 := Lib.hid g1
  have hz14 := G1.out.size
  clear g1
  replace X := Lib.hid (X.out.up (tt G1.out))
  replace U := Lib.hid (Chg.trans U.out (tt G1.out))
  have hh := cc8 (tt G1.out) b0 b1 b2 b3 b4 b5 b6 b7
  clear b0 b1 b2 b3 b4 b5 b6 b7
  obtain ⟨b0, b1, b2, b3, b4, b5, b6, b7⟩ := hh
  clear G1
  have hz6 := U.out.size
  have HSn := Lib.hid ((fun b hb => ⟨HS.out b (by omega), by omega⟩) : NewIn (fun b => S b ∧ b ≠ w.heap.size) w14)
  go_wp2
  refine wp_region_l 157 ((fun b => S b ∧ b ≠ w.heap.size)) 7 [kon (.pointer (some ⟨p, 0, none⟩)), kon (.agg #[.int .i64 5, .int .i64 (-1), .int .i64 1, .int .i64 fa, .int .i64 2, .int .i64 ta, .int .i64 ((j : Int) + 1), .int .i64 0]), kon (.pointer (some ⟨p, 0, none⟩)), kon (.pointer (some ⟨w.heap.size, 2, none⟩)), kon (.agg #[.int .i64 1, .int .i64 fa]), kon (.pointer (some ⟨w.heap.size, 4, none⟩)), kon (.agg #[.int .i64 2, .int .i64 ta]), (fun v w' => OwnI w' 0 v (onM m 1 fa) ∧ Mach w' (fun b => (fun b => S b ∧ b ≠ w.heap.size) b ∧ v.ownBlock ≠ some b) K p (shiftM m ⟨5, (-1), 1, fa, 2, ta, ((j : Int) + 1), 0⟩))] [(0, 47, []), (1, 48, []), (2, 49, []), (3, 50, []), (4, 51, [3]), (5, 52, []), (6, 53, [5]), (7, 54, [2, 4, 6])] (by kernel_rfl) (by kernel_rfl) (by kernel_rfl) rfl ?_ ?_ ?_
  · exact ⟨(keeps_kon _), ⟨(keeps_kon _), ⟨(keeps_kon _), ⟨(keeps_kon _), ⟨(keeps_kon _), ⟨(keeps_kon _), ⟨(keeps_kon _), ⟨(fun v w1 w2 ⟨h1, h2⟩ k => ⟨h1.up k, h2.up k⟩), trivial⟩⟩⟩⟩⟩⟩⟩⟩
  · exact ⟨.inr (keeps_kon _), ⟨.inr (keeps_kon _), ⟨.inr (keeps_kon _), ⟨.inr (keeps_kon _), ⟨.inr (keeps_kon _), ⟨.inr (keeps_kon _), ⟨.inr (keeps_kon _), ⟨.inl rfl, trivial⟩⟩⟩⟩⟩⟩⟩⟩
  refine ⟨fun w1 hc _ hn => ?_, fun v0 => ?_⟩
  · refine grow_same (v := .pointer (some ⟨p, 0, none⟩)) ?_ ?_
    exact x_move (.tmp 0) rfl rfl
    rfl
  refine ⟨fun w1 hc _ hn => ?_, fun v1 => ?_⟩
  · refine grow_same (v := .agg #[.int .i64 5, .int .i64 (-1), .int .i64 1, .int .i64 fa, .int .i64 2, .int .i64 ta, .int .i64 ((j : Int) + 1), .int .i64 0]) ?_ ?_
    exact x_load (q := .pointer (some ⟨w.heap.size, 0, none⟩)) 44 (.tmp 3) (by rfl) (by rfl) (by exact ld_op _ _ _ _ _ _ _ _ _ _ _ (hc.cell b0 (fun h => h.2 rfl)) (hc.cell b1 (fun h => h.2 rfl)) (hc.cell b2 (fun h => h.2 rfl)) (hc.cell b3 (fun h => h.2 rfl)) (hc.cell b4 (fun h => h.2 rfl)) (hc.cell b5 (fun h => h.2 rfl)) (hc.cell b6 (fun h => h.2 rfl)) (hc.cell b7 (fun h => h.2 rfl)))
    rfl
  refine ⟨fun w1 hc _ hn => ?_, fun v2 => ?_⟩
  · refine grow_same (v := .pointer (some ⟨p, 0, none⟩)) ?_ ?_
    exact x_move (.tmp 0) rfl rfl
    rfl
  refine ⟨fun w1 hc _ hn => ?_, fun v3 => ?_⟩
  · refine grow_same (v := .pointer (some ⟨w.heap.size, 2, none⟩)) ?_ ?_
    exact x_field (q := .pointer (some ⟨w.heap.size, 0, none⟩)) 44 (.tmp 3) 2 (by rfl) (by rfl) (by exact fa_o2 _ _ _)
    rfl
  refine ⟨fun w1 hc _ hn => ?_, fun v4 => ?_⟩
  · obtain rfl : (.pointer (some ⟨w.heap.size, 2, none⟩) : Value) = v3 := Eq.symm hn.1
    refine grow_same (v := .agg #[.int .i64 1, .int .i64 fa]) ?_ ?_
    exact x_load (q := .pointer (some ⟨w.heap.size, 2, none⟩)) 42 (.tmp 50) (by rfl) (by rfl) (by exact ld_needle _ _ _ _ _ (hc.cell b2 (fun h => h.2 rfl)) (hc.cell b3 (fun h => h.2 rfl)))
    rfl
  refine ⟨fun w1 hc _ hn => ?_, fun v5 => ?_⟩
  · refine grow_same (v := .pointer (some ⟨w.heap.size, 4, none⟩)) ?_ ?_
    exact x_field (q := .pointer (some ⟨w.heap.size, 0, none⟩)) 44 (.tmp 3) 3 (by rfl) (by rfl) (by exact fa_o3 _ _ _)
    rfl
  refine ⟨fun w1 hc _ hn => ?_, fun v6 => ?_⟩
  · obtain rfl : (.pointer (some ⟨w.heap.size, 4, none⟩) : Value) = v5 := Eq.symm hn.1
    refine grow_same (v := .agg #[.int .i64 2, .int .i64 ta]) ?_ ?_
    exact x_load (q := .pointer (some ⟨w.heap.size, 4, none⟩)) 42 (.tmp 52) (by rfl) (by rfl) (by exact ld_needle _ _ _ _ _ (hc.cell b4 (fun h => h.2 rfl)) (hc.cell b5 (fun h => h.2 rfl)))
    rfl
  refine ⟨fun w1 hc hu hn => ?_, fun v7 => ?_⟩
  · obtain rfl : (.pointer (some ⟨p, 0, none⟩) : Value) = v2 := Eq.symm hn.1
    obtain rfl : (.agg #[.int .i64 1, .int .i64 fa] : Value) = v4 := Eq.symm hn.2.1
    obtain rfl : (.agg #[.int .i64 2, .int .i64 ta] : Value) = v6 := Eq.symm hn.2.2.1
    refine grow_call (f := 82) (args := #[.pointer (some ⟨p, 0, none⟩), .agg #[.int .i64 1, .int .i64 fa], .agg #[.int .i64 2, .int .i64 ta]]) (x_call #[.tmp 49, .tmp 51, .tmp 53] #[63, 42, 42] Tryz.func82 (by rfl) (by rfl) (by rfl) (by rfl) (by simp only [List.map_toArray, List.map_cons, List.map_nil]; rfl)) ?_
    refine (transfer_12 w1 (X.out.up (hu rfl)) (NewIn.up HSn.out hc) Hi.out 5 (-1) fa ta ((j : Int) + 1) 0 hn1 hn2 hl9).mono ?_
    rintro e w' ⟨v', rfl, k1, k2, k3⟩
    exact ⟨_, rfl, rg_eff k3, k1, k2⟩
  intro wa ka hn7
  obtain ⟨⟨fo, fm⟩, rfl, rfl, rfl, rfl, rfl, rfl, rfl, -⟩ := hn7
  obtain ⟨F7, B7, C7, L7, D7, fs7, bs7, x7⟩ := fm
  have HO7 := Lib.hid fo
  have X7 := Lib.hid x7
  clear fo x7
  have hw7 := ka.size
  have HS7 := Lib.hid ((fun b hb => ⟨HSn.out b (by omega), fun e => by have h1 := (HO7.out.1.lt _ e).2; omega⟩) : NewIn (fun b => (fun b => S b ∧ b ≠ w.heap.size) b ∧ v7.ownBlock ≠ some b) wa)
  have d0 := ka.cell b0 (fun h => h.2 rfl)
  clear b0
  have d1 := ka.cell b1 (fun h => h.2 rfl)
  clear b1
  have d2 := ka.cell b2 (fun h => h.2 rfl)
  clear b2
  have d3 := ka.cell b3 (fun h => h.2 rfl)
  clear b3
  have d4 := ka.cell b4 (fun h => h.2 rfl)
  clear b4
  have d5 := ka.cell b5 (fun h => h.2 rfl)
  clear b5
  have d6 := ka.cell b6 (fun h => h.2 rfl)
  clear b6
  have d7 := ka.cell b7 (fun h => h.2 rfl)
  clear b7
  have hi7 := Lib.hid (Hi.out.shift (o := ⟨5, (-1), 1, fa, 2, ta, ((j : Int) + 1), 0⟩) hl9)
  have hon7 : onM (shiftM m ⟨5, (-1), 1, fa, 2, ta, ((j : Int) + 1), 0⟩) 1 fa = [] := onM_setM (Hi.out.setM_ _ _ (bothM_ok Hi.out (o := ⟨5, (-1), 1, fa, 2, ta, ((j : Int) + 1), 0⟩) hl9)) [] ⟨hn1.2.1, by rw [(setM_same _ _ _).1]; exact hn1.2.2⟩
  have hs7 : (shiftM m ⟨5, (-1), 1, fa, 2, ta, ((j : Int) + 1), 0⟩).nl = m.nl := by unfold shiftM; rw [(setM_same _ _ _).2.2.2, (setM_same _ _ _).2.2.2]
  have hsw : (shiftM m ⟨5, (-1), 1, fa, 2, ta, ((j : Int) + 1), 0⟩).wd = m.wd := by unfold shiftM; rw [(setM_same _ _ _).1, (setM_same _ _ _).1]
  have G7 := Lib.hid (Chg.trans (Chg.of_up U.out) (ka.mono fun b _ hb => hb.1) : Chg S w wa)
  simp only [List.length_cons, List.length_nil, List.drop_succ_cons, List.drop_zero, Nat.zero_add]
  go_wp2_with fail
  refine (loop_any _ X7.out HS7.out hi7.out 5 (-1) 1 fa 2 ta ((j : Int) + 1) 0 ⟨hn1.1, hn1.2.1, by rw [hsw]; exact hn1.2.2⟩ (by rw [hon7]; simp) (by omega) (fun b => v7.ownBlock = some b) _ _ HO7.out.intsOwn (fun b _ e h => h.2 e) (by omega)).mono ?_
  rintro e w9 ⟨rfl, hm9, g9⟩
  obtain ⟨F9, B9, C9, L9, D9, fs9, bs9, x9⟩ := hm9
  have X9a := Lib.hid x9
  have G0 := Lib.hid (Chg.trans G7.out (g9.mono fun b _ hb => hb.1.1) : Chg S w w9)
  replace d0 := g9.cell d0 (fun h => h.1.2 rfl)
  replace d1 := g9.cell d1 (fun h => h.1.2 rfl)
  replace d2 := g9.cell d2 (fun h => h.1.2 rfl)
  replace d3 := g9.cell d3 (fun h => h.1.2 rfl)
  replace d4 := g9.cell d4 (fun h => h.1.2 rfl)
  replace d5 := g9.cell d5 (fun h => h.1.2 rfl)
  replace d6 := g9.cell d6 (fun h => h.1.2 rfl)
  replace d7 := g9.cell d7 (fun h => h.1.2 rfl)
  clear x9 g9
  have Hi9 := Lib.hid (hi7.out.loop (o := ⟨5, (-1), 1, fa, 2, ta, ((j : Int) + 1), 0⟩) (by dsimp only; rw [hon7]; simp) (by omega) : MInv (loopM (shiftM m ⟨5, (-1), 1, fa, 2, ta, ((j : Int) + 1), 0⟩) ⟨5, (-1), 1, fa, 2, ta, ((j : Int) + 1), 0⟩))
  obtain ⟨gC, jc, cC, hK, hCe⟩ := X9a.out.car Hi9.out (car := ((j : Int) + 1)) (by omega)
  obtain rfl : j = jc := by have := hK.ec; omega
  have hKj := hK.jl
  have hp1 := X9a.out.c1.1
  have HK := Lib.hid hK
  have hkh := hK.hdr.1
  have hkb := hK.b
  clear hK
  have hrk1 : -3 ≤ (loopM (shiftM m ⟨5, (-1), 1, fa, 2, ta, ((j : Int) + 1), 0⟩) ⟨5, (-1), 1, fa, 2, ta, ((j : Int) + 1), 0⟩).rack ∧ (loopM (shiftM m ⟨5, (-1), 1, fa, 2, ta, ((j : Int) + 1), 0⟩) ⟨5, (-1), 1, fa, 2, ta, ((j : Int) + 1), 0⟩).rack ≤ 3 := Hi9.out.rack
  have hpl := placeM_bd (b := 1) (a := fa) (r := (loopM (shiftM m ⟨5, (-1), 1, fa, 2, ta, ((j : Int) + 1), 0⟩) ⟨5, (-1), 1, fa, 2, ta, ((j : Int) + 1), 0⟩).rack) (by omega) hrk1
  go_wp2_with fail
  refine (makesLoop_b _ 5 true (by decide)).mono ?_
  rintro e w' ⟨rfl, rfl⟩
  go_wp2
  refine wp_region_l 157 (Nowhere) 21 [kon (.pointer (some ⟨p, 0, none⟩)), kon (.pointer (some ⟨p, 0, none⟩)), kon (.pointer (some ⟨p, 4, none⟩)), kon (.slice (some ⟨gC, 0, none⟩) 4 cC), kon (.pointer (some ⟨w.heap.size, 6, none⟩)), kon (.int .i64 ((j : Int) + 1)), kon (.int .i64 (j : Int)), kon (.pointer (some ⟨w.heap.size, 2, none⟩)), kon (.agg #[.int .i64 1, .int .i64 fa]), kon (.pointer (some ⟨p, 0, none⟩)), kon (.pointer (some ⟨p, 0, none⟩)), kon (.pointer (some ⟨p, 1, none⟩)), kon (.int .i64 (loopM (shiftM m ⟨5, (-1), 1, fa, 2, ta, ((j : Int) + 1), 0⟩) ⟨5, (-1), 1, fa, 2, ta, ((j : Int) + 1), 0⟩).rack), kon (.int .i64 (placeM 1 fa (loopM (shiftM m ⟨5, (-1), 1, fa, 2, ta, ((j : Int) + 1), 0⟩) ⟨5, (-1), 1, fa, 2, ta, ((j : Int) + 1), 0⟩).rack)), kon (.pointer (some ⟨w.heap.size, 1, none⟩)), kon (.int .i64 (-1)), kon (.int .i64 0), kon (.int .i64 0), kon (.int .i64 (placeM 1 fa (loopM (shiftM m ⟨5, (-1), 1, fa, 2, ta, ((j : Int) + 1), 0⟩) ⟨5, (-1), 1, fa, 2, ta, ((j : Int) + 1), 0⟩).rack + 0)), kon (.pointer (some ⟨gC, j * 2, none⟩)), kon (.pointer (some ⟨gC, j * 2 + 1, none⟩))] [(0, 136, []), (1, 137, [0]), (2, 138, [1]), (3, 139, [2]), (4, 140, []), (5, 141, [4]), (6, 142, [5]), (7, 143, []), (8, 144, [7]), (9, 145, []), (10, 146, [9]), (11, 147, [10]), (12, 148, [11]), (13, 149, [8, 12]), (14, 150, []), (15, 151, [14]), (16, 152, [15]), (17, 153, [16]), (18, 154, [13, 17]), (19, 155, [3, 6, 0, 1, 2, 3, 4, 5, 6, 7, 8, 9, 10, 11, 12, 13, 14, 15, 16, 17, 18]), (20, 156, [19, 0, 1, 2, 3, 4, 5, 6, 7, 8, 9, 10, 11, 12, 13, 14, 15, 16, 17, 18])] (by kernel_rfl) (by kernel_rfl) (by kernel_rfl) rfl ?_ ?_ ?_
  · exact ⟨(keeps_kon _), ⟨(keeps_kon _), ⟨(keeps_kon _), ⟨(keeps_kon _), ⟨(keeps_kon _), ⟨(keeps_kon _), ⟨(keeps_kon _), ⟨(keeps_kon _), ⟨(keeps_kon _), ⟨(keeps_kon _), ⟨(keeps_kon _), ⟨(keeps_kon _), ⟨(keeps_kon _), ⟨(keeps_kon _), ⟨(keeps_kon _), ⟨(keeps_kon _), ⟨(keeps_kon _), ⟨(keeps_kon _), ⟨(keeps_kon _), ⟨(keeps_kon _), ⟨(keeps_kon _), trivial⟩⟩⟩⟩⟩⟩⟩⟩⟩⟩⟩⟩⟩⟩⟩⟩⟩⟩⟩⟩⟩
  · exact allBut_none 0 ⟨(keeps_kon _), ⟨(keeps_kon _), ⟨(keeps_kon _), ⟨(keeps_kon _), ⟨(keeps_kon _), ⟨(keeps_kon _), ⟨(keeps_kon _), ⟨(keeps_kon _), ⟨(keeps_kon _), ⟨(keeps_kon _), ⟨(keeps_kon _), ⟨(keeps_kon _), ⟨(keeps_kon _), ⟨(keeps_kon _), ⟨(keeps_kon _), ⟨(keeps_kon _), ⟨(keeps_kon _), ⟨(keeps_kon _), ⟨(keeps_kon _), ⟨(keeps_kon _), ⟨(keeps_kon _), trivial⟩⟩⟩⟩⟩⟩⟩⟩⟩⟩⟩⟩⟩⟩⟩⟩⟩⟩⟩⟩⟩
  refine ⟨fun w1 hc _ hn => ?_, fun v0 => ?_⟩
  · refine grow_same (v := .pointer (some ⟨p, 0, none⟩)) ?_ ?_
    exact x_move (.tmp 0) rfl rfl
    rfl
  refine ⟨fun w1 hc _ hn => ?_, fun v1 => ?_⟩
  · obtain rfl : (.pointer (some ⟨p, 0, none⟩) : Value) = v0 := Eq.symm hn.1
    refine grow_same (v := .pointer (some ⟨p, 0, none⟩)) ?_ ?_
    exact x_nil (p := ⟨p, 0, none⟩) (.tmp 136) rfl rfl
    rfl
  refine ⟨fun w1 hc _ hn => ?_, fun v2 => ?_⟩
  · obtain rfl : (.pointer (some ⟨p, 0, none⟩) : Value) = v1 := Eq.symm hn.1
    refine grow_same (v := .pointer (some ⟨p, 4, none⟩)) ?_ ?_
    exact x_field (q := .pointer (some ⟨p, 0, none⟩)) 60 (.tmp 137) 4 (by rfl) (by rfl) (by exact fa_m4 _ _)
    rfl
  refine ⟨fun w1 hc _ hn => ?_, fun v3 => ?_⟩
  · obtain rfl : (.pointer (some ⟨p, 4, none⟩) : Value) = v2 := Eq.symm hn.1
    refine grow_same (v := .slice (some ⟨gC, 0, none⟩) 4 cC) ?_ ?_
    exact x_load (q := .pointer (some ⟨p, 4, none⟩)) 57 (.tmp 138) (by rfl) (by rfl) (by exact ld_cars _ _ _ (hc.cell hkh id))
    rfl
  refine ⟨fun w1 hc _ hn => ?_, fun v4 => ?_⟩
  · refine grow_same (v := .pointer (some ⟨w.heap.size, 6, none⟩)) ?_ ?_
    exact x_field (q := .pointer (some ⟨w.heap.size, 0, none⟩)) 44 (.tmp 3) 4 (by rfl) (by rfl) (by exact fa_o4 _ _ _)
    rfl
  refine ⟨fun w1 hc _ hn => ?_, fun v5 => ?_⟩
  · obtain rfl : (.pointer (some ⟨w.heap.size, 6, none⟩) : Value) = v4 := Eq.symm hn.1
    refine grow_same (v := .int .i64 ((j : Int) + 1)) ?_ ?_
    exact x_load (q := .pointer (some ⟨w.heap.size, 6, none⟩)) 2 (.tmp 140) (by rfl) (by rfl) (by exact ld_int _ _ _ (hc.cell d6 id))
    rfl
  refine ⟨fun w1 hc _ hn => ?_, fun v6 => ?_⟩
  · obtain rfl : (.int .i64 ((j : Int) + 1) : Value) = v5 := Eq.symm hn.1
    exact grow_same (v := .int .i64 (j : Int)) (x_subc (.tmp 141) (.const (.int .i64 1)) (by rfl) (a := ((j : Int) + 1)) (b := 1) (by rfl) (by rfl) (by omega) (by omega)) rfl
  refine ⟨fun w1 hc _ hn => ?_, fun v7 => ?_⟩
  · refine grow_same (v := .pointer (some ⟨w.heap.size, 2, none⟩)) ?_ ?_
    exact x_field (q := .pointer (some ⟨w.heap.size, 0, none⟩)) 44 (.tmp 3) 2 (by rfl) (by rfl) (by exact fa_o2 _ _ _)
    rfl
  refine ⟨fun w1 hc _ hn => ?_, fun v8 => ?_⟩
  · obtain rfl : (.pointer (some ⟨w.heap.size, 2, none⟩) : Value) = v7 := Eq.symm hn.1
    refine grow_same (v := .agg #[.int .i64 1, .int .i64 fa]) ?_ ?_
    exact x_load (q := .pointer (some ⟨w.heap.size, 2, none⟩)) 42 (.tmp 143) (by rfl) (by rfl) (by exact ld_needle _ _ _ _ _ (hc.cell d2 id) (hc.cell d3 id))
    rfl
  refine ⟨fun w1 hc _ hn => ?_, fun v9 => ?_⟩
  · refine grow_same (v := .pointer (some ⟨p, 0, none⟩)) ?_ ?_
    exact x_move (.tmp 0) rfl rfl
    rfl
  refine ⟨fun w1 hc _ hn => ?_, fun v10 => ?_⟩
  · obtain rfl : (.pointer (some ⟨p, 0, none⟩) : Value) = v9 := Eq.symm hn.1
    refine grow_same (v := .pointer (some ⟨p, 0, none⟩)) ?_ ?_
    exact x_nil (p := ⟨p, 0, none⟩) (.tmp 145) rfl rfl
    rfl
  refine ⟨fun w1 hc _ hn => ?_, fun v11 => ?_⟩
  · obtain rfl : (.pointer (some ⟨p, 0, none⟩) : Value) = v10 := Eq.symm hn.1
    refine grow_same (v := .pointer (some ⟨p, 1, none⟩)) ?_ ?_
    exact x_field (q := .pointer (some ⟨p, 0, none⟩)) 60 (.tmp 146) 1 (by rfl) (by rfl) (by exact fa_m1 _ _)
    rfl
  refine ⟨fun w1 hc _ hn => ?_, fun v12 => ?_⟩
  · obtain rfl : (.pointer (some ⟨p, 1, none⟩) : Value) = v11 := Eq.symm hn.1
    refine grow_same (v := .int .i64 (loopM (shiftM m ⟨5, (-1), 1, fa, 2, ta, ((j : Int) + 1), 0⟩) ⟨5, (-1), 1, fa, 2, ta, ((j : Int) + 1), 0⟩).rack) ?_ ?_
    exact x_load (q := .pointer (some ⟨p, 1, none⟩)) 2 (.tmp 147) (by rfl) (by rfl) (by exact ld_int _ _ _ (hc.cell hp1 id))
    rfl
  refine ⟨fun w1 hc _ hn => ?_, fun v13 => ?_⟩
  · obtain rfl : (.agg #[.int .i64 1, .int .i64 fa] : Value) = v8 := Eq.symm hn.1
    obtain rfl : (.int .i64 (loopM (shiftM m ⟨5, (-1), 1, fa, 2, ta, ((j : Int) + 1), 0⟩) ⟨5, (-1), 1, fa, 2, ta, ((j : Int) + 1), 0⟩).rack : Value) = v12 := Eq.symm hn.2.1
    refine grow_call (f := 85) (args := #[.agg #[.int .i64 1, .int .i64 fa], .int .i64 (loopM (shiftM m ⟨5, (-1), 1, fa, 2, ta, ((j : Int) + 1), 0⟩) ⟨5, (-1), 1, fa, 2, ta, ((j : Int) + 1), 0⟩).rack]) (x_call #[.tmp 144, .tmp 148] #[42, 2] Tryz.func85 (by rfl) (by rfl) (by rfl) (by rfl) (by simp only [List.map_toArray, List.map_cons, List.map_nil]; rfl)) ?_
    refine (place_any w1 1 fa _ (by omega) (by omega)).mono ?_
    rintro e w' ⟨rfl, g1⟩
    exact ⟨_, rfl, rg_up g1, rfl⟩
  refine ⟨fun w1 hc _ hn => ?_, fun v14 => ?_⟩
  · refine grow_same (v := .pointer (some ⟨w.heap.size, 1, none⟩)) ?_ ?_
    exact x_field (q := .pointer (some ⟨w.heap.size, 0, none⟩)) 44 (.tmp 3) 1 (by rfl) (by rfl) (by exact fa_o1 _ _ _)
    rfl
  refine ⟨fun w1 hc _ hn => ?_, fun v15 => ?_⟩
  · obtain rfl : (.pointer (some ⟨w.heap.size, 1, none⟩) : Value) = v14 := Eq.symm hn.1
    refine grow_same (v := .int .i64 (-1)) ?_ ?_
    exact x_load (q := .pointer (some ⟨w.heap.size, 1, none⟩)) 2 (.tmp 150) (by rfl) (by rfl) (by exact ld_int _ _ _ (hc.cell d1 id))
    rfl
  refine ⟨fun w1 hc _ hn => ?_, fun v16 => ?_⟩
  · obtain rfl : (.int .i64 (-1) : Value) = v15 := Eq.symm hn.1
    exact grow_same (v := .int .i64 0) (x_add (.tmp 151) (.const (.int .i64 1)) (by rfl) (a := (-1)) (b := 1) (by rfl) (by rfl) (by omega)) rfl
  refine ⟨fun w1 hc _ hn => ?_, fun v17 => ?_⟩
  · obtain rfl : (.int .i64 0 : Value) = v16 := Eq.symm hn.1
    exact grow_same (v := .int .i64 0) (x_quo (.tmp 152) (.const (.int .i64 2)) (by rfl) (a := 0) (b := 2) (by rfl) (by rfl) (by decide) (by decide)) rfl
  refine ⟨fun w1 hc _ hn => ?_, fun v18 => ?_⟩
  · obtain rfl : (.int .i64 (placeM 1 fa (loopM (shiftM m ⟨5, (-1), 1, fa, 2, ta, ((j : Int) + 1), 0⟩) ⟨5, (-1), 1, fa, 2, ta, ((j : Int) + 1), 0⟩).rack) : Value) = v13 := Eq.symm hn.1
    obtain rfl : (.int .i64 0 : Value) = v17 := Eq.symm hn.2.1
    refine grow_same (v := .int .i64 (placeM 1 fa (loopM (shiftM m ⟨5, (-1), 1, fa, 2, ta, ((j : Int) + 1), 0⟩) ⟨5, (-1), 1, fa, 2, ta, ((j : Int) + 1), 0⟩).rack + 0)) ?_ ?_
    exact x_add (.tmp 149) (.tmp 153) (by rfl) (a := placeM 1 fa (loopM (shiftM m ⟨5, (-1), 1, fa, 2, ta, ((j : Int) + 1), 0⟩) ⟨5, (-1), 1, fa, 2, ta, ((j : Int) + 1), 0⟩).rack) (b := 0) (by rfl) (by rfl) (by omega)
    rfl
  refine ⟨fun w1 hc _ hn => ?_, fun v19 => ?_⟩
  · obtain rfl : (.slice (some ⟨gC, 0, none⟩) 4 cC : Value) = v3 := Eq.symm hn.1
    obtain rfl : (.int .i64 (j : Int) : Value) = v6 := Eq.symm hn.2.1
    refine grow_same (v := .pointer (some ⟨gC, j * 2, none⟩)) ?_ ?_
    exact x_ixa 57 (.tmp 139) (.tmp 142) (by rfl) (u1 := .slice (some ⟨gC, 0, none⟩) 4 cC) (u2 := .int .i64 (j : Int)) (by rfl) (by rfl) (by exact ixa_car _ _ _ _ hKj _)
    rfl
  refine ⟨fun w1 hc _ hn => ?_, fun v20 => ?_⟩
  · obtain rfl : (.pointer (some ⟨gC, j * 2, none⟩) : Value) = v19 := Eq.symm hn.1
    refine grow_same (v := .pointer (some ⟨gC, j * 2 + 1, none⟩)) ?_ ?_
    exact x_field (q := .pointer (some ⟨gC, j * 2, none⟩)) 96 (.tmp 155) 1 (by rfl) (by rfl) (by exact fa_c1 _ _ _)
    rfl
  intro wb kb hn8
  obtain ⟨rfl, rfl, rfl, rfl, rfl, rfl, rfl, rfl, rfl, rfl, rfl, rfl, rfl, rfl, rfl, rfl, rfl, rfl, rfl, rfl, rfl, -⟩ := hn8
  have E9 := kb.cell hkb.1 id
  have F9 := (kb.frozen hkb.1 id).trans hkb.2
  have X9 := Lib.hid ((X9a.out.up kb).ride Hi9.out (car := ((j : Int) + 1)) rfl hKj hCe (placeM 1 fa (loopM (shiftM m ⟨5, (-1), 1, fa, 2, ta, ((j : Int) + 1), 0⟩) ⟨5, (-1), 1, fa, 2, ta, ((j : Int) + 1), 0⟩).rack))
  have G9 := Lib.hid ((X9a.out.up kb).ride_chg hCe (j * 2 + 1) (.int .i64 (placeM 1 fa (loopM (shiftM m ⟨5, (-1), 1, fa, 2, ta, ((j : Int) + 1), 0⟩) ⟨5, (-1), 1, fa, 2, ta, ((j : Int) + 1), 0⟩).rack)))
  clear HK hkb hkh hp1 d0 d1 d2 d3 d4 d5 d6 d7
  simp only [List.length_cons, List.length_nil, List.drop_succ_cons, List.drop_zero, Nat.zero_add]
  go_wp2
  go_ret
  refine ⟨rfl, ?_, Chg.trans G0.out (Chg.trans (Chg.of_up kb) (G9.out.mono fun b _ hb => hb.1.1))⟩
  have := (X9.out.mono (T := S) (fun b _ hb => hb.1.1)).mach
  have hbe : behindM (loopM (shiftM m ⟨5, (-1), 1, fa, 2, ta, ((j : Int) + 1), 0⟩) ⟨5, (-1), 1, fa, 2, ta, ((j : Int) + 1), 0⟩) ⟨5, (-1), 1, fa, 2, ta, ((j : Int) + 1), 0⟩ = placeM 1 fa (loopM (shiftM m ⟨5, (-1), 1, fa, 2, ta, ((j : Int) + 1), 0⟩) ⟨5, (-1), 1, fa, 2, ta, ((j : Int) + 1), 0⟩).rack := Int.add_zero _
  rw [← hbe] at this ⊢
  exact this
theorem execute_split21R (w : World) {S : Nat → Prop} {K p : Nat} {m : MachM} {F B C L D : Value} {fs bs : List Value} (h : MachX w S K p m F B C L D fs bs) (hS : NewIn S w) (hi : MInv m) (fb fa tb ta rk : Int) (j : Nat) (hx : okOp m.wd ⟨5, 1, 2, fa, 1, ta, ((j : Int) + 1), 0⟩) (h0 : codeM m ⟨5, 1, 2, fa, 1, ta, ((j : Int) + 1), 0⟩ = 0) :
    Calls Tryz.prog 69 #[.pointer (some ⟨p, 0, none⟩), .agg #[.int .i64 5, .int .i64 1, .int .i64 2, .int .i64 fa, .int .i64 1, .int .i64 ta, .int .i64 ((j : Int) + 1), .int .i64 0]] w fun e w' => e = .returned (.int .i64 0) ∧ Mach w' S K p (execM m ⟨5, 1, 2, fa, 1, ta, ((j : Int) + 1), 0⟩) ∧ Chg S w w' := by
  obtain ⟨hx1, hx2, hx3⟩ := hx
  have hv := valid_cases hx1
  dsimp only at hx2 hx3 hv
  have hwd := hi.wd
  have hrk := hi.rack
  have cz := code_zero h0
  dsimp only at cz
  have HX := Lib.hid (show okOp m.wd ⟨5, 1, 2, fa, 1, ta, ((j : Int) + 1), 0⟩ from ⟨hx1, hx2, hx3⟩)
  clear hx1
  have H0 := Lib.hid h0
  clear h0
  have Hi := Lib.hid hi
  have HS := Lib.hid hS
  have HX2 := Lib.hid (h.mono (T := (fun b => S b ∧ b ≠ w.heap.size)) (fun b hb hs => ⟨hs, Nat.ne_of_lt hb⟩))
  have hn1 : okN m 2 fa := ⟨by decide, by omega, by omega⟩
  have hn2 : okN m 1 ta := ⟨by decide, by omega, by omega⟩
  have hl9 := (cz.2.2.2.2 (.inr rfl)).2.2
  have hnl := cz.2.1 (by decide)
  have hnl2 := hi.nl
  have hll := (hi.on_ 2 fa).1
  have X := Lib.hid (HX2.out)
  have U := Lib.hid ((Chg.refl Nowhere w))
  clear h hi hS HX2
  replace X := Lib.hid (X.out.up ((Chg.refl Nowhere w).alloc (.cells #[.int .i64 5, .int .i64 1, .int .i64 2, .int .i64 fa, .int .i64 1, .int .i64 ta, .int .i64 ((j : Int) + 1), .int .i64 0] 44)))
  replace U := Lib.hid (Chg.trans U.out ((Chg.refl Nowhere w).alloc (.cells #[.int .i64 5, .int .i64 1, .int .i64 2, .int .i64 fa, .int .i64 1, .int .i64 ta, .int .i64 ((j : Int) + 1), .int .i64 0] 44)))
  obtain ⟨b0, b1, b2, b3, b4, b5, b6, b7⟩ := box8 w (.int .i64 5) (.int .i64 1) (.int .i64 2) (.int .i64 fa) (.int .i64 1) (.int .i64 ta) (.int .i64 ((j : Int) + 1)) (.int .i64 0) 44
  have hbx13 : w.heap.size < (w.alloc (.cells #[.int .i64 5, .int .i64 1, .int .i64 2, .int .i64 fa, .int .i64 1, .int .i64 ta, .int .i64 ((j : Int) + 1), .int .i64 0] 44)).heap.size := by simp
  have HS2 := Lib.hid ((fun b hb => by have h1 : w.heap.size + 1 ≤ b := (by simpa [NewIn] using hb); exact ⟨HS.out b (by omega), by omega⟩) : NewIn (fun b => S b ∧ b ≠ w.heap.size) (w.alloc (.cells #[.int .i64 5, .int .i64 1, .int .i64 2, .int .i64 fa, .int .i64 1, .int .i64 ta, .int .i64 ((j : Int) + 1), .int .i64 0] 44)))
  have hlb : w.heap.size < (w.alloc (.cells #[.int .i64 5, .int .i64 1, .int .i64 2, .int .i64 fa, .int .i64 1, .int .i64 ta, .int .i64 ((j : Int) + 1), .int .i64 0] 44)).heap.size := by simp
  go_enter Tryz.func69, Tryz.ntmps69
  go_wp2_with fail
  refine (opCode_0 _ X.out Hi.out _ HX.out H0.out).mono ?_
  rintro e w14 ⟨rfl, g1⟩
  have G1 := Lib.hid g1
  have hz14 := G1.out.size
  clear g1
  replace X := Lib.hid (X.out.up (tt G1.out))
  replace U := Lib.hid (Chg.trans U.out (tt G1.out))
  have hh := cc8 (tt G1.out) b0 b1 b2 b3 b4 b5 b6 b7
  clear b0 b1 b2 b3 b4 b5 b6 b7
  obtain ⟨b0, b1, b2, b3, b4, b5, b6, b7⟩ := hh
  clear G1
  have hz6 := U.out.size
  have HSn := Lib.hid ((fun b hb => ⟨HS.out b (by omega), by omega⟩) : NewIn (fun b => S b ∧ b ≠ w.heap.size) w14)
  go_wp2
  refine wp_region_l 157 ((fun b => S b ∧ b ≠ w.heap.size)) 7 [kon (.pointer (some ⟨p, 0, none⟩)), kon (.agg #[.int .i64 5, .int .i64 1, .int .i64 2, .int .i64 fa, .int .i64 1, .int .i64 ta, .int .i64 ((j : Int) + 1), .int .i64 0]), kon (.pointer (some ⟨p, 0, none⟩)), kon (.pointer (some ⟨w.heap.size, 2, none⟩)), kon (.agg #[.int .i64 2, .int .i64 fa]), kon (.pointer (some ⟨w.heap.size, 4, none⟩)), kon (.agg #[.int .i64 1, .int .i64 ta]), (fun v w' => OwnI w' 0 v (onM m 2 fa) ∧ Mach w' (fun b => (fun b => S b ∧ b ≠ w.heap.size) b ∧ v.ownBlock ≠ some b) K p (shiftM m ⟨5, 1, 2, fa, 1, ta, ((j : Int) + 1), 0⟩))] [(0, 47, []), (1, 48, []), (2, 49, []), (3, 50, []), (4, 51, [3]), (5, 52, []), (6, 53, [5]), (7, 54, [2, 4, 6])] (by kernel_rfl) (by kernel_rfl) (by kernel_rfl) rfl ?_ ?_ ?_
  · exact ⟨(keeps_kon _), ⟨(keeps_kon _), ⟨(keeps_kon _), ⟨(keeps_kon _), ⟨(keeps_kon _), ⟨(keeps_kon _), ⟨(keeps_kon _), ⟨(fun v w1 w2 ⟨h1, h2⟩ k => ⟨h1.up k, h2.up k⟩), trivial⟩⟩⟩⟩⟩⟩⟩⟩
  · exact ⟨.inr (keeps_kon _), ⟨.inr (keeps_kon _), ⟨.inr (keeps_kon _), ⟨.inr (keeps_kon _), ⟨.inr (keeps_kon _), ⟨.inr (keeps_kon _), ⟨.inr (keeps_kon _), ⟨.inl rfl, trivial⟩⟩⟩⟩⟩⟩⟩⟩
  refine ⟨fun w1 hc _ hn => ?_, fun v0 => ?_⟩
  · refine grow_same (v := .pointer (some ⟨p, 0, none⟩)) ?_ ?_
    exact x_move (.tmp 0) rfl rfl
    rfl
  refine ⟨fun w1 hc _ hn => ?_, fun v1 => ?_⟩
  · refine grow_same (v := .agg #[.int .i64 5, .int .i64 1, .int .i64 2, .int .i64 fa, .int .i64 1, .int .i64 ta, .int .i64 ((j : Int) + 1), .int .i64 0]) ?_ ?_
    exact x_load (q := .pointer (some ⟨w.heap.size, 0, none⟩)) 44 (.tmp 3) (by rfl) (by rfl) (by exact ld_op _ _ _ _ _ _ _ _ _ _ _ (hc.cell b0 (fun h => h.2 rfl)) (hc.cell b1 (fun h => h.2 rfl)) (hc.cell b2 (fun h => h.2 rfl)) (hc.cell b3 (fun h => h.2 rfl)) (hc.cell b4 (fun h => h.2 rfl)) (hc.cell b5 (fun h => h.2 rfl)) (hc.cell b6 (fun h => h.2 rfl)) (hc.cell b7 (fun h => h.2 rfl)))
    rfl
  refine ⟨fun w1 hc _ hn => ?_, fun v2 => ?_⟩
  · refine grow_same (v := .pointer (some ⟨p, 0, none⟩)) ?_ ?_
    exact x_move (.tmp 0) rfl rfl
    rfl
  refine ⟨fun w1 hc _ hn => ?_, fun v3 => ?_⟩
  · refine grow_same (v := .pointer (some ⟨w.heap.size, 2, none⟩)) ?_ ?_
    exact x_field (q := .pointer (some ⟨w.heap.size, 0, none⟩)) 44 (.tmp 3) 2 (by rfl) (by rfl) (by exact fa_o2 _ _ _)
    rfl
  refine ⟨fun w1 hc _ hn => ?_, fun v4 => ?_⟩
  · obtain rfl : (.pointer (some ⟨w.heap.size, 2, none⟩) : Value) = v3 := Eq.symm hn.1
    refine grow_same (v := .agg #[.int .i64 2, .int .i64 fa]) ?_ ?_
    exact x_load (q := .pointer (some ⟨w.heap.size, 2, none⟩)) 42 (.tmp 50) (by rfl) (by rfl) (by exact ld_needle _ _ _ _ _ (hc.cell b2 (fun h => h.2 rfl)) (hc.cell b3 (fun h => h.2 rfl)))
    rfl
  refine ⟨fun w1 hc _ hn => ?_, fun v5 => ?_⟩
  · refine grow_same (v := .pointer (some ⟨w.heap.size, 4, none⟩)) ?_ ?_
    exact x_field (q := .pointer (some ⟨w.heap.size, 0, none⟩)) 44 (.tmp 3) 3 (by rfl) (by rfl) (by exact fa_o3 _ _ _)
    rfl
  refine ⟨fun w1 hc _ hn => ?_, fun v6 => ?_⟩
  · obtain rfl : (.pointer (some ⟨w.heap.size, 4, none⟩) : Value) = v5 := Eq.symm hn.1
    refine grow_same (v := .agg #[.int .i64 1, .int .i64 ta]) ?_ ?_
    exact x_load (q := .pointer (some ⟨w.heap.size, 4, none⟩)) 42 (.tmp 52) (by rfl) (by rfl) (by exact ld_needle _ _ _ _ _ (hc.cell b4 (fun h => h.2 rfl)) (hc.cell b5 (fun h => h.2 rfl)))
    rfl
  refine ⟨fun w1 hc hu hn => ?_, fun v7 => ?_⟩
  · obtain rfl : (.pointer (some ⟨p, 0, none⟩) : Value) = v2 := Eq.symm hn.1
    obtain rfl : (.agg #[.int .i64 2, .int .i64 fa] : Value) = v4 := Eq.symm hn.2.1
    obtain rfl : (.agg #[.int .i64 1, .int .i64 ta] : Value) = v6 := Eq.symm hn.2.2.1
    refine grow_call (f := 82) (args := #[.pointer (some ⟨p, 0, none⟩), .agg #[.int .i64 2, .int .i64 fa], .agg #[.int .i64 1, .int .i64 ta]]) (x_call #[.tmp 49, .tmp 51, .tmp 53] #[63, 42, 42] Tryz.func82 (by rfl) (by rfl) (by rfl) (by rfl) (by simp only [List.map_toArray, List.map_cons, List.map_nil]; rfl)) ?_
    refine (transfer_21 w1 (X.out.up (hu rfl)) (NewIn.up HSn.out hc) Hi.out 5 1 fa ta ((j : Int) + 1) 0 hn1 hn2 hl9).mono ?_
    rintro e w' ⟨v', rfl, k1, k2, k3⟩
    exact ⟨_, rfl, rg_eff k3, k1, k2⟩
  intro wa ka hn7
  obtain ⟨⟨fo, fm⟩, rfl, rfl, rfl, rfl, rfl, rfl, rfl, -⟩ := hn7
  obtain ⟨F7, B7, C7, L7, D7, fs7, bs7, x7⟩ := fm
  have HO7 := Lib.hid fo
  have X7 := Lib.hid x7
  clear fo x7
  have hw7 := ka.size
  have HS7 := Lib.hid ((fun b hb => ⟨HSn.out b (by omega), fun e => by have h1 := (HO7.out.1.lt _ e).2; omega⟩) : NewIn (fun b => (fun b => S b ∧ b ≠ w.heap.size) b ∧ v7.ownBlock ≠ some b) wa)
  have d0 := ka.cell b0 (fun h => h.2 rfl)
  clear b0
  have d1 := ka.cell b1 (fun h => h.2 rfl)
  clear b1
  have d2 := ka.cell b2 (fun h => h.2 rfl)
  clear b2
  have d3 := ka.cell b3 (fun h => h.2 rfl)
  clear b3
  have d4 := ka.cell b4 (fun h => h.2 rfl)
  clear b4
  have d5 := ka.cell b5 (fun h => h.2 rfl)
  clear b5
  have d6 := ka.cell b6 (fun h => h.2 rfl)
  clear b6
  have d7 := ka.cell b7 (fun h => h.2 rfl)
  clear b7
  have hi7 := Lib.hid (Hi.out.shift (o := ⟨5, 1, 2, fa, 1, ta, ((j : Int) + 1), 0⟩) hl9)
  have hon7 : onM (shiftM m ⟨5, 1, 2, fa, 1, ta, ((j : Int) + 1), 0⟩) 2 fa = [] := onM_setM (Hi.out.setM_ _ _ (bothM_ok Hi.out (o := ⟨5, 1, 2, fa, 1, ta, ((j : Int) + 1), 0⟩) hl9)) [] ⟨hn1.2.1, by rw [(setM_same _ _ _).1]; exact hn1.2.2⟩
  have hs7 : (shiftM m ⟨5, 1, 2, fa, 1, ta, ((j : Int) + 1), 0⟩).nl = m.nl := by unfold shiftM; rw [(setM_same _ _ _).2.2.2, (setM_same _ _ _).2.2.2]
  have hsw : (shiftM m ⟨5, 1, 2, fa, 1, ta, ((j : Int) + 1), 0⟩).wd = m.wd := by unfold shiftM; rw [(setM_same _ _ _).1, (setM_same _ _ _).1]
  have G7 := Lib.hid (Chg.trans (Chg.of_up U.out) (ka.mono fun b _ hb => hb.1) : Chg S w wa)
  simp only [List.length_cons, List.length_nil, List.drop_succ_cons, List.drop_zero, Nat.zero_add]
  go_wp2_with fail
  refine (loop_any _ X7.out HS7.out hi7.out 5 1 2 fa 1 ta ((j : Int) + 1) 0 ⟨hn1.1, hn1.2.1, by rw [hsw]; exact hn1.2.2⟩ (by rw [hon7]; simp) (by omega) (fun b => v7.ownBlock = some b) _ _ HO7.out.intsOwn (fun b _ e h => h.2 e) (by omega)).mono ?_
  rintro e w9 ⟨rfl, hm9, g9⟩
  obtain ⟨F9, B9, C9, L9, D9, fs9, bs9, x9⟩ := hm9
  have X9a := Lib.hid x9
  have G0 := Lib.hid (Chg.trans G7.out (g9.mono fun b _ hb => hb.1.1) : Chg S w w9)
  replace d0 := g9.cell d0 (fun h => h.1.2 rfl)
  replace d1 := g9.cell d1 (fun h => h.1.2 rfl)
  replace d2 := g9.cell d2 (fun h => h.1.2 rfl)
  replace d3 := g9.cell d3 (fun h => h.1.2 rfl)
  replace d4 := g9.cell d4 (fun h => h.1.2 rfl)
  replace d5 := g9.cell d5 (fun h => h.1.2 rfl)
  replace d6 := g9.cell d6 (fun h => h.1.2 rfl)
  replace d7 := g9.cell d7 (fun h => h.1.2 rfl)
  clear x9 g9
  have Hi9 := Lib.hid (hi7.out.loop (o := ⟨5, 1, 2, fa, 1, ta, ((j : Int) + 1), 0⟩) (by dsimp only; rw [hon7]; simp) (by omega) : MInv (loopM (shiftM m ⟨5, 1, 2, fa, 1, ta, ((j : Int) + 1), 0⟩) ⟨5, 1, 2, fa, 1, ta, ((j : Int) + 1), 0⟩))
  obtain ⟨gC, jc, cC, hK, hCe⟩ := X9a.out.car Hi9.out (car := ((j : Int) + 1)) (by omega)
  obtain rfl : j = jc := by have := hK.ec; omega
  have hKj := hK.jl
  have hp1 := X9a.out.c1.1
  have HK := Lib.hid hK
  have hkh := hK.hdr.1
  have hkb := hK.b
  clear hK
  have hrk1 : -3 ≤ (loopM (shiftM m ⟨5, 1, 2, fa, 1, ta, ((j : Int) + 1), 0⟩) ⟨5, 1, 2, fa, 1, ta, ((j : Int) + 1), 0⟩).rack ∧ (loopM (shiftM m ⟨5, 1, 2, fa, 1, ta, ((j : Int) + 1), 0⟩) ⟨5, 1, 2, fa, 1, ta, ((j : Int) + 1), 0⟩).rack ≤ 3 := Hi9.out.rack
  have hpl := placeM_bd (b := 2) (a := fa) (r := (loopM (shiftM m ⟨5, 1, 2, fa, 1, ta, ((j : Int) + 1), 0⟩) ⟨5, 1, 2, fa, 1, ta, ((j : Int) + 1), 0⟩).rack) (by omega) hrk1
  go_wp2_with fail
  refine (makesLoop_b _ 5 true (by decide)).mono ?_
  rintro e w' ⟨rfl, rfl⟩
  go_wp2
  refine wp_region_l 157 (Nowhere) 21 [kon (.pointer (some ⟨p, 0, none⟩)), kon (.pointer (some ⟨p, 0, none⟩)), kon (.pointer (some ⟨p, 4, none⟩)), kon (.slice (some ⟨gC, 0, none⟩) 4 cC), kon (.pointer (some ⟨w.heap.size, 6, none⟩)), kon (.int .i64 ((j : Int) + 1)), kon (.int .i64 (j : Int)), kon (.pointer (some ⟨w.heap.size, 2, none⟩)), kon (.agg #[.int .i64 2, .int .i64 fa]), kon (.pointer (some ⟨p, 0, none⟩)), kon (.pointer (some ⟨p, 0, none⟩)), kon (.pointer (some ⟨p, 1, none⟩)), kon (.int .i64 (loopM (shiftM m ⟨5, 1, 2, fa, 1, ta, ((j : Int) + 1), 0⟩) ⟨5, 1, 2, fa, 1, ta, ((j : Int) + 1), 0⟩).rack), kon (.int .i64 (placeM 2 fa (loopM (shiftM m ⟨5, 1, 2, fa, 1, ta, ((j : Int) + 1), 0⟩) ⟨5, 1, 2, fa, 1, ta, ((j : Int) + 1), 0⟩).rack)), kon (.pointer (some ⟨w.heap.size, 1, none⟩)), kon (.int .i64 1), kon (.int .i64 2), kon (.int .i64 1), kon (.int .i64 (placeM 2 fa (loopM (shiftM m ⟨5, 1, 2, fa, 1, ta, ((j : Int) + 1), 0⟩) ⟨5, 1, 2, fa, 1, ta, ((j : Int) + 1), 0⟩).rack + 1)), kon (.pointer (some ⟨gC, j * 2, none⟩)), kon (.pointer (some ⟨gC, j * 2 + 1, none⟩))] [(0, 136, []), (1, 137, [0]), (2, 138, [1]), (3, 139, [2]), (4, 140, []), (5, 141, [4]), (6, 142, [5]), (7, 143, []), (8, 144, [7]), (9, 145, []), (10, 146, [9]), (11, 147, [10]), (12, 148, [11]), (13, 149, [8, 12]), (14, 150, []), (15, 151, [14]), (16, 152, [15]), (17, 153, [16]), (18, 154, [13, 17]), (19, 155, [3, 6, 0, 1, 2, 3, 4, 5, 6, 7, 8, 9, 10, 11, 12, 13, 14, 15, 16, 17, 18]), (20, 156, [19, 0, 1, 2, 3, 4, 5, 6, 7, 8, 9, 10, 11, 12, 13, 14, 15, 16, 17, 18])] (by kernel_rfl) (by kernel_rfl) (by kernel_rfl) rfl ?_ ?_ ?_
  · exact ⟨(keeps_kon _), ⟨(keeps_kon _), ⟨(keeps_kon _), ⟨(keeps_kon _), ⟨(keeps_kon _), ⟨(keeps_kon _), ⟨(keeps_kon _), ⟨(keeps_kon _), ⟨(keeps_kon _), ⟨(keeps_kon _), ⟨(keeps_kon _), ⟨(keeps_kon _), ⟨(keeps_kon _), ⟨(keeps_kon _), ⟨(keeps_kon _), ⟨(keeps_kon _), ⟨(keeps_kon _), ⟨(keeps_kon _), ⟨(keeps_kon _), ⟨(keeps_kon _), ⟨(keeps_kon _), trivial⟩⟩⟩⟩⟩⟩⟩⟩⟩⟩⟩⟩⟩⟩⟩⟩⟩⟩⟩⟩⟩
  · exact allBut_none 0 ⟨(keeps_kon _), ⟨(keeps_kon _), ⟨(keeps_kon _), ⟨(keeps_kon _), ⟨(keeps_kon _), ⟨(keeps_kon _), ⟨(keeps_kon _), ⟨(keeps_kon _), ⟨(keeps_kon _), ⟨(keeps_kon _), ⟨(keeps_kon _), ⟨(keeps_kon _), ⟨(keeps_kon _), ⟨(keeps_kon _), ⟨(keeps_kon _), ⟨(keeps_kon _), ⟨(keeps_kon _), ⟨(keeps_kon _), ⟨(keeps_kon _), ⟨(keeps_kon _), ⟨(keeps_kon _), trivial⟩⟩⟩⟩⟩⟩⟩⟩⟩⟩⟩⟩⟩⟩⟩⟩⟩⟩⟩⟩⟩
  refine ⟨fun w1 hc _ hn => ?_, fun v0 => ?_⟩
  · refine grow_same (v := .pointer (some ⟨p, 0, none⟩)) ?_ ?_
    exact x_move (.tmp 0) rfl rfl
    rfl
  refine ⟨fun w1 hc _ hn => ?_, fun v1 => ?_⟩
  · obtain rfl : (.pointer (some ⟨p, 0, none⟩) : Value) = v0 := Eq.symm hn.1
    refine grow_same (v := .pointer (some ⟨p, 0, none⟩)) ?_ ?_
    exact x_nil (p := ⟨p, 0, none⟩) (.tmp 136) rfl rfl
    rfl
  refine ⟨fun w1 hc _ hn => ?_, fun v2 => ?_⟩
  · obtain rfl : (.pointer (some ⟨p, 0, none⟩) : Value) = v1 := Eq.symm hn.1
    refine grow_same (v := .pointer (some ⟨p, 4, none⟩)) ?_ ?_
    exact x_field (q := .pointer (some ⟨p, 0, none⟩)) 60 (.tmp 137) 4 (by rfl) (by rfl) (by exact fa_m4 _ _)
    rfl
  refine ⟨fun w1 hc _ hn => ?_, fun v3 => ?_⟩
  · obtain rfl : (.pointer (some ⟨p, 4, none⟩) : Value) = v2 := Eq.symm hn.1
    refine grow_same (v := .slice (some ⟨gC, 0, none⟩) 4 cC) ?_ ?_
    exact x_load (q := .pointer (some ⟨p, 4, none⟩)) 57 (.tmp 138) (by rfl) (by rfl) (by exact ld_cars _ _ _ (hc.cell hkh id))
    rfl
  refine ⟨fun w1 hc _ hn => ?_, fun v4 => ?_⟩
  · refine grow_same (v := .pointer (some ⟨w.heap.size, 6, none⟩)) ?_ ?_
    exact x_field (q := .pointer (some ⟨w.heap.size, 0, none⟩)) 44 (.tmp 3) 4 (by rfl) (by rfl) (by exact fa_o4 _ _ _)
    rfl
  refine ⟨fun w1 hc _ hn => ?_, fun v5 => ?_⟩
  · obtain rfl : (.pointer (some ⟨w.heap.size, 6, none⟩) : Value) = v4 := Eq.symm hn.1
    refine grow_same (v := .int .i64 ((j : Int) + 1)) ?_ ?_
    exact x_load (q := .pointer (some ⟨w.heap.size, 6, none⟩)) 2 (.tmp 140) (by rfl) (by rfl) (by exact ld_int _ _ _ (hc.cell d6 id))
    rfl
  refine ⟨fun w1 hc _ hn => ?_, fun v6 => ?_⟩
  · obtain rfl : (.int .i64 ((j : Int) + 1) : Value) = v5 := Eq.symm hn.1
    exact grow_same (v := .int .i64 (j : Int)) (x_subc (.tmp 141) (.const (.int .i64 1)) (by rfl) (a := ((j : Int) + 1)) (b := 1) (by rfl) (by rfl) (by omega) (by omega)) rfl
  refine ⟨fun w1 hc _ hn => ?_, fun v7 => ?_⟩
  · refine grow_same (v := .pointer (some ⟨w.heap.size, 2, none⟩)) ?_ ?_
    exact x_field (q := .pointer (some ⟨w.heap.size, 0, none⟩)) 44 (.tmp 3) 2 (by rfl) (by rfl) (by exact fa_o2 _ _ _)
    rfl
  refine ⟨fun w1 hc _ hn => ?_, fun v8 => ?_⟩
  · obtain rfl : (.pointer (some ⟨w.heap.size, 2, none⟩) : Value) = v7 := Eq.symm hn.1
    refine grow_same (v := .agg #[.int .i64 2, .int .i64 fa]) ?_ ?_
    exact x_load (q := .pointer (some ⟨w.heap.size, 2, none⟩)) 42 (.tmp 143) (by rfl) (by rfl) (by exact ld_needle _ _ _ _ _ (hc.cell d2 id) (hc.cell d3 id))
    rfl
  refine ⟨fun w1 hc _ hn => ?_, fun v9 => ?_⟩
  · refine grow_same (v := .pointer (some ⟨p, 0, none⟩)) ?_ ?_
    exact x_move (.tmp 0) rfl rfl
    rfl
  refine ⟨fun w1 hc _ hn => ?_, fun v10 => ?_⟩
  · obtain rfl : (.pointer (some ⟨p, 0, none⟩) : Value) = v9 := Eq.symm hn.1
    refine grow_same (v := .pointer (some ⟨p, 0, none⟩)) ?_ ?_
    exact x_nil (p := ⟨p, 0, none⟩) (.tmp 145) rfl rfl
    rfl
  refine ⟨fun w1 hc _ hn => ?_, fun v11 => ?_⟩
  · obtain rfl : (.pointer (some ⟨p, 0, none⟩) : Value) = v10 := Eq.symm hn.1
    refine grow_same (v := .pointer (some ⟨p, 1, none⟩)) ?_ ?_
    exact x_field (q := .pointer (some ⟨p, 0, none⟩)) 60 (.tmp 146) 1 (by rfl) (by rfl) (by exact fa_m1 _ _)
    rfl
  refine ⟨fun w1 hc _ hn => ?_, fun v12 => ?_⟩
  · obtain rfl : (.pointer (some ⟨p, 1, none⟩) : Value) = v11 := Eq.symm hn.1
    refine grow_same (v := .int .i64 (loopM (shiftM m ⟨5, 1, 2, fa, 1, ta, ((j : Int) + 1), 0⟩) ⟨5, 1, 2, fa, 1, ta, ((j : Int) + 1), 0⟩).rack) ?_ ?_
    exact x_load (q := .pointer (some ⟨p, 1, none⟩)) 2 (.tmp 147) (by rfl) (by rfl) (by exact ld_int _ _ _ (hc.cell hp1 id))
    rfl
  refine ⟨fun w1 hc _ hn => ?_, fun v13 => ?_⟩
  · obtain rfl : (.agg #[.int .i64 2, .int .i64 fa] : Value) = v8 := Eq.symm hn.1
    obtain rfl : (.int .i64 (loopM (shiftM m ⟨5, 1, 2, fa, 1, ta, ((j : Int) + 1), 0⟩) ⟨5, 1, 2, fa, 1, ta, ((j : Int) + 1), 0⟩).rack : Value) = v12 := Eq.symm hn.2.1
    refine grow_call (f := 85) (args := #[.agg #[.int .i64 2, .int .i64 fa], .int .i64 (loopM (shiftM m ⟨5, 1, 2, fa, 1, ta, ((j : Int) + 1), 0⟩) ⟨5, 1, 2, fa, 1, ta, ((j : Int) + 1), 0⟩).rack]) (x_call #[.tmp 144, .tmp 148] #[42, 2] Tryz.func85 (by rfl) (by rfl) (by rfl) (by rfl) (by simp only [List.map_toArray, List.map_cons, List.map_nil]; rfl)) ?_
    refine (place_any w1 2 fa _ (by omega) (by omega)).mono ?_
    rintro e w' ⟨rfl, g1⟩
    exact ⟨_, rfl, rg_up g1, rfl⟩
  refine ⟨fun w1 hc _ hn => ?_, fun v14 => ?_⟩
  · refine grow_same (v := .pointer (some ⟨w.heap.size, 1, none⟩)) ?_ ?_
    exact x_field (q := .pointer (some ⟨w.heap.size, 0, none⟩)) 44 (.tmp 3) 1 (by rfl) (by rfl) (by exact fa_o1 _ _ _)
    rfl
  refine ⟨fun w1 hc _ hn => ?_, fun v15 => ?_⟩
  · obtain rfl : (.pointer (some ⟨w.heap.size, 1, none⟩) : Value) = v14 := Eq.symm hn.1
    refine grow_same (v := .int .i64 1) ?_ ?_
    exact x_load (q := .pointer (some ⟨w.heap.size, 1, none⟩)) 2 (.tmp 150) (by rfl) (by rfl) (by exact ld_int _ _ _ (hc.cell d1 id))
    rfl
  refine ⟨fun w1 hc _ hn => ?_, fun v16 => ?_⟩
  · obtain rfl : (.int .i64 1 : Value) = v15 := Eq.symm hn.1
    exact grow_same (v := .int .i64 2) (x_add (.tmp 151) (.const (.int .i64 1)) (by rfl) (a := 1) (b := 1) (by rfl) (by rfl) (by omega)) rfl
  refine ⟨fun w1 hc _ hn => ?_, fun v17 => ?_⟩
  · obtain rfl : (.int .i64 2 : Value) = v16 := Eq.symm hn.1
    exact grow_same (v := .int .i64 1) (x_quo (.tmp 152) (.const (.int .i64 2)) (by rfl) (a := 2) (b := 2) (by rfl) (by rfl) (by decide) (by decide)) rfl
  refine ⟨fun w1 hc _ hn => ?_, fun v18 => ?_⟩
  · obtain rfl : (.int .i64 (placeM 2 fa (loopM (shiftM m ⟨5, 1, 2, fa, 1, ta, ((j : Int) + 1), 0⟩) ⟨5, 1, 2, fa, 1, ta, ((j : Int) + 1), 0⟩).rack) : Value) = v13 := Eq.symm hn.1
    obtain rfl : (.int .i64 1 : Value) = v17 := Eq.symm hn.2.1
    refine grow_same (v := .int .i64 (placeM 2 fa (loopM (shiftM m ⟨5, 1, 2, fa, 1, ta, ((j : Int) + 1), 0⟩) ⟨5, 1, 2, fa, 1, ta, ((j : Int) + 1), 0⟩).rack + 1)) ?_ ?_
    exact x_add (.tmp 149) (.tmp 153) (by rfl) (a := placeM 2 fa (loopM (shiftM m ⟨5, 1, 2, fa, 1, ta, ((j : Int) + 1), 0⟩) ⟨5, 1, 2, fa, 1, ta, ((j : Int) + 1), 0⟩).rack) (b := 1) (by rfl) (by rfl) (by omega)
    rfl
  refine ⟨fun w1 hc _ hn => ?_, fun v19 => ?_⟩
  · obtain rfl : (.slice (some ⟨gC, 0, none⟩) 4 cC : Value) = v3 := Eq.symm hn.1
    obtain rfl : (.int .i64 (j : Int) : Value) = v6 := Eq.symm hn.2.1
    refine grow_same (v := .pointer (some ⟨gC, j * 2, none⟩)) ?_ ?_
    exact x_ixa 57 (.tmp 139) (.tmp 142) (by rfl) (u1 := .slice (some ⟨gC, 0, none⟩) 4 cC) (u2 := .int .i64 (j : Int)) (by rfl) (by rfl) (by exact ixa_car _ _ _ _ hKj _)
    rfl
  refine ⟨fun w1 hc _ hn => ?_, fun v20 => ?_⟩
  · obtain rfl : (.pointer (some ⟨gC, j * 2, none⟩) : Value) = v19 := Eq.symm hn.1
    refine grow_same (v := .pointer (some ⟨gC, j * 2 + 1, none⟩)) ?_ ?_
    exact x_field (q := .pointer (some ⟨gC, j * 2, none⟩)) 96 (.tmp 155) 1 (by rfl) (by rfl) (by exact fa_c1 _ _ _)
    rfl
  intro wb kb hn8
  obtain ⟨rfl, rfl, rfl, rfl, rfl, rfl, rfl, rfl, rfl, rfl, rfl, rfl, rfl, rfl, rfl, rfl, rfl, rfl, rfl, rfl, rfl, -⟩ := hn8
  have E9 := kb.cell hkb.1 id
  have F9 := (kb.frozen hkb.1 id).trans hkb.2
  have X9 := Lib.hid ((X9a.out.up kb).ride Hi9.out (car := ((j : Int) + 1)) rfl hKj hCe (placeM 2 fa (loopM (shiftM m ⟨5, 1, 2, fa, 1, ta, ((j : Int) + 1), 0⟩) ⟨5, 1, 2, fa, 1, ta, ((j : Int) + 1), 0⟩).rack + 1))
  have G9 := Lib.hid ((X9a.out.up kb).ride_chg hCe (j * 2 + 1) (.int .i64 (placeM 2 fa (loopM (shiftM m ⟨5, 1, 2, fa, 1, ta, ((j : Int) + 1), 0⟩) ⟨5, 1, 2, fa, 1, ta, ((j : Int) + 1), 0⟩).rack + 1)))
  clear HK hkb hkh hp1 d0 d1 d2 d3 d4 d5 d6 d7
  simp only [List.length_cons, List.length_nil, List.drop_succ_cons, List.drop_zero, Nat.zero_add]
  go_wp2
  go_ret
  refine ⟨rfl, ?_, Chg.trans G0.out (Chg.trans (Chg.of_up kb) (G9.out.mono fun b _ hb => hb.1.1))⟩
  have := (X9.out.mono (T := S) (fun b _ hb => hb.1.1)).mach
  exact this
theorem execute_split21L (w : World) {S : Nat → Prop} {K p : Nat} {m : MachM} {F B C L D : Value} {fs bs : List Value} (h : MachX w S K p m F B C L D fs bs) (hS : NewIn S w) (hi : MInv m) (fb fa tb ta rk : Int) (j : Nat) (hx : okOp m.wd ⟨5, (-1), 2, fa, 1, ta, ((j : Int) + 1), 0⟩) (h0 : codeM m ⟨5, (-1), 2, fa, 1, ta, ((j : Int) + 1), 0⟩ = 0) :
    Calls Tryz.prog 69 #[.pointer (some ⟨p, 0, none⟩), .agg #[.int .i64 5, .int .i64 (-1), .int .i64 2, .int .i64 fa, .int .i64 1, .int .i64 ta, .int .i64 ((j : Int) + 1), .int .i64 0]] w fun e w' => e = .returned (.int .i64 0) ∧ Mach w' S K p (execM m ⟨5, (-1), 2, fa, 1, ta, ((j : Int) + 1), 0⟩) ∧ Chg S w w' := by
  obtain ⟨hx1, hx2, hx3⟩ := hx
  have hv := valid_cases hx1
  dsimp only at hx2 hx3 hv
  have hwd := hi.wd
  have hrk := hi.rack
  have cz := code_zero h0
  dsimp only at cz
  have HX := Lib.hid (show okOp m.wd ⟨5, (-1), 2, fa, 1, ta, ((j : Int) + 1), 0⟩ from ⟨hx1, hx2, hx3⟩)
  clear hx1
  have H0 := Lib.hid h0
  clear h0
  have Hi := Lib.hid hi
  have HS := Lib.hid hS
  have HX2 := Lib.hid (h.mono (T := (fun b => S b ∧ b ≠ w.heap.size)) (fun b hb hs => ⟨hs, Nat.ne_of_lt hb⟩))
  have hn1 : okN m 2 fa := ⟨by decide, by omega, by omega⟩
  have hn2 : okN m 1 ta := ⟨by decide, by omega, by omega⟩
  have hl9 := (cz.2.2.2.2 (.inr rfl)).2.2
  have hnl := cz.2.1 (by decide)
  have hnl2 := hi.nl
  have hll := (hi.on_ 2 fa).1
  have X := Lib.hid (HX2.out)
  have U := Lib.hid ((Chg.refl Nowhere w))
  clear h hi hS HX2
  replace X := Lib.hid (X.out.up ((Chg.refl Nowhere w).alloc (.cells #[.int .i64 5, .int .i64 (-1), .int .i64 2, .int .i64 fa, .int .i64 1, .int .i64 ta, .int .i64 ((j : Int) + 1), .int .i64 0] 44)))
  replace U := Lib.hid (Chg.trans U.out ((Chg.refl Nowhere w).alloc (.cells #[.int .i64 5, .int .i64 (-1), .int .i64 2, .int .i64 fa, .int .i64 1, .int .i64 ta, .int .i64 ((j : Int) + 1), .int .i64 0] 44)))
  obtain ⟨b0, b1, b2, b3, b4, b5, b6, b7⟩ := box8 w (.int .i64 5) (.int .i64 (-1)) (.int .i64 2) (.int .i64 fa) (.int .i64 1) (.int .i64 ta) (.int .i64 ((j : Int) + 1)) (.int .i64 0) 44
  have hbx13 : w.heap.size < (w.alloc (.cells #[.int .i64 5, .int .i64 (-1), .int .i64 2, .int .i64 fa, .int .i64 1, .int .i64 ta, .int .i64 ((j : Int) + 1), .int .i64 0] 44)).heap.size := by simp
  have HS2 := Lib.hid ((fun b hb => by have h1 : w.heap.size + 1 ≤ b := (by simpa [NewIn] using hb); exact ⟨HS.out b (by omega), by omega⟩) : NewIn (fun b => S b ∧ b ≠ w.heap.size) (w.alloc (.cells #[.int .i64 5, .int .i64 (-1), .int .i64 2, .int .i64 fa, .int .i64 1, .int .i64 ta, .int .i64 ((j : Int) + 1), .int .i64 0] 44)))
  have hlb : w.heap.size < (w.alloc (.cells #[.int .i64 5, .int .i64 (-1), .int .i64 2, .int .i64 fa, .int .i64 1, .int .i64 ta, .int .i64 ((j : Int) + 1), .int .i64 0] 44)).heap.size := by simp
  go_enter Tryz.func69, Tryz.ntmps69
  go_wp2_with fail
  refine (opCode_0 _ X.out Hi.out _ HX.out H0.out).mono ?_
  rintro e w14 ⟨rfl, g1⟩
  have G1 := Lib.hid g1
  have hz14 := G1.out.size
  clear g1
  replace X := Lib.hid (X.out.up (tt G1.out))
  replace U := Lib.hid (Chg.trans U.out (tt G1.out))
  have hh := cc8 (tt G1.out) b0 b1 b2 b3 b4 b5 b6 b7
  clear b0 b1 b2 b3 b4 b5 b6 b7
  obtain ⟨b0, b1, b2, b3, b4, b5, b6, b7⟩ := hh
  clear G1
  have hz6 := U.out.size
  have HSn := Lib.hid ((fun b hb => ⟨HS.out b (by omega), by omega⟩) : NewIn (fun b => S b ∧ b ≠ w.heap.size) w14)
  go_wp2
  refine wp_region_l 157 ((fun b => S b ∧ b ≠ w.heap.size)) 7 [kon (.pointer (some ⟨p, 0, none⟩)), kon (.agg #[.int .i64 5, .int .i64 (-1), .int .i64 2, .int .i64 fa, .int .i64 1, .int .i64 ta, .int .i64 ((j : Int) + 1), .int .i64 0]), kon (.pointer (some ⟨p, 0, none⟩)), kon (.pointer (some ⟨w.heap.size, 2, none⟩)), kon (.agg #[.int .i64 2, .int .i64 fa]), kon (.pointer (some ⟨w.heap.size, 4, none⟩)), kon (.agg #[.int .i64 1, .int .i64 ta]), (fun v w' => OwnI w' 0 v (onM m 2 fa) ∧ Mach w' (fun b => (fun b => S b ∧ b ≠ w.heap.size) b ∧ v.ownBlock ≠ some b) K p (shiftM m ⟨5, (-1), 2, fa, 1, ta, ((j : Int) + 1), 0⟩))] [(0, 47, []), (1, 48, []), (2, 49, []), (3, 50, []), (4, 51, [3]), (5, 52, []), (6, 53, [5]), (7, 54, [2, 4, 6])] (by kernel_rfl) (by kernel_rfl) (by kernel_rfl) rfl ?_ ?_ ?_
  · exact ⟨(keeps_kon _), ⟨(keeps_kon _), ⟨(keeps_kon _), ⟨(keeps_kon _), ⟨(keeps_kon _), ⟨(keeps_kon _), ⟨(keeps_kon _), ⟨(fun v w1 w2 ⟨h1, h2⟩ k => ⟨h1.up k, h2.up k⟩), trivial⟩⟩⟩⟩⟩⟩⟩⟩
  · exact ⟨.inr (keeps_kon _), ⟨.inr (keeps_kon _), ⟨.inr (keeps_kon _), ⟨.inr (keeps_kon _), ⟨.inr (keeps_kon _), ⟨.inr (keeps_kon _), ⟨.inr (keeps_kon _), ⟨.inl rfl, trivial⟩⟩⟩⟩⟩⟩⟩⟩
  refine ⟨fun w1 hc _ hn => ?_, fun v0 => ?_⟩
  · refine grow_same (v := .pointer (some ⟨p, 0, none⟩)) ?_ ?_
    exact x_move (.tmp 0) rfl rfl
    rfl
  refine ⟨fun w1 hc _ hn => ?_, fun v1 => ?_⟩
  · refine grow_same (v := .agg #[.int .i64 5, .int .i64 (-1), .int .i64 2, .int .i64 fa, .int .i64 1, .int .i64 ta, .int .i64 ((j : Int) + 1), .int .i64 0]) ?_ ?_
    exact x_load (q := .pointer (some ⟨w.heap.size, 0, none⟩)) 44 (.tmp 3) (by rfl) (by rfl) (by exact ld_op _ _ _ _ _ _ _ _ _ _ _ (hc.cell b0 (fun h => h.2 rfl)) (hc.cell b1 (fun h => h.2 rfl)) (hc.cell b2 (fun h => h.2 rfl)) (hc.cell b3 (fun h => h.2 rfl)) (hc.cell b4 (fun h => h.2 rfl)) (hc.cell b5 (fun h => h.2 rfl)) (hc.cell b6 (fun h => h.2 rfl)) (hc.cell b7 (fun h => h.2 rfl)))
    rfl
  refine ⟨fun w1 hc _ hn => ?_, fun v2 => ?_⟩
  · refine grow_same (v := .pointer (some ⟨p, 0, none⟩)) ?_ ?_
    exact x_move (.tmp 0) rfl rfl
    rfl
  refine ⟨fun w1 hc _ hn => ?_, fun v3 => ?_⟩
  · refine grow_same (v := .pointer (some ⟨w.heap.size, 2, none⟩)) ?_ ?_
    exact x_field (q := .pointer (some ⟨w.heap.size, 0, none⟩)) 44 (.tmp 3) 2 (by rfl) (by rfl) (by exact fa_o2 _ _ _)
    rfl
  refine ⟨fun w1 hc _ hn => ?_, fun v4 => ?_⟩
  · obtain rfl : (.pointer (some ⟨w.heap.size, 2, none⟩) : Value) = v3 := Eq.symm hn.1
    refine grow_same (v := .agg #[.int .i64 2, .int .i64 fa]) ?_ ?_
    exact x_load (q := .pointer (some ⟨w.heap.size, 2, none⟩)) 42 (.tmp 50) (by rfl) (by rfl) (by exact ld_needle _ _ _ _ _ (hc.cell b2 (fun h => h.2 rfl)) (hc.cell b3 (fun h => h.2 rfl)))
    rfl
  refine ⟨fun w1 hc _ hn => ?_, fun v5 => ?_⟩
  · refine grow_same (v := .pointer (some ⟨w.heap.size, 4, none⟩)) ?_ ?_
    exact x_field (q := .pointer (some ⟨w.heap.size, 0, none⟩)) 44 (.tmp 3) 3 (by rfl) (by rfl) (by exact fa_o3 _ _ _)
    rfl
  refine ⟨fun w1 hc _ hn => ?_, fun v6 => ?_⟩
  · obtain rfl : (.pointer (some ⟨w.heap.size, 4, none⟩) : Value) = v5 := Eq.symm hn.1
    refine grow_same (v := .agg #[.int .i64 1, .int .i64 ta]) ?_ ?_
    exact x_load (q := .pointer (some ⟨w.heap.size, 4, none⟩)) 42 (.tmp 52) (by rfl) (by rfl) (by exact ld_needle _ _ _ _ _ (hc.cell b4 (fun h => h.2 rfl)) (hc.cell b5 (fun h => h.2 rfl)))
    rfl
  refine ⟨fun w1 hc hu hn => ?_, fun v7 => ?_⟩
  · obtain rfl : (.pointer (some ⟨p, 0, none⟩) : Value) = v2 := Eq.symm hn.1
    obtain rfl : (.agg #[.int .i64 2, .int .i64 fa] : Value) = v4 := Eq.symm hn.2.1
    obtain rfl : (.agg #[.int .i64 1, .int .i64 ta] : Value) = v6 := Eq.symm hn.2.2.1
    refine grow_call (f := 82) (args := #[.pointer (some ⟨p, 0, none⟩), .agg #[.int .i64 2, .int .i64 fa], .agg #[.int .i64 1, .int .i64 ta]]) (x_call #[.tmp 49, .tmp 51, .tmp 53] #[63, 42, 42] Tryz.func82 (by rfl) (by rfl) (by rfl) (by rfl) (by simp only [List.map_toArray, List.map_cons, List.map_nil]; rfl)) ?_
    refine (transfer_21 w1 (X.out.up (hu rfl)) (NewIn.up HSn.out hc) Hi.out 5 (-1) fa ta ((j : Int) + 1) 0 hn1 hn2 hl9).mono ?_
    rintro e w' ⟨v', rfl, k1, k2, k3⟩
    exact ⟨_, rfl, rg_eff k3, k1, k2⟩
  intro wa ka hn7
  obtain ⟨⟨fo, fm⟩, rfl, rfl, rfl, rfl, rfl, rfl, rfl, -⟩ := hn7
  obtain ⟨F7, B7, C7, L7, D7, fs7, bs7, x7⟩ := fm
  have HO7 := Lib.hid fo
  have X7 := Lib.hid x7
  clear fo x7
  have hw7 := ka.size
  have HS7 := Lib.hid ((fun b hb => ⟨HSn.out b (by omega), fun e => by have h1 := (HO7.out.1.lt _ e).2; omega⟩) : NewIn (fun b => (fun b => S b ∧ b ≠ w.heap.size) b ∧ v7.ownBlock ≠ some b) wa)
  have d0 := ka.cell b0 (fun h => h.2 rfl)
  clear b0
  have d1 := ka.cell b1 (fun h => h.2 rfl)
  clear b1
  have d2 := ka.cell b2 (fun h => h.2 rfl)
  clear b2
  have d3 := ka.cell b3 (fun h => h.2 rfl)
  clear b3
  have d4 := ka.cell b4 (fun h => h.2 rfl)
  clear b4
  have d5 := ka.cell b5 (fun h => h.2 rfl)
  clear b5
  have d6 := ka.cell b6 (fun h => h.2 rfl)
  clear b6
  have d7 := ka.cell b7 (fun h => h.2 rfl)
  clear b7
  have hi7 := Lib.hid (Hi.out.shift (o := ⟨5, (-1), 2, fa, 1, ta, ((j : Int) + 1), 0⟩) hl9)
  have hon7 : onM (shiftM m ⟨5, (-1), 2, fa, 1, ta, ((j : Int) + 1), 0⟩) 2 fa = [] := onM_setM (Hi.out.setM_ _ _ (bothM_ok Hi.out (o := ⟨5, (-1), 2, fa, 1, ta, ((j : Int) + 1), 0⟩) hl9)) [] ⟨hn1.2.1, by rw [(setM_same _ _ _).1]; exact hn1.2.2⟩
  have hs7 : (shiftM m ⟨5, (-1), 2, fa, 1, ta, ((j : Int) + 1), 0⟩).nl = m.nl := by unfold shiftM; rw [(setM_same _ _ _).2.2.2, (setM_same _ _ _).2.2.2]
  have hsw : (shiftM m ⟨5, (-1), 2, fa, 1, ta, ((j : Int) + 1), 0⟩).wd = m.wd := by unfold shiftM; rw [(setM_same _ _ _).1, (setM_same _ _ _).1]
  have G7 := Lib.hid (Chg.trans (Chg.of_up U.out) (ka.mono fun b _ hb => hb.1) : Chg S w wa)
  simp only [List.length_cons, List.length_nil, List.drop_succ_cons, List.drop_zero, Nat.zero_add]
  go_wp2_with fail
  refine (loop_any _ X7.out HS7.out hi7.out 5 (-1) 2 fa 1 ta ((j : Int) + 1) 0 ⟨hn1.1, hn1.2.1, by rw [hsw]; exact hn1.2.2⟩ (by rw [hon7]; simp) (by omega) (fun b => v7.ownBlock = some b) _ _ HO7.out.intsOwn (fun b _ e h => h.2 e) (by omega)).mono ?_
  rintro e w9 ⟨rfl, hm9, g9⟩
  obtain ⟨F9, B9, C9, L9, D9, fs9, bs9, x9⟩ := hm9
  have X9a := Lib.hid x9
  have G0 := Lib.hid (Chg.trans G7.out (g9.mono fun b _ hb => hb.1.1) : Chg S w w9)
  replace d0 := g9.cell d0 (fun h => h.1.2 rfl)
  replace d1 := g9.cell d1 (fun h => h.1.2 rfl)
  replace d2 := g9.cell d2 (fun h => h.1.2 rfl)
  replace d3 := g9.cell d3 (fun h => h.1.2 rfl)
  replace d4 := g9.cell d4 (fun h => h.1.2 rfl)
  replace d5 := g9.cell d5 (fun h => h.1.2 rfl)
  replace d6 := g9.cell d6 (fun h => h.1.2 rfl)
  replace d7 := g9.cell d7 (fun h => h.1.2 rfl)
  clear x9 g9
  have Hi9 := Lib.hid (hi7.out.loop (o := ⟨5, (-1), 2, fa, 1, ta, ((j : Int) + 1), 0⟩) (by dsimp only; rw [hon7]; simp) (by omega) : MInv (loopM (shiftM m ⟨5, (-1), 2, fa, 1, ta, ((j : Int) + 1), 0⟩) ⟨5, (-1), 2, fa, 1, ta, ((j : Int) + 1), 0⟩))
  obtain ⟨gC, jc, cC, hK, hCe⟩ := X9a.out.car Hi9.out (car := ((j : Int) + 1)) (by omega)
  obtain rfl : j = jc := by have := hK.ec; omega
  have hKj := hK.jl
  have hp1 := X9a.out.c1.1
  have HK := Lib.hid hK
  have hkh := hK.hdr.1
  have hkb := hK.b
  clear hK
  have hrk1 : -3 ≤ (loopM (shiftM m ⟨5, (-1), 2, fa, 1, ta, ((j : Int) + 1), 0⟩) ⟨5, (-1), 2, fa, 1, ta, ((j : Int) + 1), 0⟩).rack ∧ (loopM (shiftM m ⟨5, (-1), 2, fa, 1, ta, ((j : Int) + 1), 0⟩) ⟨5, (-1), 2, fa, 1, ta, ((j : Int) + 1), 0⟩).rack ≤ 3 := Hi9.out.rack
  have hpl := placeM_bd (b := 2) (a := fa) (r := (loopM (shiftM m ⟨5, (-1), 2, fa, 1, ta, ((j : Int) + 1), 0⟩) ⟨5, (-1), 2, fa, 1, ta, ((j : Int) + 1), 0⟩).rack) (by omega) hrk1
  go_wp2_with fail
  refine (makesLoop_b _ 5 true (by decide)).mono ?_
  rintro e w' ⟨rfl, rfl⟩
  go_wp2
  refine wp_region_l 157 (Nowhere) 21 [kon (.pointer (some ⟨p, 0, none⟩)), kon (.pointer (some ⟨p, 0, none⟩)), kon (.pointer (some ⟨p, 4, none⟩)), kon (.slice (some ⟨gC, 0, none⟩) 4 cC), kon (.pointer (some ⟨w.heap.size, 6, none⟩)), kon (.int .i64 ((j : Int) + 1)), kon (.int .i64 (j : Int)), kon (.pointer (some ⟨w.heap.size, 2, none⟩)), kon (.agg #[.int .i64 2, .int .i64 fa]), kon (.pointer (some ⟨p, 0, none⟩)), kon (.pointer (some ⟨p, 0, none⟩)), kon (.pointer (some ⟨p, 1, none⟩)), kon (.int .i64 (loopM (shiftM m ⟨5, (-1), 2, fa, 1, ta, ((j : Int) + 1), 0⟩) ⟨5, (-1), 2, fa, 1, ta, ((j : Int) + 1), 0⟩).rack), kon (.int .i64 (placeM 2 fa (loopM (shiftM m ⟨5, (-1), 2, fa, 1, ta, ((j : Int) + 1), 0⟩) ⟨5, (-1), 2, fa, 1, ta, ((j : Int) + 1), 0⟩).rack)), kon (.pointer (some ⟨w.heap.size, 1, none⟩)), kon (.int .i64 (-1)), kon (.int .i64 0), kon (.int .i64 0), kon (.int .i64 (placeM 2 fa (loopM (shiftM m ⟨5, (-1), 2, fa, 1, ta, ((j : Int) + 1), 0⟩) ⟨5, (-1), 2, fa, 1, ta, ((j : Int) + 1), 0⟩).rack + 0)), kon (.pointer (some ⟨gC, j * 2, none⟩)), kon (.pointer (some ⟨gC, j * 2 + 1, none⟩))] [(0, 136, []), (1, 137, [0]), (2, 138, [1]), (3, 139, [2]), (4, 140, []), (5, 141, [4]), (6, 142, [5]), (7, 143, []), (8, 144, [7]), (9, 145, []), (10, 146, [9]), (11, 147, [10]), (12, 148, [11]), (13, 149, [8, 12]), (14, 150, []), (15, 151, [14]), (16, 152, [15]), (17, 153, [16]), (18, 154, [13, 17]), (19, 155, [3, 6, 0, 1, 2, 3, 4, 5, 6, 7, 8, 9, 10, 11, 12, 13, 14, 15, 16, 17, 18]), (20, 156, [19, 0, 1, 2, 3, 4, 5, 6, 7, 8, 9, 10, 11, 12, 13, 14, 15, 16, 17, 18])] (by kernel_rfl) (by kernel_rfl) (by kernel_rfl) rfl ?_ ?_ ?_
  · exact ⟨(keeps_kon _), ⟨(keeps_kon _), ⟨(keeps_kon _), ⟨(keeps_kon _), ⟨(keeps_kon _), ⟨(keeps_kon _), ⟨(keeps_kon _), ⟨(keeps_kon _), ⟨(keeps_kon _), ⟨(keeps_kon _), ⟨(keeps_kon _), ⟨(keeps_kon _), ⟨(keeps_kon _), ⟨(keeps_kon _), ⟨(keeps_kon _), ⟨(keeps_kon _), ⟨(keeps_kon _), ⟨(keeps_kon _), ⟨(keeps_kon _), ⟨(keeps_kon _), ⟨(keeps_kon _), trivial⟩⟩⟩⟩⟩⟩⟩⟩⟩⟩⟩⟩⟩⟩⟩⟩⟩⟩⟩⟩⟩
  · exact allBut_none 0 ⟨(keeps_kon _), ⟨(keeps_kon _), ⟨(keeps_kon _), ⟨(keeps_kon _), ⟨(keeps_kon _), ⟨(keeps_kon _), ⟨(keeps_kon _), ⟨(keeps_kon _), ⟨(keeps_kon _), ⟨(keeps_kon _), ⟨(keeps_kon _), ⟨(keeps_kon _), ⟨(keeps_kon _), ⟨(keeps_kon _), ⟨(keeps_kon _), ⟨(keeps_kon _), ⟨(keeps_kon _), ⟨(keeps_kon _), ⟨(keeps_kon _), ⟨(keeps_kon _), ⟨(keeps_kon _), trivial⟩⟩⟩⟩⟩⟩⟩⟩⟩⟩⟩⟩⟩⟩⟩⟩⟩⟩⟩⟩⟩
  refine ⟨fun w1 hc _ hn => ?_, fun v0 => ?_⟩
  · refine grow_same (v := .pointer (some ⟨p, 0, none⟩)) ?_ ?_
    exact x_move (.tmp 0) rfl rfl
    rfl
  refine ⟨fun w1 hc _ hn => ?_, fun v1 => ?_⟩
  · obtain rfl : (.pointer (some ⟨p, 0, none⟩) : Value) = v0 := Eq.symm hn.1
    refine grow_same (v := .pointer (some ⟨p, 0, none⟩)) ?_ ?_
    exact x_nil (p := ⟨p, 0, none⟩) (.tmp 136) rfl rfl
    rfl
  refine ⟨fun w1 hc _ hn => ?_, fun v2 => ?_⟩
  · obtain rfl : (.pointer (some ⟨p, 0, none⟩) : Value) = v1 := Eq.symm hn.1
    refine grow_same (v := .pointer (some ⟨p, 4, none⟩)) ?_ ?_
    exact x_field (q := .pointer (some ⟨p, 0, none⟩)) 60 (.tmp 137) 4 (by rfl) (by rfl) (by exact fa_m4 _ _)
    rfl
  refine ⟨fun w1 hc _ hn => ?_, fun v3 => ?_⟩
  · obtain rfl : (.pointer (some ⟨p, 4, none⟩) : Value) = v2 := Eq.symm hn.1
    refine grow_same (v := .slice (some ⟨gC, 0, none⟩) 4 cC) ?_ ?_
    exact x_load (q := .pointer (some ⟨p, 4, none⟩)) 57 (.tmp 138) (by rfl) (by rfl) (by exact ld_cars _ _ _ (hc.cell hkh id))
    rfl
  refine ⟨fun w1 hc _ hn => ?_, fun v4 => ?_⟩
  · refine grow_same (v := .pointer (some ⟨w.heap.size, 6, none⟩)) ?_ ?_
    exact x_field (q := .pointer (some ⟨w.heap.size, 0, none⟩)) 44 (.tmp 3) 4 (by rfl) (by rfl) (by exact fa_o4 _ _ _)
    rfl
  refine ⟨fun w1 hc _ hn => ?_, fun v5 => ?_⟩
  · obtain rfl : (.pointer (some ⟨w.heap.size, 6, none⟩) : Value) = v4 := Eq.symm hn.1
    refine grow_same (v := .int .i64 ((j : Int) + 1)) ?_ ?_
    exact x_load (q := .pointer (some ⟨w.heap.size, 6, none⟩)) 2 (.tmp 140) (by rfl) (by rfl) (by exact ld_int _ _ _ (hc.cell d6 id))
    rfl
  refine ⟨fun w1 hc _ hn => ?_, fun v6 => ?_⟩
  · obtain rfl : (.int .i64 ((j : Int) + 1) : Value) = v5 := Eq.symm hn.1
    exact grow_same (v := .int .i64 (j : Int)) (x_subc (.tmp 141) (.const (.int .i64 1)) (by rfl) (a := ((j : Int) + 1)) (b := 1) (by rfl) (by rfl) (by omega) (by omega)) rfl
  refine ⟨fun w1 hc _ hn => ?_, fun v7 => ?_⟩
  · refine grow_same (v := .pointer (some ⟨w.heap.size, 2, none⟩)) ?_ ?_
    exact x_field (q := .pointer (some ⟨w.heap.size, 0, none⟩)) 44 (.tmp 3) 2 (by rfl) (by rfl) (by exact fa_o2 _ _ _)
    rfl
  refine ⟨fun w1 hc _ hn => ?_, fun v8 => ?_⟩
  · obtain rfl : (.pointer (some ⟨w.heap.size, 2, none⟩) : Value) = v7 := Eq.symm hn.1
    refine grow_same (v := .agg #[.int .i64 2, .int .i64 fa]) ?_ ?_
    exact x_load (q := .pointer (some ⟨w.heap.size, 2, none⟩)) 42 (.tmp 143) (by rfl) (by rfl) (by exact ld_needle _ _ _ _ _ (hc.cell d2 id) (hc.cell d3 id))
    rfl
  refine ⟨fun w1 hc _ hn => ?_, fun v9 => ?_⟩
  · refine grow_same (v := .pointer (some ⟨p, 0, none⟩)) ?_ ?_
    exact x_move (.tmp 0) rfl rfl
    rfl
  refine ⟨fun w1 hc _ hn => ?_, fun v10 => ?_⟩
  · obtain rfl : (.pointer (some ⟨p, 0, none⟩) : Value) = v9 := Eq.symm hn.1
    refine grow_same (v := .pointer (some ⟨p, 0, none⟩)) ?_ ?_
    exact x_nil (p := ⟨p, 0, none⟩) (.tmp 145) rfl rfl
    rfl
  refine ⟨fun w1 hc _ hn => ?_, fun v11 => ?_⟩
  · obtain rfl : (.pointer (some ⟨p, 0, none⟩) : Value) = v10 := Eq.symm hn.1
    refine grow_same (v := .pointer (some ⟨p, 1, none⟩)) ?_ ?_
    exact x_field (q := .pointer (some ⟨p, 0, none⟩)) 60 (.tmp 146) 1 (by rfl) (by rfl) (by exact fa_m1 _ _)
    rfl
  refine ⟨fun w1 hc _ hn => ?_, fun v12 => ?_⟩
  · obtain rfl : (.pointer (some ⟨p, 1, none⟩) : Value) = v11 := Eq.symm hn.1
    refine grow_same (v := .int .i64 (loopM (shiftM m ⟨5, (-1), 2, fa, 1, ta, ((j : Int) + 1), 0⟩) ⟨5, (-1), 2, fa, 1, ta, ((j : Int) + 1), 0⟩).rack) ?_ ?_
    exact x_load (q := .pointer (some ⟨p, 1, none⟩)) 2 (.tmp 147) (by rfl) (by rfl) (by exact ld_int _ _ _ (hc.cell hp1 id))
    rfl
  refine ⟨fun w1 hc _ hn => ?_, fun v13 => ?_⟩
  · obtain rfl : (.agg #[.int .i64 2, .int .i64 fa] : Value) = v8 := Eq.symm hn.1
    obtain rfl : (.int .i64 (loopM (shiftM m ⟨5, (-1), 2, fa, 1, ta, ((j : Int) + 1), 0⟩) ⟨5, (-1), 2, fa, 1, ta, ((j : Int) + 1), 0⟩).rack : Value) = v12 := Eq.symm hn.2.1
    refine grow_call (f := 85) (args := #[.agg #[.int .i64 2, .int .i64 fa], .int .i64 (loopM (shiftM m ⟨5, (-1), 2, fa, 1, ta, ((j : Int) + 1), 0⟩) ⟨5, (-1), 2, fa, 1, ta, ((j : Int) + 1), 0⟩).rack]) (x_call #[.tmp 144, .tmp 148] #[42, 2] Tryz.func85 (by rfl) (by rfl) (by rfl) (by rfl) (by simp only [List.map_toArray, List.map_cons, List.map_nil]; rfl)) ?_
    refine (place_any w1 2 fa _ (by omega) (by omega)).mono ?_
    rintro e w' ⟨rfl, g1⟩
    exact ⟨_, rfl, rg_up g1, rfl⟩
  refine ⟨fun w1 hc _ hn => ?_, fun v14 => ?_⟩
  · refine grow_same (v := .pointer (some ⟨w.heap.size, 1, none⟩)) ?_ ?_
    exact x_field (q := .pointer (some ⟨w.heap.size, 0, none⟩)) 44 (.tmp 3) 1 (by rfl) (by rfl) (by exact fa_o1 _ _ _)
    rfl
  refine ⟨fun w1 hc _ hn => ?_, fun v15 => ?_⟩
  · obtain rfl : (.pointer (some ⟨w.heap.size, 1, none⟩) : Value) = v14 := Eq.symm hn.1
    refine grow_same (v := .int .i64 (-1)) ?_ ?_
    exact x_load (q := .pointer (some ⟨w.heap.size, 1, none⟩)) 2 (.tmp 150) (by rfl) (by rfl) (by exact ld_int _ _ _ (hc.cell d1 id))
    rfl
  refine ⟨fun w1 hc _ hn => ?_, fun v16 => ?_⟩
  · obtain rfl : (.int .i64 (-1) : Value) = v15 := Eq.symm hn.1
    exact grow_same (v := .int .i64 0) (x_add (.tmp 151) (.const (.int .i64 1)) (by rfl) (a := (-1)) (b := 1) (by rfl) (by rfl) (by omega)) rfl
  refine ⟨fun w1 hc _ hn => ?_, fun v17 => ?_⟩
  · obtain rfl : (.int .i64 0 : Value) = v16 := Eq.symm hn.1
    exact grow_same (v := .int .i64 0) (x_quo (.tmp 152) (.const (.int .i64 2)) (by rfl) (a := 0) (b := 2) (by rfl) (by rfl) (by decide) (by decide)) rfl
  refine ⟨fun w1 hc _ hn => ?_, fun v18 => ?_⟩
  · obtain rfl : (.int .i64 (placeM 2 fa (loopM (shiftM m ⟨5, (-1), 2, fa, 1, ta, ((j : Int) + 1), 0⟩) ⟨5, (-1), 2, fa, 1, ta, ((j : Int) + 1), 0⟩).rack) : Value) = v13 := Eq.symm hn.1
    obtain rfl : (.int .i64 0 : Value) = v17 := Eq.symm hn.2.1
    refine grow_same (v := .int .i64 (placeM 2 fa (loopM (shiftM m ⟨5, (-1), 2, fa, 1, ta, ((j : Int) + 1), 0⟩) ⟨5, (-1), 2, fa, 1, ta, ((j : Int) + 1), 0⟩).rack + 0)) ?_ ?_
    exact x_add (.tmp 149) (.tmp 153) (by rfl) (a := placeM 2 fa (loopM (shiftM m ⟨5, (-1), 2, fa, 1, ta, ((j : Int) + 1), 0⟩) ⟨5, (-1), 2, fa, 1, ta, ((j : Int) + 1), 0⟩).rack) (b := 0) (by rfl) (by rfl) (by omega)
    rfl
  refine ⟨fun w1 hc _ hn => ?_, fun v19 => ?_⟩
  · obtain rfl : (.slice (some ⟨gC, 0, none⟩) 4 cC : Value) = v3 := Eq.symm hn.1
    obtain rfl : (.int .i64 (j : Int) : Value) = v6 := Eq.symm hn.2.1
    refine grow_same (v := .pointer (some ⟨gC, j * 2, none⟩)) ?_ ?_
    exact x_ixa 57 (.tmp 139) (.tmp 142) (by rfl) (u1 := .slice (some ⟨gC, 0, none⟩) 4 cC) (u2 := .int .i64 (j : Int)) (by rfl) (by rfl) (by exact ixa_car _ _ _ _ hKj _)
    rfl
  refine ⟨fun w1 hc _ hn => ?_, fun v20 => ?_⟩
  · obtain rfl : (.pointer (some ⟨gC, j * 2, none⟩) : Value) = v19 := Eq.symm hn.1
    refine grow_same (v := .pointer (some ⟨gC, j * 2 + 1, none⟩)) ?_ ?_
    exact x_field (q := .pointer (some ⟨gC, j * 2, none⟩)) 96 (.tmp 155) 1 (by rfl) (by rfl) (by exact fa_c1 _ _ _)
    rfl
  intro wb kb hn8
  obtain ⟨rfl, rfl, rfl, rfl, rfl, rfl, rfl, rfl, rfl, rfl, rfl, rfl, rfl, rfl, rfl, rfl, rfl, rfl, rfl, rfl, rfl, -⟩ := hn8
  have E9 := kb.cell hkb.1 id
  have F9 := (kb.frozen hkb.1 id).trans hkb.2
  have X9 := Lib.hid ((X9a.out.up kb).ride Hi9.out (car := ((j : Int) + 1)) rfl hKj hCe (placeM 2 fa (loopM (shiftM m ⟨5, (-1), 2, fa, 1, ta, ((j : Int) + 1), 0⟩) ⟨5, (-1), 2, fa, 1, ta, ((j : Int) + 1), 0⟩).rack))
  have G9 := Lib.hid ((X9a.out.up kb).ride_chg hCe (j * 2 + 1) (.int .i64 (placeM 2 fa (loopM (shiftM m ⟨5, (-1), 2, fa, 1, ta, ((j : Int) + 1), 0⟩) ⟨5, (-1), 2, fa, 1, ta, ((j : Int) + 1), 0⟩).rack)))
  clear HK hkb hkh hp1 d0 d1 d2 d3 d4 d5 d6 d7
  simp only [List.length_cons, List.length_nil, List.drop_succ_cons, List.drop_zero, Nat.zero_add]
  go_wp2
  go_ret
  refine ⟨rfl, ?_, Chg.trans G0.out (Chg.trans (Chg.of_up kb) (G9.out.mono fun b _ hb => hb.1.1))⟩
  have := (X9.out.mono (T := S) (fun b _ hb => hb.1.1)).mach
  have hbe : behindM (loopM (shiftM m ⟨5, (-1), 2, fa, 1, ta, ((j : Int) + 1), 0⟩) ⟨5, (-1), 2, fa, 1, ta, ((j : Int) + 1), 0⟩) ⟨5, (-1), 2, fa, 1, ta, ((j : Int) + 1), 0⟩ = placeM 2 fa (loopM (shiftM m ⟨5, (-1), 2, fa, 1, ta, ((j : Int) + 1), 0⟩) ⟨5, (-1), 2, fa, 1, ta, ((j : Int) + 1), 0⟩).rack := Int.add_zero _
  rw [← hbe] at this ⊢
  exact this
theorem execute_rack (w : World) {S : Nat → Prop} {K p : Nat} {m : MachM} {F B C L D : Value} {fs bs : List Value} (h : MachX w S K p m F B C L D fs bs) (hS : NewIn S w) (hi : MInv m) (fb fa tb ta rk : Int) (j : Nat) (hx : okOp m.wd ⟨7, 0, 0, 0, 0, 0, 0, rk⟩) (h0 : codeM m ⟨7, 0, 0, 0, 0, 0, 0, rk⟩ = 0) :
    Calls Tryz.prog 69 #[.pointer (some ⟨p, 0, none⟩), .agg #[.int .i64 7, .int .i64 0, .int .i64 0, .int .i64 0, .int .i64 0, .int .i64 0, .int .i64 0, .int .i64 rk]] w fun e w' => e = .returned (.int .i64 0) ∧ Mach w' S K p (execM m ⟨7, 0, 0, 0, 0, 0, 0, rk⟩) ∧ Chg S w w' := by
  obtain ⟨hx1, hx2, hx3⟩ := hx
  have hv := valid_cases hx1
  dsimp only at hx2 hx3 hv
  have hwd := hi.wd
  have hrk := hi.rack
  have cz := code_zero h0
  dsimp only at cz
  have HX := Lib.hid (show okOp m.wd ⟨7, 0, 0, 0, 0, 0, 0, rk⟩ from ⟨hx1, hx2, hx3⟩)
  clear hx1
  have H0 := Lib.hid h0
  clear h0
  have Hi := Lib.hid hi
  have HS := Lib.hid hS
  have HX2 := Lib.hid (h.mono (T := (fun b => S b ∧ b ≠ w.heap.size)) (fun b hb hs => ⟨hs, Nat.ne_of_lt hb⟩))
  have X := Lib.hid (HX2.out)
  have U := Lib.hid ((Chg.refl Nowhere w))
  clear h hi hS HX2
  replace X := Lib.hid (X.out.up ((Chg.refl Nowhere w).alloc (.cells #[.int .i64 7, .int .i64 0, .int .i64 0, .int .i64 0, .int .i64 0, .int .i64 0, .int .i64 0, .int .i64 rk] 44)))
  replace U := Lib.hid (Chg.trans U.out ((Chg.refl Nowhere w).alloc (.cells #[.int .i64 7, .int .i64 0, .int .i64 0, .int .i64 0, .int .i64 0, .int .i64 0, .int .i64 0, .int .i64 rk] 44)))
  obtain ⟨b0, b1, b2, b3, b4, b5, b6, b7⟩ := box8 w (.int .i64 7) (.int .i64 0) (.int .i64 0) (.int .i64 0) (.int .i64 0) (.int .i64 0) (.int .i64 0) (.int .i64 rk) 44
  have hbx13 : w.heap.size < (w.alloc (.cells #[.int .i64 7, .int .i64 0, .int .i64 0, .int .i64 0, .int .i64 0, .int .i64 0, .int .i64 0, .int .i64 rk] 44)).heap.size := by simp
  have HS2 := Lib.hid ((fun b hb => by have h1 : w.heap.size + 1 ≤ b := (by simpa [NewIn] using hb); exact ⟨HS.out b (by omega), by omega⟩) : NewIn (fun b => S b ∧ b ≠ w.heap.size) (w.alloc (.cells #[.int .i64 7, .int .i64 0, .int .i64 0, .int .i64 0, .int .i64 0, .int .i64 0, .int .i64 0, .int .i64 rk] 44)))
  have hlb : w.heap.size < (w.alloc (.cells #[.int .i64 7, .int .i64 0, .int .i64 0, .int .i64 0, .int .i64 0, .int .i64 0, .int .i64 0, .int .i64 rk] 44)).heap.size := by simp
  go_enter Tryz.func69, Tryz.ntmps69
  go_wp2_with fail
  refine (opCode_0 _ X.out Hi.out _ HX.out H0.out).mono ?_
  rintro e w14 ⟨rfl, g1⟩
  have G1 := Lib.hid g1
  have hz14 := G1.out.size
  clear g1
  replace X := Lib.hid (X.out.up (tt G1.out))
  replace U := Lib.hid (Chg.trans U.out (tt G1.out))
  have hh := cc8 (tt G1.out) b0 b1 b2 b3 b4 b5 b6 b7
  clear b0 b1 b2 b3 b4 b5 b6 b7
  obtain ⟨b0, b1, b2, b3, b4, b5, b6, b7⟩ := hh
  clear G1
  have x1 := X.out.c1
  have E1 := x1.1
  have F1 := x1.2
  have HS9 := Lib.hid (X.out.set_rack rk)
  have G9 := Lib.hid (Chg.setCell (S := S) (Chg.of_up U.out) (.inl X.out.sp.1) (.int .i64 rk) : Chg S w (w14.setCell ⟨p, 1, none⟩ (.int .i64 rk)))
  have hpp : p ≠ w.heap.size := X.out.sp.2
  clear x1
  have D0 : (w14.setCell ⟨p, 1, none⟩ (.int .i64 rk)).cell? ⟨w.heap.size, 0, none⟩ = _ := keepS b0 hpp
  go_wp2_with fail
  refine (makesLoop_b _ 7 false (by decide)).mono ?_
  rintro e w' ⟨rfl, rfl⟩
  go_wp2
  go_ret
  exact ⟨rfl, (HS9.out.mono (fun b _ hb => hb.1)).mach, G9.out⟩
end Go.Proofs.YtiiodfcbpmkodaaGreat
