/- The program's execution of an operation: drop, in, out. No condition. -/
import Derived.Test.YtiiodfcbpmkodaaGreatMFn7
import Derived.Test.YtiiodfcbpmkodaaGreatMSort
set_option linter.unusedSimpArgs false
set_option linter.unusedVariables false
set_option maxRecDepth 100000
set_option maxHeartbeats 8000000
namespace Go.Proofs.YtiiodfcbpmkodaaGreat
open Go.ChangeShapes Go.WideShapes Go.ChangeAt Go.RowKit
attribute [local go_sem ↓] Go.wp_at_zero Go.wp_at_succ
theorem setCar_twice (m : MachM) (hi : MInv m) (j : Nat) (hj : j < 4) (b : Bool) (x y : Int) : setCar (setCar m ((j : Int) + 1) (b, x)) ((j : Int) + 1) ((carAt (setCar m ((j : Int) + 1) (b, x)) ((j : Int) + 1)).1, y) = setCar m ((j : Int) + 1) (b, y) := by
  have : j < m.cs.length := by rw [hi.cl]; exact hj
  simp only [setCar_nat, carAt_nat]
  simp [this]
theorem keepO {w : World} {b i j : Nat} {u v : Value} (h : w.cell? ⟨b, j, none⟩ = some u) (hn : i ≠ j) : (w.setCell ⟨b, i, none⟩ v).cell? ⟨b, j, none⟩ = some u := by
  rw [World.cell?_setCell_other _ _ _ _ (fun e => hn (by injection e))]
  exact h
theorem st_car (p : Nat) (i : Nat) (a : Bool) (x : Int) (b : Value) (y : Value) (w : World) (h0 : w.cell? ⟨p, i, none⟩ = some b) (h1 : w.cell? ⟨p, i + 1, none⟩ = some y) (f0 : w.frozen? ⟨p, i, none⟩ = false) (f1 : w.frozen? ⟨p, i + 1, none⟩ = false) :
    (Instr.storeAt 96 (.pointer (some ⟨p, i, none⟩)) (.agg #[.bool a, .int .i64 x])).run Tryz.prog w = .ok () ((w.setCell ⟨p, i, none⟩ (.bool a)).setCell ⟨p, i + 1, none⟩ (.int .i64 x)) := by go_simp
theorem bd_car (b : Bool) (x : Int) (w : World) : (Instr.build 96 #[(0, .bool b), (1, .int .i64 x)]).run Tryz.prog w = .ok (.agg #[.bool b, .int .i64 x]) w := by go_simp
theorem bd_car0 (w : World) : (Instr.build 96 #[]).run Tryz.prog w = .ok (.agg #[.bool false, .int .i64 0]) w := by go_simp
theorem AtN.same {F B : Value} {fs bs : List Value} {b a : Int} {g g' : Nat} {v v' : Value} (h : AtN F B fs bs b a g v) (h' : AtN F B fs bs b a g' v') : g = g' ∧ v = v' := by
  rcases h with ⟨e, c, h1, h2, _⟩ | ⟨e, c, h1, h2, _⟩ <;> rcases h' with ⟨e', c', h1', h2', _⟩ | ⟨e', c', h1', h2', _⟩
  · rw [h1] at h1'; simp at h1'; exact ⟨h1'.1, h2.symm.trans h2'⟩
  · omega
  · omega
  · rw [h1] at h1'; simp at h1'; exact ⟨h1'.1, h2.symm.trans h2'⟩
theorem HDmk {p : Nat} {F B C L D : Value} {fs bs : List Value} {b a : Int} {g : Nat} {v : Value} (P : Parts p F B C L D fs bs) (hv : AtN F B fs bs b a g v) : (∀ x, D.ownBlock = some x → ¬ v.ownBlock = some x) ∧ ¬ D.ownBlock = some g := by
  rcases hv with ⟨-, c, hB, hv, hl⟩ | ⟨-, c, hF, hv, hl⟩
  · rw [List.getD_eq_getElem?_getD, List.getElem?_eq_getElem hl, Option.getD_some] at hv
    have hm : v ∈ bs := hv ▸ List.getElem_mem hl
    exact ⟨fun x hx e => P.d v (by simp [hm]) x hx e, fun e => P.b D (by simp) g (by rw [hB]; rfl) e⟩
  · rw [List.getD_eq_getElem?_getD, List.getElem?_eq_getElem hl, Option.getD_some] at hv
    have hm : v ∈ fs := hv ▸ List.getElem_mem hl
    exact ⟨fun x hx e => P.d v (by simp [hm]) x hx e, fun e => P.f D (by simp) g (by rw [hF]; rfl) e⟩
theorem execute_inR (w : World) {S : Nat → Prop} {K p : Nat} {m : MachM} {F B C L D : Value} {fs bs : List Value} (h : MachX w S K p m F B C L D fs bs) (hS : NewIn S w) (hi : MInv m) (fb fa tb ta rk : Int) (j : Nat) (hx : okOp m.wd ⟨8, 1, 0, 0, 0, 0, ((j : Int) + 1), 0⟩) (h0 : codeM m ⟨8, 1, 0, 0, 0, 0, ((j : Int) + 1), 0⟩ = 0) :
    Calls Tryz.prog 69 #[.pointer (some ⟨p, 0, none⟩), .agg #[.int .i64 8, .int .i64 1, .int .i64 0, .int .i64 0, .int .i64 0, .int .i64 0, .int .i64 ((j : Int) + 1), .int .i64 0]] w fun e w' => e = .returned (.int .i64 0) ∧ Mach w' S K p (execM m ⟨8, 1, 0, 0, 0, 0, ((j : Int) + 1), 0⟩) ∧ Chg S w w' := by
  obtain ⟨hx1, hx2, hx3⟩ := hx
  have hv := valid_cases hx1
  dsimp only at hx2 hx3 hv
  have hwd := hi.wd
  have hrk := hi.rack
  have cz := code_zero h0
  dsimp only at cz
  have HX := Lib.hid (show okOp m.wd ⟨8, 1, 0, 0, 0, 0, ((j : Int) + 1), 0⟩ from ⟨hx1, hx2, hx3⟩)
  clear hx1
  have H0 := Lib.hid h0
  clear h0
  have Hi := Lib.hid hi
  have HS := Lib.hid hS
  have HX2 := Lib.hid (h.mono (T := (fun b => S b ∧ b ≠ w.heap.size)) (fun b hb hs => ⟨hs, Nat.ne_of_lt hb⟩))
  have X := Lib.hid (HX2.out)
  have U := Lib.hid ((Chg.refl Nowhere w))
  clear h hi hS HX2
  replace X := Lib.hid (X.out.up ((Chg.refl Nowhere w).alloc (.cells #[.int .i64 8, .int .i64 1, .int .i64 0, .int .i64 0, .int .i64 0, .int .i64 0, .int .i64 ((j : Int) + 1), .int .i64 0] 44)))
  replace U := Lib.hid (Chg.trans U.out ((Chg.refl Nowhere w).alloc (.cells #[.int .i64 8, .int .i64 1, .int .i64 0, .int .i64 0, .int .i64 0, .int .i64 0, .int .i64 ((j : Int) + 1), .int .i64 0] 44)))
  obtain ⟨b0, b1, b2, b3, b4, b5, b6, b7⟩ := box8 w (.int .i64 8) (.int .i64 1) (.int .i64 0) (.int .i64 0) (.int .i64 0) (.int .i64 0) (.int .i64 ((j : Int) + 1)) (.int .i64 0) 44
  have hbx13 : w.heap.size < (w.alloc (.cells #[.int .i64 8, .int .i64 1, .int .i64 0, .int .i64 0, .int .i64 0, .int .i64 0, .int .i64 ((j : Int) + 1), .int .i64 0] 44)).heap.size := by simp
  have HS2 := Lib.hid ((fun b hb => by have h1 : w.heap.size + 1 ≤ b := (by simpa [NewIn] using hb); exact ⟨HS.out b (by omega), by omega⟩) : NewIn (fun b => S b ∧ b ≠ w.heap.size) (w.alloc (.cells #[.int .i64 8, .int .i64 1, .int .i64 0, .int .i64 0, .int .i64 0, .int .i64 0, .int .i64 ((j : Int) + 1), .int .i64 0] 44)))
  have hlb : w.heap.size < (w.alloc (.cells #[.int .i64 8, .int .i64 1, .int .i64 0, .int .i64 0, .int .i64 0, .int .i64 0, .int .i64 ((j : Int) + 1), .int .i64 0] 44)).heap.size := by simp
  go_enter Tryz.func69, Tryz.ntmps69
  go_wp2_with fail
  refine (opCode_0 _ X.out Hi.out _ HX.out H0.out).mono ?_
  rintro e w14 ⟨rfl, g1⟩
  have G1 := Lib.hid g1
  have hz14 := G1.out.size
  clear g1
  replace X := Lib.hid (X.out.up (tt G1.out))
  replace U := Lib.hid (Chg.trans U.out (tt G1.out))
  have hh := cc8 (tt G1.out) b0 b1 b2 b3 b4 b5 b6 b7
  clear b0 b1 b2 b3 b4 b5 b6 b7
  obtain ⟨b0, b1, b2, b3, b4, b5, b6, b7⟩ := hh
  clear G1
  have hKj : j < 4 := by omega
  obtain ⟨gC, jc, cC, hK, hCe⟩ := X.out.car Hi.out (car := ((j : Int) + 1)) (by omega)
  obtain rfl : j = jc := by have := hK.ec; omega
  have hkh := hK.hdr.1
  have hka := hK.a
  have hkb := hK.b
  clear hK
  go_wp2
  refine wp_region_l 157 (Nowhere) 9 [kon (.pointer (some ⟨p, 0, none⟩)), kon (.pointer (some ⟨p, 0, none⟩)), kon (.pointer (some ⟨p, 4, none⟩)), kon (.slice (some ⟨gC, 0, none⟩) 4 cC), kon (.pointer (some ⟨w.heap.size, 6, none⟩)), kon (.int .i64 ((j : Int) + 1)), kon (.int .i64 (j : Int)), kon (.agg #[.bool true, .int .i64 (-3)]), kon (.pointer (some ⟨gC, j * 2, none⟩))] [(0, 91, []), (1, 92, [0]), (2, 93, [1]), (3, 94, [2]), (4, 95, []), (5, 96, [4]), (6, 97, [5]), (7, 98, []), (8, 99, [3, 6, 0, 1, 2, 3, 4, 5, 6, 7])] (by kernel_rfl) (by kernel_rfl) (by kernel_rfl) rfl ?_ ?_ ?_
  · exact ⟨(keeps_kon _), ⟨(keeps_kon _), ⟨(keeps_kon _), ⟨(keeps_kon _), ⟨(keeps_kon _), ⟨(keeps_kon _), ⟨(keeps_kon _), ⟨(keeps_kon _), ⟨(keeps_kon _), trivial⟩⟩⟩⟩⟩⟩⟩⟩⟩
  · exact allBut_none 0 ⟨(keeps_kon _), ⟨(keeps_kon _), ⟨(keeps_kon _), ⟨(keeps_kon _), ⟨(keeps_kon _), ⟨(keeps_kon _), ⟨(keeps_kon _), ⟨(keeps_kon _), ⟨(keeps_kon _), trivial⟩⟩⟩⟩⟩⟩⟩⟩⟩
  refine ⟨fun w1 hc _ hn => ?_, fun v0 => ?_⟩
  · refine grow_same (v := .pointer (some ⟨p, 0, none⟩)) ?_ ?_
    exact x_move (.tmp 0) rfl rfl
    rfl
  refine ⟨fun w1 hc _ hn => ?_, fun v1 => ?_⟩
  · obtain rfl : (.pointer (some ⟨p, 0, none⟩) : Value) = v0 := Eq.symm hn.1
    refine grow_same (v := .pointer (some ⟨p, 0, none⟩)) ?_ ?_
    exact x_nil (p := ⟨p, 0, none⟩) (.tmp 91) rfl rfl
    rfl
  refine ⟨fun w1 hc _ hn => ?_, fun v2 => ?_⟩
  · obtain rfl : (.pointer (some ⟨p, 0, none⟩) : Value) = v1 := Eq.symm hn.1
    refine grow_same (v := .pointer (some ⟨p, 4, none⟩)) ?_ ?_
    exact x_field (q := .pointer (some ⟨p, 0, none⟩)) 60 (.tmp 92) 4 (by rfl) (by rfl) (by exact fa_m4 _ _)
    rfl
  refine ⟨fun w1 hc _ hn => ?_, fun v3 => ?_⟩
  · obtain rfl : (.pointer (some ⟨p, 4, none⟩) : Value) = v2 := Eq.symm hn.1
    refine grow_same (v := .slice (some ⟨gC, 0, none⟩) 4 cC) ?_ ?_
    exact x_load (q := .pointer (some ⟨p, 4, none⟩)) 57 (.tmp 93) (by rfl) (by rfl) (by exact ld_cars _ _ _ (hc.cell hkh id))
    rfl
  refine ⟨fun w1 hc _ hn => ?_, fun v4 => ?_⟩
  · refine grow_same (v := .pointer (some ⟨w.heap.size, 6, none⟩)) ?_ ?_
    exact x_field (q := .pointer (some ⟨w.heap.size, 0, none⟩)) 44 (.tmp 3) 4 (by rfl) (by rfl) (by exact fa_o4 _ _ _)
    rfl
  refine ⟨fun w1 hc _ hn => ?_, fun v5 => ?_⟩
  · obtain rfl : (.pointer (some ⟨w.heap.size, 6, none⟩) : Value) = v4 := Eq.symm hn.1
    refine grow_same (v := .int .i64 ((j : Int) + 1)) ?_ ?_
    exact x_load (q := .pointer (some ⟨w.heap.size, 6, none⟩)) 2 (.tmp 95) (by rfl) (by rfl) (by exact ld_int _ _ _ (hc.cell b6 id))
    rfl
  refine ⟨fun w1 hc _ hn => ?_, fun v6 => ?_⟩
  · obtain rfl : (.int .i64 ((j : Int) + 1) : Value) = v5 := Eq.symm hn.1
    exact grow_same (v := .int .i64 (j : Int)) (x_subc (.tmp 96) (.const (.int .i64 1)) (by rfl) (a := ((j : Int) + 1)) (b := 1) (by rfl) (by rfl) (by omega) (by omega)) rfl
  refine ⟨fun w1 hc _ hn => ?_, fun v7 => ?_⟩
  · exact grow_same (v := .agg #[.bool true, .int .i64 (-3)]) (x_build 96 _ (by rfl) #[(0, .bool true), (1, .int .i64 (-3))] (by simp only [List.map_toArray, List.map_cons, List.map_nil]; rfl) (by exact bd_car _ _ _)) rfl
  refine ⟨fun w1 hc _ hn => ?_, fun v8 => ?_⟩
  · obtain rfl : (.slice (some ⟨gC, 0, none⟩) 4 cC : Value) = v3 := Eq.symm hn.1
    obtain rfl : (.int .i64 (j : Int) : Value) = v6 := Eq.symm hn.2.1
    refine grow_same (v := .pointer (some ⟨gC, j * 2, none⟩)) ?_ ?_
    exact x_ixa 57 (.tmp 94) (.tmp 97) (by rfl) (u1 := .slice (some ⟨gC, 0, none⟩) 4 cC) (u2 := .int .i64 (j : Int)) (by rfl) (by rfl) (by exact ixa_car _ _ _ _ hKj _)
    rfl
  intro wb kb hn8
  obtain ⟨rfl, rfl, rfl, rfl, rfl, rfl, rfl, rfl, rfl, -⟩ := hn8
  have E1 := kb.cell hka.1 id
  have F1 := (kb.frozen hka.1 id).trans hka.2
  have E2 := kb.cell hkb.1 id
  have F2 := (kb.frozen hkb.1 id).trans hkb.2
  have X9 := Lib.hid ((X.out.up kb).seat Hi.out (car := ((j : Int) + 1)) rfl hKj hCe true (-3))
  have hgC := X.out.own _ (by simp) gC (by rw [hCe]; rfl : Value.ownBlock C = some gC)
  have G9 := Lib.hid (Chg.setCell (S := S) (Chg.setCell (Chg.trans (Chg.of_up U.out) (Chg.of_up kb)) (.inl hgC.1) (.bool true)) (.inl hgC.1) (.int .i64 (-3)) : Chg S w ((wb.setCell ⟨gC, j * 2, none⟩ (.bool true)).setCell ⟨gC, j * 2 + 1, none⟩ (.int .i64 (-3))))
  have d0 : ((wb.setCell ⟨gC, j * 2, none⟩ (.bool true)).setCell ⟨gC, j * 2 + 1, none⟩ (.int .i64 (-3))).cell? ⟨w.heap.size, 0, none⟩ = _ := keepS (keepS (kb.cell b0 id) hgC.2) hgC.2
  have d1 : ((wb.setCell ⟨gC, j * 2, none⟩ (.bool true)).setCell ⟨gC, j * 2 + 1, none⟩ (.int .i64 (-3))).cell? ⟨w.heap.size, 1, none⟩ = _ := keepS (keepS (kb.cell b1 id) hgC.2) hgC.2
  have d2 : ((wb.setCell ⟨gC, j * 2, none⟩ (.bool true)).setCell ⟨gC, j * 2 + 1, none⟩ (.int .i64 (-3))).cell? ⟨w.heap.size, 2, none⟩ = _ := keepS (keepS (kb.cell b2 id) hgC.2) hgC.2
  have d3 : ((wb.setCell ⟨gC, j * 2, none⟩ (.bool true)).setCell ⟨gC, j * 2 + 1, none⟩ (.int .i64 (-3))).cell? ⟨w.heap.size, 3, none⟩ = _ := keepS (keepS (kb.cell b3 id) hgC.2) hgC.2
  have d4 : ((wb.setCell ⟨gC, j * 2, none⟩ (.bool true)).setCell ⟨gC, j * 2 + 1, none⟩ (.int .i64 (-3))).cell? ⟨w.heap.size, 4, none⟩ = _ := keepS (keepS (kb.cell b4 id) hgC.2) hgC.2
  have d5 : ((wb.setCell ⟨gC, j * 2, none⟩ (.bool true)).setCell ⟨gC, j * 2 + 1, none⟩ (.int .i64 (-3))).cell? ⟨w.heap.size, 5, none⟩ = _ := keepS (keepS (kb.cell b5 id) hgC.2) hgC.2
  have d6 : ((wb.setCell ⟨gC, j * 2, none⟩ (.bool true)).setCell ⟨gC, j * 2 + 1, none⟩ (.int .i64 (-3))).cell? ⟨w.heap.size, 6, none⟩ = _ := keepS (keepS (kb.cell b6 id) hgC.2) hgC.2
  have d7 : ((wb.setCell ⟨gC, j * 2, none⟩ (.bool true)).setCell ⟨gC, j * 2 + 1, none⟩ (.int .i64 (-3))).cell? ⟨w.heap.size, 7, none⟩ = _ := keepS (keepS (kb.cell b7 id) hgC.2) hgC.2
  have hp0 := X9.out.c0.1
  have hst := st_car gC (j * 2) true (-3) _ _ wb E1 E2 F1 F2
  have E22 : (wb.setCell ⟨gC, j * 2, none⟩ (.bool true)).cell? ⟨gC, j * 2 + 1, none⟩ = _ := keepO E2 (by omega)
  clear hst hka hkb hkh kb b0 b1 b2 b3 b4 b5 b6 b7
  simp only [List.length_cons, List.length_nil, List.drop_succ_cons, List.drop_zero, Nat.zero_add]
  clear hp0
  go_wp2_with fail
  refine (makesLoop_b _ 8 false (by decide)).mono ?_
  rintro e w' ⟨rfl, rfl⟩
  go_wp2
  go_ret
  exact ⟨rfl, (X9.out.mono (T := S) (fun b _ hb => hb.1)).mach, G9.out⟩
theorem execute_inL (w : World) {S : Nat → Prop} {K p : Nat} {m : MachM} {F B C L D : Value} {fs bs : List Value} (h : MachX w S K p m F B C L D fs bs) (hS : NewIn S w) (hi : MInv m) (fb fa tb ta rk : Int) (j : Nat) (hx : okOp m.wd ⟨8, (-1), 0, 0, 0, 0, ((j : Int) + 1), 0⟩) (h0 : codeM m ⟨8, (-1), 0, 0, 0, 0, ((j : Int) + 1), 0⟩ = 0) :
    Calls Tryz.prog 69 #[.pointer (some ⟨p, 0, none⟩), .agg #[.int .i64 8, .int .i64 (-1), .int .i64 0, .int .i64 0, .int .i64 0, .int .i64 0, .int .i64 ((j : Int) + 1), .int .i64 0]] w fun e w' => e = .returned (.int .i64 0) ∧ Mach w' S K p (execM m ⟨8, (-1), 0, 0, 0, 0, ((j : Int) + 1), 0⟩) ∧ Chg S w w' := by
  obtain ⟨hx1, hx2, hx3⟩ := hx
  have hv := valid_cases hx1
  dsimp only at hx2 hx3 hv
  have hwd := hi.wd
  have hrk := hi.rack
  have cz := code_zero h0
  dsimp only at cz
  have HX := Lib.hid (show okOp m.wd ⟨8, (-1), 0, 0, 0, 0, ((j : Int) + 1), 0⟩ from ⟨hx1, hx2, hx3⟩)
  clear hx1
  have H0 := Lib.hid h0
  clear h0
  have Hi := Lib.hid hi
  have HS := Lib.hid hS
  have HX2 := Lib.hid (h.mono (T := (fun b => S b ∧ b ≠ w.heap.size)) (fun b hb hs => ⟨hs, Nat.ne_of_lt hb⟩))
  have X := Lib.hid (HX2.out)
  have U := Lib.hid ((Chg.refl Nowhere w))
  clear h hi hS HX2
  replace X := Lib.hid (X.out.up ((Chg.refl Nowhere w).alloc (.cells #[.int .i64 8, .int .i64 (-1), .int .i64 0, .int .i64 0, .int .i64 0, .int .i64 0, .int .i64 ((j : Int) + 1), .int .i64 0] 44)))
  replace U := Lib.hid (Chg.trans U.out ((Chg.refl Nowhere w).alloc (.cells #[.int .i64 8, .int .i64 (-1), .int .i64 0, .int .i64 0, .int .i64 0, .int .i64 0, .int .i64 ((j : Int) + 1), .int .i64 0] 44)))
  obtain ⟨b0, b1, b2, b3, b4, b5, b6, b7⟩ := box8 w (.int .i64 8) (.int .i64 (-1)) (.int .i64 0) (.int .i64 0) (.int .i64 0) (.int .i64 0) (.int .i64 ((j : Int) + 1)) (.int .i64 0) 44
  have hbx13 : w.heap.size < (w.alloc (.cells #[.int .i64 8, .int .i64 (-1), .int .i64 0, .int .i64 0, .int .i64 0, .int .i64 0, .int .i64 ((j : Int) + 1), .int .i64 0] 44)).heap.size := by simp
  have HS2 := Lib.hid ((fun b hb => by have h1 : w.heap.size + 1 ≤ b := (by simpa [NewIn] using hb); exact ⟨HS.out b (by omega), by omega⟩) : NewIn (fun b => S b ∧ b ≠ w.heap.size) (w.alloc (.cells #[.int .i64 8, .int .i64 (-1), .int .i64 0, .int .i64 0, .int .i64 0, .int .i64 0, .int .i64 ((j : Int) + 1), .int .i64 0] 44)))
  have hlb : w.heap.size < (w.alloc (.cells #[.int .i64 8, .int .i64 (-1), .int .i64 0, .int .i64 0, .int .i64 0, .int .i64 0, .int .i64 ((j : Int) + 1), .int .i64 0] 44)).heap.size := by simp
  go_enter Tryz.func69, Tryz.ntmps69
  go_wp2_with fail
  refine (opCode_0 _ X.out Hi.out _ HX.out H0.out).mono ?_
  rintro e w14 ⟨rfl, g1⟩
  have G1 := Lib.hid g1
  have hz14 := G1.out.size
  clear g1
  replace X := Lib.hid (X.out.up (tt G1.out))
  replace U := Lib.hid (Chg.trans U.out (tt G1.out))
  have hh := cc8 (tt G1.out) b0 b1 b2 b3 b4 b5 b6 b7
  clear b0 b1 b2 b3 b4 b5 b6 b7
  obtain ⟨b0, b1, b2, b3, b4, b5, b6, b7⟩ := hh
  clear G1
  have hKj : j < 4 := by omega
  obtain ⟨gC, jc, cC, hK, hCe⟩ := X.out.car Hi.out (car := ((j : Int) + 1)) (by omega)
  obtain rfl : j = jc := by have := hK.ec; omega
  have hkh := hK.hdr.1
  have hka := hK.a
  have hkb := hK.b
  clear hK
  go_wp2
  refine wp_region_l 157 (Nowhere) 9 [kon (.pointer (some ⟨p, 0, none⟩)), kon (.pointer (some ⟨p, 0, none⟩)), kon (.pointer (some ⟨p, 4, none⟩)), kon (.slice (some ⟨gC, 0, none⟩) 4 cC), kon (.pointer (some ⟨w.heap.size, 6, none⟩)), kon (.int .i64 ((j : Int) + 1)), kon (.int .i64 (j : Int)), kon (.agg #[.bool true, .int .i64 (-3)]), kon (.pointer (some ⟨gC, j * 2, none⟩))] [(0, 91, []), (1, 92, [0]), (2, 93, [1]), (3, 94, [2]), (4, 95, []), (5, 96, [4]), (6, 97, [5]), (7, 98, []), (8, 99, [3, 6, 0, 1, 2, 3, 4, 5, 6, 7])] (by kernel_rfl) (by kernel_rfl) (by kernel_rfl) rfl ?_ ?_ ?_
  · exact ⟨(keeps_kon _), ⟨(keeps_kon _), ⟨(keeps_kon _), ⟨(keeps_kon _), ⟨(keeps_kon _), ⟨(keeps_kon _), ⟨(keeps_kon _), ⟨(keeps_kon _), ⟨(keeps_kon _), trivial⟩⟩⟩⟩⟩⟩⟩⟩⟩
  · exact allBut_none 0 ⟨(keeps_kon _), ⟨(keeps_kon _), ⟨(keeps_kon _), ⟨(keeps_kon _), ⟨(keeps_kon _), ⟨(keeps_kon _), ⟨(keeps_kon _), ⟨(keeps_kon _), ⟨(keeps_kon _), trivial⟩⟩⟩⟩⟩⟩⟩⟩⟩
  refine ⟨fun w1 hc _ hn => ?_, fun v0 => ?_⟩
  · refine grow_same (v := .pointer (some ⟨p, 0, none⟩)) ?_ ?_
    exact x_move (.tmp 0) rfl rfl
    rfl
  refine ⟨fun w1 hc _ hn => ?_, fun v1 => ?_⟩
  · obtain rfl : (.pointer (some ⟨p, 0, none⟩) : Value) = v0 := Eq.symm hn.1
    refine grow_same (v := .pointer (some ⟨p, 0, none⟩)) ?_ ?_
    exact x_nil (p := ⟨p, 0, none⟩) (.tmp 91) rfl rfl
    rfl
  refine ⟨fun w1 hc _ hn => ?_, fun v2 => ?_⟩
  · obtain rfl : (.pointer (some ⟨p, 0, none⟩) : Value) = v1 := Eq.symm hn.1
    refine grow_same (v := .pointer (some ⟨p, 4, none⟩)) ?_ ?_
    exact x_field (q := .pointer (some ⟨p, 0, none⟩)) 60 (.tmp 92) 4 (by rfl) (by rfl) (by exact fa_m4 _ _)
    rfl
  refine ⟨fun w1 hc _ hn => ?_, fun v3 => ?_⟩
  · obtain rfl : (.pointer (some ⟨p, 4, none⟩) : Value) = v2 := Eq.symm hn.1
    refine grow_same (v := .slice (some ⟨gC, 0, none⟩) 4 cC) ?_ ?_
    exact x_load (q := .pointer (some ⟨p, 4, none⟩)) 57 (.tmp 93) (by rfl) (by rfl) (by exact ld_cars _ _ _ (hc.cell hkh id))
    rfl
  refine ⟨fun w1 hc _ hn => ?_, fun v4 => ?_⟩
  · refine grow_same (v := .pointer (some ⟨w.heap.size, 6, none⟩)) ?_ ?_
    exact x_field (q := .pointer (some ⟨w.heap.size, 0, none⟩)) 44 (.tmp 3) 4 (by rfl) (by rfl) (by exact fa_o4 _ _ _)
    rfl
  refine ⟨fun w1 hc _ hn => ?_, fun v5 => ?_⟩
  · obtain rfl : (.pointer (some ⟨w.heap.size, 6, none⟩) : Value) = v4 := Eq.symm hn.1
    refine grow_same (v := .int .i64 ((j : Int) + 1)) ?_ ?_
    exact x_load (q := .pointer (some ⟨w.heap.size, 6, none⟩)) 2 (.tmp 95) (by rfl) (by rfl) (by exact ld_int _ _ _ (hc.cell b6 id))
    rfl
  refine ⟨fun w1 hc _ hn => ?_, fun v6 => ?_⟩
  · obtain rfl : (.int .i64 ((j : Int) + 1) : Value) = v5 := Eq.symm hn.1
    exact grow_same (v := .int .i64 (j : Int)) (x_subc (.tmp 96) (.const (.int .i64 1)) (by rfl) (a := ((j : Int) + 1)) (b := 1) (by rfl) (by rfl) (by omega) (by omega)) rfl
  refine ⟨fun w1 hc _ hn => ?_, fun v7 => ?_⟩
  · exact grow_same (v := .agg #[.bool true, .int .i64 (-3)]) (x_build 96 _ (by rfl) #[(0, .bool true), (1, .int .i64 (-3))] (by simp only [List.map_toArray, List.map_cons, List.map_nil]; rfl) (by exact bd_car _ _ _)) rfl
  refine ⟨fun w1 hc _ hn => ?_, fun v8 => ?_⟩
  · obtain rfl : (.slice (some ⟨gC, 0, none⟩) 4 cC : Value) = v3 := Eq.symm hn.1
    obtain rfl : (.int .i64 (j : Int) : Value) = v6 := Eq.symm hn.2.1
    refine grow_same (v := .pointer (some ⟨gC, j * 2, none⟩)) ?_ ?_
    exact x_ixa 57 (.tmp 94) (.tmp 97) (by rfl) (u1 := .slice (some ⟨gC, 0, none⟩) 4 cC) (u2 := .int .i64 (j : Int)) (by rfl) (by rfl) (by exact ixa_car _ _ _ _ hKj _)
    rfl
  intro wb kb hn8
  obtain ⟨rfl, rfl, rfl, rfl, rfl, rfl, rfl, rfl, rfl, -⟩ := hn8
  have E1 := kb.cell hka.1 id
  have F1 := (kb.frozen hka.1 id).trans hka.2
  have E2 := kb.cell hkb.1 id
  have F2 := (kb.frozen hkb.1 id).trans hkb.2
  have X9 := Lib.hid ((X.out.up kb).seat Hi.out (car := ((j : Int) + 1)) rfl hKj hCe true (-3))
  have hgC := X.out.own _ (by simp) gC (by rw [hCe]; rfl : Value.ownBlock C = some gC)
  have G9 := Lib.hid (Chg.setCell (S := S) (Chg.setCell (Chg.trans (Chg.of_up U.out) (Chg.of_up kb)) (.inl hgC.1) (.bool true)) (.inl hgC.1) (.int .i64 (-3)) : Chg S w ((wb.setCell ⟨gC, j * 2, none⟩ (.bool true)).setCell ⟨gC, j * 2 + 1, none⟩ (.int .i64 (-3))))
  have d0 : ((wb.setCell ⟨gC, j * 2, none⟩ (.bool true)).setCell ⟨gC, j * 2 + 1, none⟩ (.int .i64 (-3))).cell? ⟨w.heap.size, 0, none⟩ = _ := keepS (keepS (kb.cell b0 id) hgC.2) hgC.2
  have d1 : ((wb.setCell ⟨gC, j * 2, none⟩ (.bool true)).setCell ⟨gC, j * 2 + 1, none⟩ (.int .i64 (-3))).cell? ⟨w.heap.size, 1, none⟩ = _ := keepS (keepS (kb.cell b1 id) hgC.2) hgC.2
  have d2 : ((wb.setCell ⟨gC, j * 2, none⟩ (.bool true)).setCell ⟨gC, j * 2 + 1, none⟩ (.int .i64 (-3))).cell? ⟨w.heap.size, 2, none⟩ = _ := keepS (keepS (kb.cell b2 id) hgC.2) hgC.2
  have d3 : ((wb.setCell ⟨gC, j * 2, none⟩ (.bool true)).setCell ⟨gC, j * 2 + 1, none⟩ (.int .i64 (-3))).cell? ⟨w.heap.size, 3, none⟩ = _ := keepS (keepS (kb.cell b3 id) hgC.2) hgC.2
  have d4 : ((wb.setCell ⟨gC, j * 2, none⟩ (.bool true)).setCell ⟨gC, j * 2 + 1, none⟩ (.int .i64 (-3))).cell? ⟨w.heap.size, 4, none⟩ = _ := keepS (keepS (kb.cell b4 id) hgC.2) hgC.2
  have d5 : ((wb.setCell ⟨gC, j * 2, none⟩ (.bool true)).setCell ⟨gC, j * 2 + 1, none⟩ (.int .i64 (-3))).cell? ⟨w.heap.size, 5, none⟩ = _ := keepS (keepS (kb.cell b5 id) hgC.2) hgC.2
  have d6 : ((wb.setCell ⟨gC, j * 2, none⟩ (.bool true)).setCell ⟨gC, j * 2 + 1, none⟩ (.int .i64 (-3))).cell? ⟨w.heap.size, 6, none⟩ = _ := keepS (keepS (kb.cell b6 id) hgC.2) hgC.2
  have d7 : ((wb.setCell ⟨gC, j * 2, none⟩ (.bool true)).setCell ⟨gC, j * 2 + 1, none⟩ (.int .i64 (-3))).cell? ⟨w.heap.size, 7, none⟩ = _ := keepS (keepS (kb.cell b7 id) hgC.2) hgC.2
  have hp0 := X9.out.c0.1
  have hkh9 := X9.out.c4.1
  rw [hCe] at hkh9
  have E3 : ((wb.setCell ⟨gC, j * 2, none⟩ (.bool true)).setCell ⟨gC, j * 2 + 1, none⟩ (.int .i64 (-3))).cell? ⟨gC, j * 2 + 1, none⟩ = some (.int .i64 (-3)) := World.cell?_setCell_same _ _ _ (keepO E2 (by omega) : (wb.setCell ⟨gC, j * 2, none⟩ (.bool true)).cell? ⟨gC, j * 2 + 1, none⟩ = _)
  have F3 : ((wb.setCell ⟨gC, j * 2, none⟩ (.bool true)).setCell ⟨gC, j * 2 + 1, none⟩ (.int .i64 (-3))).frozen? ⟨gC, j * 2 + 1, none⟩ = false := by simpa using F2
  have hst := st_car gC (j * 2) true (-3) _ _ wb E1 E2 F1 F2
  have E22 : (wb.setCell ⟨gC, j * 2, none⟩ (.bool true)).cell? ⟨gC, j * 2 + 1, none⟩ = _ := keepO E2 (by omega)
  clear hst hka hkb hkh kb b0 b1 b2 b3 b4 b5 b6 b7
  simp only [List.length_cons, List.length_nil, List.drop_succ_cons, List.drop_zero, Nat.zero_add]
  go_wp2
  refine wp_region_l 157 (Nowhere) 14 [kon (.pointer (some ⟨p, 0, none⟩)), kon (.pointer (some ⟨p, 0, none⟩)), kon (.pointer (some ⟨p, 4, none⟩)), kon (.slice (some ⟨gC, 0, none⟩) 4 cC), kon (.pointer (some ⟨w.heap.size, 6, none⟩)), kon (.int .i64 ((j : Int) + 1)), kon (.int .i64 (j : Int)), kon (.pointer (some ⟨p, 0, none⟩)), kon (.pointer (some ⟨p, 0, none⟩)), kon (.pointer (some ⟨p, 0, none⟩)), kon (.int .i64 m.wd), kon (.int .i64 (m.wd + 3)), kon (.pointer (some ⟨gC, j * 2, none⟩)), kon (.pointer (some ⟨gC, j * 2 + 1, none⟩))] [(0, 103, []), (1, 104, [0]), (2, 105, [1]), (3, 106, [2]), (4, 107, []), (5, 108, [4]), (6, 109, [5]), (7, 110, []), (8, 111, [7]), (9, 112, [8]), (10, 113, [9]), (11, 114, [10]), (12, 115, [3, 6, 0, 1, 2, 3, 4, 5, 6, 7, 8, 9, 10, 11]), (13, 116, [12, 0, 1, 2, 3, 4, 5, 6, 7, 8, 9, 10, 11])] (by kernel_rfl) (by kernel_rfl) (by kernel_rfl) rfl ?_ ?_ ?_
  · exact ⟨(keeps_kon _), ⟨(keeps_kon _), ⟨(keeps_kon _), ⟨(keeps_kon _), ⟨(keeps_kon _), ⟨(keeps_kon _), ⟨(keeps_kon _), ⟨(keeps_kon _), ⟨(keeps_kon _), ⟨(keeps_kon _), ⟨(keeps_kon _), ⟨(keeps_kon _), ⟨(keeps_kon _), ⟨(keeps_kon _), trivial⟩⟩⟩⟩⟩⟩⟩⟩⟩⟩⟩⟩⟩⟩
  · exact allBut_none 0 ⟨(keeps_kon _), ⟨(keeps_kon _), ⟨(keeps_kon _), ⟨(keeps_kon _), ⟨(keeps_kon _), ⟨(keeps_kon _), ⟨(keeps_kon _), ⟨(keeps_kon _), ⟨(keeps_kon _), ⟨(keeps_kon _), ⟨(keeps_kon _), ⟨(keeps_kon _), ⟨(keeps_kon _), ⟨(keeps_kon _), trivial⟩⟩⟩⟩⟩⟩⟩⟩⟩⟩⟩⟩⟩⟩
  refine ⟨fun w1 hc _ hn => ?_, fun v0 => ?_⟩
  · refine grow_same (v := .pointer (some ⟨p, 0, none⟩)) ?_ ?_
    exact x_move (.tmp 0) rfl rfl
    rfl
  refine ⟨fun w1 hc _ hn => ?_, fun v1 => ?_⟩
  · obtain rfl : (.pointer (some ⟨p, 0, none⟩) : Value) = v0 := Eq.symm hn.1
    refine grow_same (v := .pointer (some ⟨p, 0, none⟩)) ?_ ?_
    exact x_nil (p := ⟨p, 0, none⟩) (.tmp 103) rfl rfl
    rfl
  refine ⟨fun w1 hc _ hn => ?_, fun v2 => ?_⟩
  · obtain rfl : (.pointer (some ⟨p, 0, none⟩) : Value) = v1 := Eq.symm hn.1
    refine grow_same (v := .pointer (some ⟨p, 4, none⟩)) ?_ ?_
    exact x_field (q := .pointer (some ⟨p, 0, none⟩)) 60 (.tmp 104) 4 (by rfl) (by rfl) (by exact fa_m4 _ _)
    rfl
  refine ⟨fun w1 hc _ hn => ?_, fun v3 => ?_⟩
  · obtain rfl : (.pointer (some ⟨p, 4, none⟩) : Value) = v2 := Eq.symm hn.1
    refine grow_same (v := .slice (some ⟨gC, 0, none⟩) 4 cC) ?_ ?_
    exact x_load (q := .pointer (some ⟨p, 4, none⟩)) 57 (.tmp 105) (by rfl) (by rfl) (by exact ld_cars _ _ _ (hc.cell hkh9 id))
    rfl
  refine ⟨fun w1 hc _ hn => ?_, fun v4 => ?_⟩
  · refine grow_same (v := .pointer (some ⟨w.heap.size, 6, none⟩)) ?_ ?_
    exact x_field (q := .pointer (some ⟨w.heap.size, 0, none⟩)) 44 (.tmp 3) 4 (by rfl) (by rfl) (by exact fa_o4 _ _ _)
    rfl
  refine ⟨fun w1 hc _ hn => ?_, fun v5 => ?_⟩
  · obtain rfl : (.pointer (some ⟨w.heap.size, 6, none⟩) : Value) = v4 := Eq.symm hn.1
    refine grow_same (v := .int .i64 ((j : Int) + 1)) ?_ ?_
    exact x_load (q := .pointer (some ⟨w.heap.size, 6, none⟩)) 2 (.tmp 107) (by rfl) (by rfl) (by exact ld_int _ _ _ (hc.cell d6 id))
    rfl
  refine ⟨fun w1 hc _ hn => ?_, fun v6 => ?_⟩
  · obtain rfl : (.int .i64 ((j : Int) + 1) : Value) = v5 := Eq.symm hn.1
    exact grow_same (v := .int .i64 (j : Int)) (x_subc (.tmp 108) (.const (.int .i64 1)) (by rfl) (a := ((j : Int) + 1)) (b := 1) (by rfl) (by rfl) (by omega) (by omega)) rfl
  refine ⟨fun w1 hc _ hn => ?_, fun v7 => ?_⟩
  · refine grow_same (v := .pointer (some ⟨p, 0, none⟩)) ?_ ?_
    exact x_move (.tmp 0) rfl rfl
    rfl
  refine ⟨fun w1 hc _ hn => ?_, fun v8 => ?_⟩
  · obtain rfl : (.pointer (some ⟨p, 0, none⟩) : Value) = v7 := Eq.symm hn.1
    refine grow_same (v := .pointer (some ⟨p, 0, none⟩)) ?_ ?_
    exact x_nil (p := ⟨p, 0, none⟩) (.tmp 110) rfl rfl
    rfl
  refine ⟨fun w1 hc _ hn => ?_, fun v9 => ?_⟩
  · obtain rfl : (.pointer (some ⟨p, 0, none⟩) : Value) = v8 := Eq.symm hn.1
    refine grow_same (v := .pointer (some ⟨p, 0, none⟩)) ?_ ?_
    exact x_field (q := .pointer (some ⟨p, 0, none⟩)) 60 (.tmp 111) 0 (by rfl) (by rfl) (by exact fa_m0 _ _)
    rfl
  refine ⟨fun w1 hc _ hn => ?_, fun v10 => ?_⟩
  · obtain rfl : (.pointer (some ⟨p, 0, none⟩) : Value) = v9 := Eq.symm hn.1
    refine grow_same (v := .int .i64 m.wd) ?_ ?_
    exact x_load (q := .pointer (some ⟨p, 0, none⟩)) 2 (.tmp 112) (by rfl) (by rfl) (by exact ld_int _ _ _ (hc.cell hp0 id))
    rfl
  refine ⟨fun w1 hc _ hn => ?_, fun v11 => ?_⟩
  · obtain rfl : (.int .i64 m.wd : Value) = v10 := Eq.symm hn.1
    refine grow_same (v := .int .i64 (m.wd + 3)) ?_ ?_
    exact x_add (.tmp 113) (.const (.int .i64 3)) (by rfl) (a := m.wd) (b := 3) (by rfl) (by rfl) (by omega)
    rfl
  refine ⟨fun w1 hc _ hn => ?_, fun v12 => ?_⟩
  · obtain rfl : (.slice (some ⟨gC, 0, none⟩) 4 cC : Value) = v3 := Eq.symm hn.1
    obtain rfl : (.int .i64 (j : Int) : Value) = v6 := Eq.symm hn.2.1
    refine grow_same (v := .pointer (some ⟨gC, j * 2, none⟩)) ?_ ?_
    exact x_ixa 57 (.tmp 106) (.tmp 109) (by rfl) (u1 := .slice (some ⟨gC, 0, none⟩) 4 cC) (u2 := .int .i64 (j : Int)) (by rfl) (by rfl) (by exact ixa_car _ _ _ _ hKj _)
    rfl
  refine ⟨fun w1 hc _ hn => ?_, fun v13 => ?_⟩
  · obtain rfl : (.pointer (some ⟨gC, j * 2, none⟩) : Value) = v12 := Eq.symm hn.1
    refine grow_same (v := .pointer (some ⟨gC, j * 2 + 1, none⟩)) ?_ ?_
    exact x_field (q := .pointer (some ⟨gC, j * 2, none⟩)) 96 (.tmp 115) 1 (by rfl) (by rfl) (by exact fa_c1 _ _ _)
    rfl
  intro wd kd hn9
  obtain ⟨rfl, rfl, rfl, rfl, rfl, rfl, rfl, rfl, rfl, rfl, rfl, rfl, rfl, rfl, -⟩ := hn9
  have E4 := kd.cell E3 id
  have F4 := (kd.frozen E3 id).trans F3
  have Hi9 := Lib.hid (Hi.out.setCar_ ((j : Int) + 1) (x := (true, -3)) ⟨by omega, by omega, fun h => by cases h⟩)
  have X10 := Lib.hid ((X9.out.up kd).ride Hi9.out (car := ((j : Int) + 1)) rfl hKj hCe (m.wd + 3))
  have G10 := Lib.hid (Chg.setCell (S := S) (Chg.trans G9.out (Chg.of_up kd)) (.inl hgC.1) (.int .i64 (m.wd + 3)) : Chg S w (wd.setCell ⟨gC, j * 2 + 1, none⟩ (.int .i64 (m.wd + 3))))
  have d8 : (wd.setCell ⟨gC, j * 2 + 1, none⟩ (.int .i64 (m.wd + 3))).cell? ⟨w.heap.size, 0, none⟩ = _ := keepS (kd.cell d0 id) hgC.2
  clear E3 F3 hp0 hkh9 d0 d1 d2 d3 d4 d5 d6 d7
  simp only [List.length_cons, List.length_nil, List.drop_succ_cons, List.drop_zero, Nat.zero_add]
  go_wp2_with fail
  refine (makesLoop_b _ 8 false (by decide)).mono ?_
  rintro e w' ⟨rfl, rfl⟩
  go_wp2
  go_ret
  have := (X10.out.mono (T := S) (fun b _ hb => hb.1)).mach
  rw [setCar_twice m Hi.out j hKj] at this
  exact ⟨rfl, this, G10.out⟩
theorem execute_out (w : World) {S : Nat → Prop} {K p : Nat} {m : MachM} {F B C L D : Value} {fs bs : List Value} (h : MachX w S K p m F B C L D fs bs) (hS : NewIn S w) (hi : MInv m) (fb fa tb ta rk : Int) (j : Nat) (hx : okOp m.wd ⟨9, 0, 0, 0, 0, 0, ((j : Int) + 1), 0⟩) (h0 : codeM m ⟨9, 0, 0, 0, 0, 0, ((j : Int) + 1), 0⟩ = 0) :
    Calls Tryz.prog 69 #[.pointer (some ⟨p, 0, none⟩), .agg #[.int .i64 9, .int .i64 0, .int .i64 0, .int .i64 0, .int .i64 0, .int .i64 0, .int .i64 ((j : Int) + 1), .int .i64 0]] w fun e w' => e = .returned (.int .i64 0) ∧ Mach w' S K p (execM m ⟨9, 0, 0, 0, 0, 0, ((j : Int) + 1), 0⟩) ∧ Chg S w w' := by
  obtain ⟨hx1, hx2, hx3⟩ := hx
  have hv := valid_cases hx1
  dsimp only at hx2 hx3 hv
  have hwd := hi.wd
  have hrk := hi.rack
  have cz := code_zero h0
  dsimp only at cz
  have HX := Lib.hid (show okOp m.wd ⟨9, 0, 0, 0, 0, 0, ((j : Int) + 1), 0⟩ from ⟨hx1, hx2, hx3⟩)
  clear hx1
  have H0 := Lib.hid h0
  clear h0
  have Hi := Lib.hid hi
  have HS := Lib.hid hS
  have HX2 := Lib.hid (h.mono (T := (fun b => S b ∧ b ≠ w.heap.size)) (fun b hb hs => ⟨hs, Nat.ne_of_lt hb⟩))
  have X := Lib.hid (HX2.out)
  have U := Lib.hid ((Chg.refl Nowhere w))
  clear h hi hS HX2
  replace X := Lib.hid (X.out.up ((Chg.refl Nowhere w).alloc (.cells #[.int .i64 9, .int .i64 0, .int .i64 0, .int .i64 0, .int .i64 0, .int .i64 0, .int .i64 ((j : Int) + 1), .int .i64 0] 44)))
  replace U := Lib.hid (Chg.trans U.out ((Chg.refl Nowhere w).alloc (.cells #[.int .i64 9, .int .i64 0, .int .i64 0, .int .i64 0, .int .i64 0, .int .i64 0, .int .i64 ((j : Int) + 1), .int .i64 0] 44)))
  obtain ⟨b0, b1, b2, b3, b4, b5, b6, b7⟩ := box8 w (.int .i64 9) (.int .i64 0) (.int .i64 0) (.int .i64 0) (.int .i64 0) (.int .i64 0) (.int .i64 ((j : Int) + 1)) (.int .i64 0) 44
  have hbx13 : w.heap.size < (w.alloc (.cells #[.int .i64 9, .int .i64 0, .int .i64 0, .int .i64 0, .int .i64 0, .int .i64 0, .int .i64 ((j : Int) + 1), .int .i64 0] 44)).heap.size := by simp
  have HS2 := Lib.hid ((fun b hb => by have h1 : w.heap.size + 1 ≤ b := (by simpa [NewIn] using hb); exact ⟨HS.out b (by omega), by omega⟩) : NewIn (fun b => S b ∧ b ≠ w.heap.size) (w.alloc (.cells #[.int .i64 9, .int .i64 0, .int .i64 0, .int .i64 0, .int .i64 0, .int .i64 0, .int .i64 ((j : Int) + 1), .int .i64 0] 44)))
  have hlb : w.heap.size < (w.alloc (.cells #[.int .i64 9, .int .i64 0, .int .i64 0, .int .i64 0, .int .i64 0, .int .i64 0, .int .i64 ((j : Int) + 1), .int .i64 0] 44)).heap.size := by simp
  go_enter Tryz.func69, Tryz.ntmps69
  go_wp2_with fail
  refine (opCode_0 _ X.out Hi.out _ HX.out H0.out).mono ?_
  rintro e w14 ⟨rfl, g1⟩
  have G1 := Lib.hid g1
  have hz14 := G1.out.size
  clear g1
  replace X := Lib.hid (X.out.up (tt G1.out))
  replace U := Lib.hid (Chg.trans U.out (tt G1.out))
  have hh := cc8 (tt G1.out) b0 b1 b2 b3 b4 b5 b6 b7
  clear b0 b1 b2 b3 b4 b5 b6 b7
  obtain ⟨b0, b1, b2, b3, b4, b5, b6, b7⟩ := hh
  clear G1
  have hKj : j < 4 := by omega
  obtain ⟨gC, jc, cC, hK, hCe⟩ := X.out.car Hi.out (car := ((j : Int) + 1)) (by omega)
  obtain rfl : j = jc := by have := hK.ec; omega
  have hkh := hK.hdr.1
  have hka := hK.a
  have hkb := hK.b
  clear hK
  go_wp2
  refine wp_region_l 157 (Nowhere) 9 [kon (.pointer (some ⟨p, 0, none⟩)), kon (.pointer (some ⟨p, 0, none⟩)), kon (.pointer (some ⟨p, 4, none⟩)), kon (.slice (some ⟨gC, 0, none⟩) 4 cC), kon (.pointer (some ⟨w.heap.size, 6, none⟩)), kon (.int .i64 ((j : Int) + 1)), kon (.int .i64 (j : Int)), kon (.agg #[.bool false, .int .i64 0]), kon (.pointer (some ⟨gC, j * 2, none⟩))] [(0, 119, []), (1, 120, [0]), (2, 121, [1]), (3, 122, [2]), (4, 123, []), (5, 124, [4]), (6, 125, [5]), (7, 126, []), (8, 127, [3, 6, 0, 1, 2, 3, 4, 5, 6, 7])] (by kernel_rfl) (by kernel_rfl) (by kernel_rfl) rfl ?_ ?_ ?_
  · exact ⟨(keeps_kon _), ⟨(keeps_kon _), ⟨(keeps_kon _), ⟨(keeps_kon _), ⟨(keeps_kon _), ⟨(keeps_kon _), ⟨(keeps_kon _), ⟨(keeps_kon _), ⟨(keeps_kon _), trivial⟩⟩⟩⟩⟩⟩⟩⟩⟩
  · exact allBut_none 0 ⟨(keeps_kon _), ⟨(keeps_kon _), ⟨(keeps_kon _), ⟨(keeps_kon _), ⟨(keeps_kon _), ⟨(keeps_kon _), ⟨(keeps_kon _), ⟨(keeps_kon _), ⟨(keeps_kon _), trivial⟩⟩⟩⟩⟩⟩⟩⟩⟩
  refine ⟨fun w1 hc _ hn => ?_, fun v0 => ?_⟩
  · refine grow_same (v := .pointer (some ⟨p, 0, none⟩)) ?_ ?_
    exact x_move (.tmp 0) rfl rfl
    rfl
  refine ⟨fun w1 hc _ hn => ?_, fun v1 => ?_⟩
  · obtain rfl : (.pointer (some ⟨p, 0, none⟩) : Value) = v0 := Eq.symm hn.1
    refine grow_same (v := .pointer (some ⟨p, 0, none⟩)) ?_ ?_
    exact x_nil (p := ⟨p, 0, none⟩) (.tmp 119) rfl rfl
    rfl
  refine ⟨fun w1 hc _ hn => ?_, fun v2 => ?_⟩
  · obtain rfl : (.pointer (some ⟨p, 0, none⟩) : Value) = v1 := Eq.symm hn.1
    refine grow_same (v := .pointer (some ⟨p, 4, none⟩)) ?_ ?_
    exact x_field (q := .pointer (some ⟨p, 0, none⟩)) 60 (.tmp 120) 4 (by rfl) (by rfl) (by exact fa_m4 _ _)
    rfl
  refine ⟨fun w1 hc _ hn => ?_, fun v3 => ?_⟩
  · obtain rfl : (.pointer (some ⟨p, 4, none⟩) : Value) = v2 := Eq.symm hn.1
    refine grow_same (v := .slice (some ⟨gC, 0, none⟩) 4 cC) ?_ ?_
    exact x_load (q := .pointer (some ⟨p, 4, none⟩)) 57 (.tmp 121) (by rfl) (by rfl) (by exact ld_cars _ _ _ (hc.cell hkh id))
    rfl
  refine ⟨fun w1 hc _ hn => ?_, fun v4 => ?_⟩
  · refine grow_same (v := .pointer (some ⟨w.heap.size, 6, none⟩)) ?_ ?_
    exact x_field (q := .pointer (some ⟨w.heap.size, 0, none⟩)) 44 (.tmp 3) 4 (by rfl) (by rfl) (by exact fa_o4 _ _ _)
    rfl
  refine ⟨fun w1 hc _ hn => ?_, fun v5 => ?_⟩
  · obtain rfl : (.pointer (some ⟨w.heap.size, 6, none⟩) : Value) = v4 := Eq.symm hn.1
    refine grow_same (v := .int .i64 ((j : Int) + 1)) ?_ ?_
    exact x_load (q := .pointer (some ⟨w.heap.size, 6, none⟩)) 2 (.tmp 123) (by rfl) (by rfl) (by exact ld_int _ _ _ (hc.cell b6 id))
    rfl
  refine ⟨fun w1 hc _ hn => ?_, fun v6 => ?_⟩
  · obtain rfl : (.int .i64 ((j : Int) + 1) : Value) = v5 := Eq.symm hn.1
    exact grow_same (v := .int .i64 (j : Int)) (x_subc (.tmp 124) (.const (.int .i64 1)) (by rfl) (a := ((j : Int) + 1)) (b := 1) (by rfl) (by rfl) (by omega) (by omega)) rfl
  refine ⟨fun w1 hc _ hn => ?_, fun v7 => ?_⟩
  · exact grow_same (v := .agg #[.bool false, .int .i64 0]) (x_build 96 _ (by rfl) #[] (by simp only [List.map_toArray, List.map_nil]) (by exact bd_car0 _)) rfl
  refine ⟨fun w1 hc _ hn => ?_, fun v8 => ?_⟩
  · obtain rfl : (.slice (some ⟨gC, 0, none⟩) 4 cC : Value) = v3 := Eq.symm hn.1
    obtain rfl : (.int .i64 (j : Int) : Value) = v6 := Eq.symm hn.2.1
    refine grow_same (v := .pointer (some ⟨gC, j * 2, none⟩)) ?_ ?_
    exact x_ixa 57 (.tmp 122) (.tmp 125) (by rfl) (u1 := .slice (some ⟨gC, 0, none⟩) 4 cC) (u2 := .int .i64 (j : Int)) (by rfl) (by rfl) (by exact ixa_car _ _ _ _ hKj _)
    rfl
  intro wb kb hn8
  obtain ⟨rfl, rfl, rfl, rfl, rfl, rfl, rfl, rfl, rfl, -⟩ := hn8
  have E1 := kb.cell hka.1 id
  have F1 := (kb.frozen hka.1 id).trans hka.2
  have E2 := kb.cell hkb.1 id
  have F2 := (kb.frozen hkb.1 id).trans hkb.2
  have X9 := Lib.hid ((X.out.up kb).seat Hi.out (car := ((j : Int) + 1)) rfl hKj hCe false 0)
  have hgC := X.out.own _ (by simp) gC (by rw [hCe]; rfl : Value.ownBlock C = some gC)
  have G9 := Lib.hid (Chg.setCell (S := S) (Chg.setCell (Chg.trans (Chg.of_up U.out) (Chg.of_up kb)) (.inl hgC.1) (.bool false)) (.inl hgC.1) (.int .i64 0) : Chg S w ((wb.setCell ⟨gC, j * 2, none⟩ (.bool false)).setCell ⟨gC, j * 2 + 1, none⟩ (.int .i64 0)))
  have d0 : ((wb.setCell ⟨gC, j * 2, none⟩ (.bool false)).setCell ⟨gC, j * 2 + 1, none⟩ (.int .i64 0)).cell? ⟨w.heap.size, 0, none⟩ = _ := keepS (keepS (kb.cell b0 id) hgC.2) hgC.2
  have d1 : ((wb.setCell ⟨gC, j * 2, none⟩ (.bool false)).setCell ⟨gC, j * 2 + 1, none⟩ (.int .i64 0)).cell? ⟨w.heap.size, 1, none⟩ = _ := keepS (keepS (kb.cell b1 id) hgC.2) hgC.2
  have d2 : ((wb.setCell ⟨gC, j * 2, none⟩ (.bool false)).setCell ⟨gC, j * 2 + 1, none⟩ (.int .i64 0)).cell? ⟨w.heap.size, 2, none⟩ = _ := keepS (keepS (kb.cell b2 id) hgC.2) hgC.2
  have d3 : ((wb.setCell ⟨gC, j * 2, none⟩ (.bool false)).setCell ⟨gC, j * 2 + 1, none⟩ (.int .i64 0)).cell? ⟨w.heap.size, 3, none⟩ = _ := keepS (keepS (kb.cell b3 id) hgC.2) hgC.2
  have d4 : ((wb.setCell ⟨gC, j * 2, none⟩ (.bool false)).setCell ⟨gC, j * 2 + 1, none⟩ (.int .i64 0)).cell? ⟨w.heap.size, 4, none⟩ = _ := keepS (keepS (kb.cell b4 id) hgC.2) hgC.2
  have d5 : ((wb.setCell ⟨gC, j * 2, none⟩ (.bool false)).setCell ⟨gC, j * 2 + 1, none⟩ (.int .i64 0)).cell? ⟨w.heap.size, 5, none⟩ = _ := keepS (keepS (kb.cell b5 id) hgC.2) hgC.2
  have d6 : ((wb.setCell ⟨gC, j * 2, none⟩ (.bool false)).setCell ⟨gC, j * 2 + 1, none⟩ (.int .i64 0)).cell? ⟨w.heap.size, 6, none⟩ = _ := keepS (keepS (kb.cell b6 id) hgC.2) hgC.2
  have d7 : ((wb.setCell ⟨gC, j * 2, none⟩ (.bool false)).setCell ⟨gC, j * 2 + 1, none⟩ (.int .i64 0)).cell? ⟨w.heap.size, 7, none⟩ = _ := keepS (keepS (kb.cell b7 id) hgC.2) hgC.2
  have hp0 := X9.out.c0.1
  have hst := st_car gC (j * 2) false 0 _ _ wb E1 E2 F1 F2
  have E22 : (wb.setCell ⟨gC, j * 2, none⟩ (.bool false)).cell? ⟨gC, j * 2 + 1, none⟩ = _ := keepO E2 (by omega)
  clear hst hka hkb hkh kb b0 b1 b2 b3 b4 b5 b6 b7
  simp only [List.length_cons, List.length_nil, List.drop_succ_cons, List.drop_zero, Nat.zero_add]
  clear hp0
  go_wp2_with fail
  refine (makesLoop_b _ 9 false (by decide)).mono ?_
  rintro e w' ⟨rfl, rfl⟩
  go_wp2
  go_ret
  exact ⟨rfl, (X9.out.mono (T := S) (fun b _ hb => hb.1)).mach, G9.out⟩
theorem execute_drop (w : World) {S : Nat → Prop} {K p : Nat} {m : MachM} {F B C L D : Value} {fs bs : List Value} (h : MachX w S K p m F B C L D fs bs) (hS : NewIn S w) (hi : MInv m) (fb fa tb ta rk : Int) (j : Nat) (hx : okOp m.wd ⟨6, 0, fb, fa, 0, 0, 0, 0⟩) (h0 : codeM m ⟨6, 0, fb, fa, 0, 0, 0, 0⟩ = 0) (hKK : K ≤ 900000) :
    Calls Tryz.prog 69 #[.pointer (some ⟨p, 0, none⟩), .agg #[.int .i64 6, .int .i64 0, .int .i64 fb, .int .i64 fa, .int .i64 0, .int .i64 0, .int .i64 0, .int .i64 0]] w fun e w' => e = .returned (.int .i64 0) ∧ Mach w' S (K + 4) p (execM m ⟨6, 0, fb, fa, 0, 0, 0, 0⟩) ∧ Chg S w w' := by
  obtain ⟨hx1, hx2, hx3⟩ := hx
  have hv := valid_cases hx1
  dsimp only at hx2 hx3 hv
  have hwd := hi.wd
  have hrk := hi.rack
  have cz := code_zero h0
  dsimp only at cz
  have HX := Lib.hid (show okOp m.wd ⟨6, 0, fb, fa, 0, 0, 0, 0⟩ from ⟨hx1, hx2, hx3⟩)
  clear hx1
  have H0 := Lib.hid h0
  clear h0
  have Hi := Lib.hid hi
  have HS := Lib.hid hS
  have HX2 := Lib.hid (h.mono (T := (fun b => S b ∧ b ≠ w.heap.size)) (fun b hb hs => ⟨hs, Nat.ne_of_lt hb⟩))
  have hn1 : okN m fb fa := ⟨by omega, by omega, by omega⟩
  obtain ⟨g1, u1, hH1, hV1⟩ := h.hold hi (b := fb) (a := fa) hn1
  have O1 := Lib.hid (h.off_hold hV1)
  have V1 := Lib.hid (show AtN F B fs bs fb fa g1 u1 from hV1)
  clear hV1
  obtain ⟨A1, c1, rfl, hl1, hc1, -⟩ := hH1.own.ints.shape
  obtain ⟨l1, HL1⟩ : ∃ l1 : List Int, Hid (l1 = onM m fb fa) := ⟨_, rfl⟩
  have hln1 := (hi.on_ fb fa).1
  rw [← HL1.out] at hH1 V1 O1 hl1 hln1
  have HG1 := Lib.hid hH1.cell.lt
  have HB1 := Lib.hid (fun e => absurd (hH1.own.1.lt _ e).2 (Nat.lt_irrefl _) : ¬ (Value.slice A1 l1.length c1).ownBlock = some w.heap.size)
  obtain ⟨ds, hds, hdK⟩ := h.d
  obtain ⟨AD, cD, rfl, hlD, hcD, -⟩ := hds.ints.shape
  have HPD := Lib.hid (fun e => h.off_p (Value.slice AD ds.length cD) (by simp) p e rfl : ¬ (Value.slice AD ds.length cD).ownBlock = some p)
  have HBD := Lib.hid (fun e => absurd (hds.1.lt _ e).2 (Nat.lt_irrefl _) : ¬ (Value.slice AD ds.length cD).ownBlock = some w.heap.size)
  have HOD := Lib.hid (h.own (Value.slice AD ds.length cD) (by simp) : ∀ x, (Value.slice AD ds.length cD).ownBlock = some x → S x)
  have hD := h.parts
  have HD1 := Lib.hid (HDmk hD V1.out)
  clear hD
  have X := Lib.hid (HX2.out)
  have U := Lib.hid ((Chg.refl Nowhere w))
  clear h hi hS HX2
  have H1 := Lib.hid (hH1)
  have D' := Lib.hid (hds)
  replace X := Lib.hid (X.out.up ((Chg.refl Nowhere w).alloc (.cells #[.int .i64 6, .int .i64 0, .int .i64 fb, .int .i64 fa, .int .i64 0, .int .i64 0, .int .i64 0, .int .i64 0] 44)))
  replace U := Lib.hid (Chg.trans U.out ((Chg.refl Nowhere w).alloc (.cells #[.int .i64 6, .int .i64 0, .int .i64 fb, .int .i64 fa, .int .i64 0, .int .i64 0, .int .i64 0, .int .i64 0] 44)))
  replace H1 := Lib.hid (H1.out.up ((Chg.refl Nowhere w).alloc (.cells #[.int .i64 6, .int .i64 0, .int .i64 fb, .int .i64 fa, .int .i64 0, .int .i64 0, .int .i64 0, .int .i64 0] 44)))
  replace D' := Lib.hid (D'.out.up ((Chg.refl Nowhere w).alloc (.cells #[.int .i64 6, .int .i64 0, .int .i64 fb, .int .i64 fa, .int .i64 0, .int .i64 0, .int .i64 0, .int .i64 0] 44)))
  obtain ⟨b0, b1, b2, b3, b4, b5, b6, b7⟩ := box8 w (.int .i64 6) (.int .i64 0) (.int .i64 fb) (.int .i64 fa) (.int .i64 0) (.int .i64 0) (.int .i64 0) (.int .i64 0) 44
  have hbx17 : w.heap.size < (w.alloc (.cells #[.int .i64 6, .int .i64 0, .int .i64 fb, .int .i64 fa, .int .i64 0, .int .i64 0, .int .i64 0, .int .i64 0] 44)).heap.size := by simp
  have HS2 := Lib.hid ((fun b hb => by have h1 : w.heap.size + 1 ≤ b := (by simpa [NewIn] using hb); exact ⟨HS.out b (by omega), by omega⟩) : NewIn (fun b => S b ∧ b ≠ w.heap.size) (w.alloc (.cells #[.int .i64 6, .int .i64 0, .int .i64 fb, .int .i64 fa, .int .i64 0, .int .i64 0, .int .i64 0, .int .i64 0] 44)))
  have hlb : w.heap.size < (w.alloc (.cells #[.int .i64 6, .int .i64 0, .int .i64 fb, .int .i64 fa, .int .i64 0, .int .i64 0, .int .i64 0, .int .i64 0] 44)).heap.size := by simp
  go_enter Tryz.func69, Tryz.ntmps69
  go_wp2_with fail
  refine (opCode_0 _ X.out Hi.out _ HX.out H0.out).mono ?_
  rintro e w18 ⟨rfl, g1⟩
  have G1 := Lib.hid g1
  have hz18 := G1.out.size
  clear g1
  replace X := Lib.hid (X.out.up (tt G1.out))
  replace U := Lib.hid (Chg.trans U.out (tt G1.out))
  replace H1 := Lib.hid (H1.out.up (tt G1.out))
  replace D' := Lib.hid (D'.out.up (tt G1.out))
  have hh := cc8 (tt G1.out) b0 b1 b2 b3 b4 b5 b6 b7
  clear b0 b1 b2 b3 b4 b5 b6 b7
  obtain ⟨b0, b1, b2, b3, b4, b5, b6, b7⟩ := hh
  clear G1
  have hz6 := U.out.size
  have HSn := Lib.hid ((fun b hb => ⟨HS.out b (by omega), by omega⟩) : NewIn (fun b => S b ∧ b ≠ w.heap.size) w18)
  go_wp2
  refine wp_region_l 157 (fun b => (Value.slice AD ds.length cD).ownBlock = some b) 11 [kon (.pointer (some ⟨p, 0, none⟩)), kon (.pointer (some ⟨p, 0, none⟩)), kon (.pointer (some ⟨p, 0, none⟩)), kon (.pointer (some ⟨p, 6, none⟩)), kon (.slice AD ds.length cD), kon (.pointer (some ⟨p, 0, none⟩)), kon (.pointer (some ⟨w.heap.size, 2, none⟩)), kon (.agg #[.int .i64 fb, .int .i64 fa]), kon (.pointer (some ⟨g1, fa.toNat, none⟩)), kon (.pointer (some ⟨g1, fa.toNat, none⟩)), kon (.slice A1 l1.length c1), (fun v w' => OwnI w' 0 v (ds ++ l1) ∧ (∀ b, v.ownBlock = some b → (Value.slice AD ds.length cD).ownBlock = some b ∨ w18.heap.size ≤ b)), kon (.pointer (some ⟨p, 0, none⟩)), kon (.pointer (some ⟨p, 6, none⟩))] [(0, 58, []), (1, 59, []), (2, 60, [1]), (3, 61, [2]), (4, 62, [3]), (5, 63, []), (6, 64, []), (7, 65, [6]), (8, 66, [5, 7]), (9, 67, [8]), (10, 68, [9]), (11, 69, [4, 10, 8]), (12, 70, [0, 0, 1, 2, 3, 4, 5, 6, 7, 8, 9, 10, 11]), (13, 71, [12, 0, 1, 2, 3, 4, 5, 6, 7, 8, 9, 10, 11])] (by kernel_rfl) (by kernel_rfl) (by kernel_rfl) rfl ?_ ?_ ?_
  · exact ⟨(keeps_kon _), ⟨(keeps_kon _), ⟨(keeps_kon _), ⟨(keeps_kon _), ⟨(keeps_kon _), ⟨(keeps_kon _), ⟨(keeps_kon _), ⟨(keeps_kon _), ⟨(keeps_kon _), ⟨(keeps_kon _), ⟨(keeps_kon _), ⟨(fun v w1 w2 ⟨h1, h2⟩ k => ⟨h1.up k, h2⟩), ⟨(keeps_kon _), ⟨(keeps_kon _), trivial⟩⟩⟩⟩⟩⟩⟩⟩⟩⟩⟩⟩⟩⟩
  · exact ⟨.inr (keeps_kon _), ⟨.inr (keeps_kon _), ⟨.inr (keeps_kon _), ⟨.inr (keeps_kon _), ⟨.inr (keeps_kon _), ⟨.inr (keeps_kon _), ⟨.inr (keeps_kon _), ⟨.inr (keeps_kon _), ⟨.inr (keeps_kon _), ⟨.inr (keeps_kon _), ⟨.inr (keeps_kon _), ⟨.inl rfl, ⟨.inr (keeps_kon _), ⟨.inr (keeps_kon _), trivial⟩⟩⟩⟩⟩⟩⟩⟩⟩⟩⟩⟩⟩⟩
  refine ⟨fun w1 hc _ hn => ?_, fun v0 => ?_⟩
  · refine grow_same (v := .pointer (some ⟨p, 0, none⟩)) ?_ ?_
    exact x_move (.tmp 0) rfl rfl
    rfl
  refine ⟨fun w1 hc _ hn => ?_, fun v1 => ?_⟩
  · refine grow_same (v := .pointer (some ⟨p, 0, none⟩)) ?_ ?_
    exact x_move (.tmp 0) rfl rfl
    rfl
  refine ⟨fun w1 hc _ hn => ?_, fun v2 => ?_⟩
  · obtain rfl : (.pointer (some ⟨p, 0, none⟩) : Value) = v1 := Eq.symm hn.1
    refine grow_same (v := .pointer (some ⟨p, 0, none⟩)) ?_ ?_
    exact x_nil (p := ⟨p, 0, none⟩) (.tmp 59) rfl rfl
    rfl
  refine ⟨fun w1 hc _ hn => ?_, fun v3 => ?_⟩
  · obtain rfl : (.pointer (some ⟨p, 0, none⟩) : Value) = v2 := Eq.symm hn.1
    refine grow_same (v := .pointer (some ⟨p, 6, none⟩)) ?_ ?_
    exact x_field (q := .pointer (some ⟨p, 0, none⟩)) 60 (.tmp 60) 6 (by rfl) (by rfl) (by exact fa_m6 _ _)
    rfl
  refine ⟨fun w1 hc _ hn => ?_, fun v4 => ?_⟩
  · obtain rfl : (.pointer (some ⟨p, 6, none⟩) : Value) = v3 := Eq.symm hn.1
    refine grow_same (v := .slice AD ds.length cD) ?_ ?_
    exact x_load (q := .pointer (some ⟨p, 6, none⟩)) 34 (.tmp 61) (by rfl) (by rfl) (by exact ld_ints _ _ _ (hc.cell X.out.c6.1 HPD.out))
    rfl
  refine ⟨fun w1 hc _ hn => ?_, fun v5 => ?_⟩
  · refine grow_same (v := .pointer (some ⟨p, 0, none⟩)) ?_ ?_
    exact x_move (.tmp 0) rfl rfl
    rfl
  refine ⟨fun w1 hc _ hn => ?_, fun v6 => ?_⟩
  · refine grow_same (v := .pointer (some ⟨w.heap.size, 2, none⟩)) ?_ ?_
    exact x_field (q := .pointer (some ⟨w.heap.size, 0, none⟩)) 44 (.tmp 3) 2 (by rfl) (by rfl) (by exact fa_o2 _ _ _)
    rfl
  refine ⟨fun w1 hc _ hn => ?_, fun v7 => ?_⟩
  · obtain rfl : (.pointer (some ⟨w.heap.size, 2, none⟩) : Value) = v6 := Eq.symm hn.1
    refine grow_same (v := .agg #[.int .i64 fb, .int .i64 fa]) ?_ ?_
    exact x_load (q := .pointer (some ⟨w.heap.size, 2, none⟩)) 42 (.tmp 64) (by rfl) (by rfl) (by exact ld_needle _ _ _ _ _ (hc.cell b2 HBD.out) (hc.cell b3 HBD.out))
    rfl
  refine ⟨fun w1 hc _ hn => ?_, fun v8 => ?_⟩
  · obtain rfl : (.pointer (some ⟨p, 0, none⟩) : Value) = v5 := Eq.symm hn.1
    obtain rfl : (.agg #[.int .i64 fb, .int .i64 fa] : Value) = v7 := Eq.symm hn.2.1
    refine grow_call (f := 80) (args := #[.pointer (some ⟨p, 0, none⟩), .agg #[.int .i64 fb, .int .i64 fa]]) (x_call #[.tmp 63, .tmp 65] #[63, 42] Tryz.func80 (by rfl) (by rfl) (by rfl) (by rfl) (by simp only [List.map_toArray, List.map_cons, List.map_nil]; rfl)) ?_
    refine (on_any _ p fb fa g1 _ _ (H1.out.keep hc HPD.out HD1.out.2 (fun x hx e => HD1.out.1 x e hx))).mono ?_
    rintro e w' ⟨rfl, g1⟩
    exact ⟨_, rfl, rg_up g1, rfl⟩
  refine ⟨fun w1 hc _ hn => ?_, fun v9 => ?_⟩
  · obtain rfl : (.pointer (some ⟨g1, fa.toNat, none⟩) : Value) = v8 := Eq.symm hn.1
    refine grow_same (v := .pointer (some ⟨g1, fa.toNat, none⟩)) ?_ ?_
    exact x_nil (p := ⟨g1, fa.toNat, none⟩) (.tmp 66) rfl rfl
    rfl
  refine ⟨fun w1 hc _ hn => ?_, fun v10 => ?_⟩
  · obtain rfl : (.pointer (some ⟨g1, fa.toNat, none⟩) : Value) = v9 := Eq.symm hn.1
    refine grow_same (v := .slice A1 l1.length c1) ?_ ?_
    exact x_load (q := .pointer (some ⟨g1, fa.toNat, none⟩)) 34 (.tmp 67) (by rfl) (by rfl) (by exact ld_ints _ _ _ (hc.cell H1.out.cell.1 HD1.out.2))
    rfl
  refine ⟨fun w1 hc hu hn => ?_, fun v11 => ?_⟩
  · obtain rfl : (.slice AD ds.length cD : Value) = v4 := Eq.symm hn.1
    obtain rfl : (.slice A1 l1.length c1 : Value) = v10 := Eq.symm hn.2.1
    refine grow_ex (x_append_ints (.tmp 62) (.tmp 68) (by rfl) (Value.slice AD ds.length cD) ds (by rfl) (D'.out.up (hu rfl)) _ (Value.slice A1 l1.length c1) l1 (by rfl) (H1.out.own.intsOwn.up (hu rfl)) (by omega)) ?_
    rintro v' w' ⟨h1, h2, h3⟩
    exact ⟨rg_eff h2, h1, fun b hb => (h3 b hb).imp id fun h => Nat.le_trans hc.size h⟩
  refine ⟨fun w1 hc _ hn => ?_, fun v12 => ?_⟩
  · obtain rfl : (.pointer (some ⟨p, 0, none⟩) : Value) = v0 := Eq.symm hn.1
    refine grow_same (v := .pointer (some ⟨p, 0, none⟩)) ?_ ?_
    exact x_nil (p := ⟨p, 0, none⟩) (.tmp 58) rfl rfl
    rfl
  refine ⟨fun w1 hc _ hn => ?_, fun v13 => ?_⟩
  · obtain rfl : (.pointer (some ⟨p, 0, none⟩) : Value) = v12 := Eq.symm hn.1
    refine grow_same (v := .pointer (some ⟨p, 6, none⟩)) ?_ ?_
    exact x_field (q := .pointer (some ⟨p, 0, none⟩)) 60 (.tmp 70) 6 (by rfl) (by rfl) (by exact fa_m6 _ _)
    rfl
  intro wa ka hn7
  obtain ⟨rfl, rfl, ⟨fo, fb2⟩, rfl, rfl, rfl, rfl, rfl, rfl, rfl, rfl, rfl, rfl, rfl, -⟩ := hn7
  obtain ⟨A7, c7, rfl, hl7, hc7, -⟩ := fo.ints.shape
  obtain ⟨dz, HD7⟩ : ∃ dz : List Int, Hid (dz = ds ++ l1) := ⟨_, rfl⟩
  rw [← HD7.out] at fo fb2 hl7
  rw [← HD7.out]
  have hd7 : dz.length ≤ K + 4 := by rw [HD7.out, List.length_append]; omega
  have E1 := ka.cell X.out.c6.1 HPD.out
  have F1 := (ka.frozen X.out.c6.1 HPD.out).trans X.out.c6.2
  have X7 := Lib.hid ((X.out.set_drops ka fo hd7 fb2).mono (T := (fun b => S b ∧ b ≠ w.heap.size)) (fun b _ hb => hb.elim id fun h => HSn.out b h))
  have G7 := Lib.hid (Chg.setCell (S := S) (Chg.trans (Chg.of_up U.out) (ka.mono fun b _ hb => HOD.out b hb)) (.inl X.out.sp.1) (.slice A7 dz.length c7) : Chg S w (wa.setCell ⟨p, 6, none⟩ (.slice A7 dz.length c7)))
  have hpp : p ≠ w.heap.size := X.out.sp.2
  have d0 : (wa.setCell ⟨p, 6, none⟩ (.slice A7 dz.length c7)).cell? ⟨w.heap.size, 0, none⟩ = _ := keepS (ka.cell b0 HBD.out) hpp
  have d1 : (wa.setCell ⟨p, 6, none⟩ (.slice A7 dz.length c7)).cell? ⟨w.heap.size, 1, none⟩ = _ := keepS (ka.cell b1 HBD.out) hpp
  have d2 : (wa.setCell ⟨p, 6, none⟩ (.slice A7 dz.length c7)).cell? ⟨w.heap.size, 2, none⟩ = _ := keepS (ka.cell b2 HBD.out) hpp
  have d3 : (wa.setCell ⟨p, 6, none⟩ (.slice A7 dz.length c7)).cell? ⟨w.heap.size, 3, none⟩ = _ := keepS (ka.cell b3 HBD.out) hpp
  have d4 : (wa.setCell ⟨p, 6, none⟩ (.slice A7 dz.length c7)).cell? ⟨w.heap.size, 4, none⟩ = _ := keepS (ka.cell b4 HBD.out) hpp
  have d5 : (wa.setCell ⟨p, 6, none⟩ (.slice A7 dz.length c7)).cell? ⟨w.heap.size, 5, none⟩ = _ := keepS (ka.cell b5 HBD.out) hpp
  have d6 : (wa.setCell ⟨p, 6, none⟩ (.slice A7 dz.length c7)).cell? ⟨w.heap.size, 6, none⟩ = _ := keepS (ka.cell b6 HBD.out) hpp
  have d7 : (wa.setCell ⟨p, 6, none⟩ (.slice A7 dz.length c7)).cell? ⟨w.heap.size, 7, none⟩ = _ := keepS (ka.cell b7 HBD.out) hpp
  have H7 := Lib.hid (H1.out.cell.keep (show Chg (fun b => (Value.slice AD ds.length cD).ownBlock = some b ∨ b = p) w18 (wa.setCell ⟨p, 6, none⟩ (.slice A7 dz.length c7)) from Chg.setCell (S := fun b => (Value.slice AD ds.length cD).ownBlock = some b ∨ b = p) (ka.mono fun b _ hb => .inl hb) (.inl (.inr rfl)) (.slice A7 dz.length c7)) (fun e => e.elim HD1.out.2 fun e => O1.out.2.2 e))
  have E6 := X7.out.c6.1
  have OD := Lib.hid (OwnI.kept fo (show Chg (fun b => b = p) wa (wa.setCell ⟨p, 6, none⟩ (.slice A7 dz.length c7)) from Chg.setCell (Chg.refl (fun b => b = p) wa) (.inl rfl) (.slice A7 dz.length c7)) (fun x hx e => X7.out.off_p _ (by simp) x hx e))
  clear fo fb2 b0 b1 b2 b3 b4 b5 b6 b7
  simp only [List.length_cons, List.length_nil, List.drop_succ_cons, List.drop_zero, Nat.zero_add]
  go_wp2_with fail
  refine (sort_any _ 0 _ dz OD.out (by omega)).mono ?_
  rintro e w8 ⟨rfl, o8, k8⟩
  have X8 := Lib.hid (X7.out.sort_drops k8 o8 (by rw [sortL_length]; exact hd7))
  have hD7 := X7.out.parts
  have HZ8 := Lib.hid (Nat.le_trans (by simpa using ka.size) k8.size : w18.heap.size ≤ w8.heap.size)
  have G8 := Lib.hid (Chg.trans G7.out (k8.mono fun b _ hb => (X7.out.own _ (by simp) b hb).1) : Chg S w w8)
  have V7 : AtN F B fs bs fb fa g1 (Value.slice A1 l1.length c1) := V1.out
  have HB8 : ¬ (Value.slice A7 dz.length c7).ownBlock = some w.heap.size := fun e => (X7.out.own _ (by simp) _ e).2 rfl
  replace d0 := k8.cell d0 HB8
  replace d1 := k8.cell d1 HB8
  replace d2 := k8.cell d2 HB8
  replace d3 := k8.cell d3 HB8
  replace d4 := k8.cell d4 HB8
  replace d5 := k8.cell d5 HB8
  replace d6 := k8.cell d6 HB8
  replace d7 := k8.cell d7 HB8
  obtain ⟨g8, u8, hH8, hV8⟩ := X8.out.hold Hi.out (b := fb) (a := fa) hn1
  obtain ⟨rfl, rfl⟩ : g8 = g1 ∧ u8 = (Value.slice A1 l1.length c1) := AtN.same hV8 V7
  have H8 := Lib.hid hH8
  have V8 := Lib.hid V7
  clear E1 F1 E6 o8 k8 hD7 hH8 hV8 V7 H7
  go_wp2_with fail
  refine (on_any _ p fb fa _ _ _ H8.out).mono ?_
  rintro e w9 ⟨rfl, k9⟩
  have K9 := Lib.hid k9
  replace d0 := k9.cell d0 id
  replace d1 := k9.cell d1 id
  replace d2 := k9.cell d2 id
  replace d3 := k9.cell d3 id
  replace d4 := k9.cell d4 id
  replace d5 := k9.cell d5 id
  replace d6 := k9.cell d6 id
  replace d7 := k9.cell d7 id
  have E9 := (H8.out.up k9).cell.1
  have F9 := (H8.out.up k9).cell.2
  clear k9
  have HS9 := Lib.hid ((fun b hb => HSn.out b (by have h1 := (Chg.trans G8.out (Chg.of_up K9.out)).size; have h2 := HZ8.out; have h3 := K9.out.size; omega)) : NewIn (fun b => S b ∧ b ≠ w.heap.size) w9)
  have X9 := Lib.hid ((X8.out.up K9.out).slot0 HS9.out V8.out)
  have hg1 := HG1.out
  have f0 : (w9.setCell ⟨_, fa.toNat, none⟩ (.slice none 0 0)).cell? ⟨w.heap.size, 0, none⟩ = _ := keepS d0 (Nat.ne_of_lt hg1)
  clear d0
  have f1 : (w9.setCell ⟨_, fa.toNat, none⟩ (.slice none 0 0)).cell? ⟨w.heap.size, 1, none⟩ = _ := keepS d1 (Nat.ne_of_lt hg1)
  clear d1
  have f2 : (w9.setCell ⟨_, fa.toNat, none⟩ (.slice none 0 0)).cell? ⟨w.heap.size, 2, none⟩ = _ := keepS d2 (Nat.ne_of_lt hg1)
  clear d2
  have f3 : (w9.setCell ⟨_, fa.toNat, none⟩ (.slice none 0 0)).cell? ⟨w.heap.size, 3, none⟩ = _ := keepS d3 (Nat.ne_of_lt hg1)
  clear d3
  have f4 : (w9.setCell ⟨_, fa.toNat, none⟩ (.slice none 0 0)).cell? ⟨w.heap.size, 4, none⟩ = _ := keepS d4 (Nat.ne_of_lt hg1)
  clear d4
  have f5 : (w9.setCell ⟨_, fa.toNat, none⟩ (.slice none 0 0)).cell? ⟨w.heap.size, 5, none⟩ = _ := keepS d5 (Nat.ne_of_lt hg1)
  clear d5
  have f6 : (w9.setCell ⟨_, fa.toNat, none⟩ (.slice none 0 0)).cell? ⟨w.heap.size, 6, none⟩ = _ := keepS d6 (Nat.ne_of_lt hg1)
  clear d6
  have f7 : (w9.setCell ⟨_, fa.toNat, none⟩ (.slice none 0 0)).cell? ⟨w.heap.size, 7, none⟩ = _ := keepS d7 (Nat.ne_of_lt hg1)
  clear d7
  go_wp2_with fail
  refine (makesLoop_b _ 6 false (by decide)).mono ?_
  rintro e w' ⟨rfl, rfl⟩
  go_wp2
  go_ret
  exact ⟨rfl, (X9.out.1.mono (T := S) (fun b _ hb => hb.1.1)).mach, Chg.trans G8.out (Chg.trans (Chg.of_up K9.out) (X9.out.2.mono fun b _ hb => hb.1))⟩
end Go.Proofs.YtiiodfcbpmkodaaGreat
