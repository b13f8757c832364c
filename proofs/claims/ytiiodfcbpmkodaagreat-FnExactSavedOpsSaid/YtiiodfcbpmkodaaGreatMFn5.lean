/- The program's loop on machines. No condition. -/
import Derived.Test.YtiiodfcbpmkodaaGreatMSlot
import Derived.Test.YtiiodfcbpmkodaaGreatSelf
set_option linter.unusedSimpArgs false
set_option linter.unusedVariables false
set_option maxRecDepth 100000
set_option maxHeartbeats 8000000
namespace Go.Proofs.YtiiodfcbpmkodaaGreat
open Go.ChangeShapes Go.WideShapes Go.ChangeAt Go.RowKit
attribute [local go_sem ↓] Go.wp_at_zero Go.wp_at_succ
abbrev infoC (a b c d e : Int) (v : Value) : Array Value := #[.int .i64 a, .int .i64 b, .int .i64 c, .int .i64 d, .int .i64 e, v]
theorem bs_info (a b c d e : Int) (A : Option Addr) (l k : Nat) (w : World) : (Instr.buildSlice 58 1 #[(0, .agg (infoC a b c d e (.slice A l k)))]).run Tryz.prog w = .ok (.slice (some ⟨w.heap.size, 0, none⟩) 1 1) (w.alloc (.cells (infoC a b c d e (.slice A l k)) 103)) := by go_simp
theorem infoInfo : (Tryz.prog.info? 103).map (fun i => (i.zero, i.size, i.bytes)) = some (some (.agg (infoC 0 0 0 0 0 (.slice none 0 0))), 6, 64) := by kernel_rfl
theorem bd_info (a b c d e : Int) (A : Option Addr) (l k : Nat) (w : World) : (Instr.build 103 #[(0, .int .i64 a), (1, .int .i64 b), (2, .int .i64 c), (3, .int .i64 d), (4, .int .i64 e), (5, .slice A l k)]).run Tryz.prog w = .ok (.agg (infoC a b c d e (.slice A l k))) w := by go_simp
theorem loop_any (w : World) {S : Nat → Prop} {K p : Nat} {m : MachM} {F B C L D : Value} {fs bs : List Value} (h : MachX w S K p m F B C L D fs bs) (hS : NewIn S w) (hi : MInv m) (k d fb fa tb ta car rk : Int) (hn : okN m fb fa) (h3 : (onM m fb fa).length ≤ 3) (h4 : m.nl < 300) (Sp : Nat → Prop) (pv : Value) (ps : List Int) (hp : Ints w Sp pv ps) (hd : ∀ b, b < w.heap.size → Sp b → ¬ S b) (hpl : ps.length ≤ 100) :
    Calls Tryz.prog 81 #[.pointer (some ⟨p, 0, none⟩), .agg #[.int .i64 k, .int .i64 d, .int .i64 fb, .int .i64 fa, .int .i64 tb, .int .i64 ta, .int .i64 car, .int .i64 rk], pv] w fun e w' => e = .returned (.tuple #[]) ∧ Mach w' S K p (loopM m ⟨k, d, fb, fa, tb, ta, car, rk⟩) ∧ Chg S w w' := by
  obtain ⟨csL, hL⟩ := h.l
  obtain ⟨A5, c5, rfl, hl5, hc5, -⟩ := ownsRow_shape hL
  obtain ⟨g, v, hH, hV⟩ := h.hold hi (b := fb) (a := fa) hn
  have hO := h.off_hold hV
  have HV := Lib.hid (show AtN F B fs bs fb fa g v from hV)
  clear hV
  obtain ⟨Af, cf, rfl, hlf, hcf, -⟩ := hH.own.ints.shape
  have hn' := hn.2
  have Hi := Lib.hid hi
  have HS := Lib.hid hS
  have HD := Lib.hid hd
  have HP := Lib.hid hp
  clear hS hd hp
  obtain ⟨l3, HL3⟩ : ∃ l3 : List Int, Hid (l3 = onM m fb fa ++ [(m.nl : Int)]) := ⟨_, rfl⟩
  have HL := Lib.hid hL
  clear hL
  have X := Lib.hid (h)
  have U := Lib.hid ((Chg.refl Nowhere w))
  have H := Lib.hid (hH)
  have ch := hH.cell.1
  have cl := h.c5.1
  have HG0 := Lib.hid hH.cell.lt
  have HB0 := Lib.hid (fun e => absurd (hH.own.1.lt _ e).2 (Nat.lt_irrefl _) : ¬ (Value.slice Af (onM m fb fa).length cf).ownBlock = some w.heap.size)
  have HL5 := Lib.hid (fun x e => (HL.out.lt x e).2 : ∀ x, (Value.slice A5 m.nl c5).ownBlock = some x → x < w.heap.size)
  have HP5 := Lib.hid (fun e => h.off_p (.slice A5 m.nl c5) (by simp) p e rfl : ¬ (Value.slice A5 m.nl c5).ownBlock = some p)
  have HL6 := Lib.hid (h.own (.slice A5 m.nl c5) (by simp) : ∀ x, (Value.slice A5 m.nl c5).ownBlock = some x → S x)
  have HB5 := Lib.hid (fun e => absurd (HL5.out _ e) (Nat.lt_irrefl _) : ¬ (Value.slice A5 m.nl c5).ownBlock = some w.heap.size)
  clear h hH hi
  replace X := Lib.hid (X.out.up ((Chg.refl Nowhere w).alloc (.cells #[.int .i64 k, .int .i64 d, .int .i64 fb, .int .i64 fa, .int .i64 tb, .int .i64 ta, .int .i64 car, .int .i64 rk] 44)))
  replace U := Lib.hid (Chg.trans U.out ((Chg.refl Nowhere w).alloc (.cells #[.int .i64 k, .int .i64 d, .int .i64 fb, .int .i64 fa, .int .i64 tb, .int .i64 ta, .int .i64 car, .int .i64 rk] 44)))
  replace H := Lib.hid (H.out.up ((Chg.refl Nowhere w).alloc (.cells #[.int .i64 k, .int .i64 d, .int .i64 fb, .int .i64 fa, .int .i64 tb, .int .i64 ta, .int .i64 car, .int .i64 rk] 44)))
  replace ch := Chg.cell ((Chg.refl Nowhere w).alloc (.cells #[.int .i64 k, .int .i64 d, .int .i64 fb, .int .i64 fa, .int .i64 tb, .int .i64 ta, .int .i64 car, .int .i64 rk] 44)) ch id
  replace cl := Chg.cell ((Chg.refl Nowhere w).alloc (.cells #[.int .i64 k, .int .i64 d, .int .i64 fb, .int .i64 fa, .int .i64 tb, .int .i64 ta, .int .i64 car, .int .i64 rk] 44)) cl id
  obtain ⟨b0, b1, b2, b3, b4, b5, b6, b7⟩ := box8 w (.int .i64 k) (.int .i64 d) (.int .i64 fb) (.int .i64 fa) (.int .i64 tb) (.int .i64 ta) (.int .i64 car) (.int .i64 rk) 44
  have hbx19 : w.heap.size < (w.alloc (.cells #[.int .i64 k, .int .i64 d, .int .i64 fb, .int .i64 fa, .int .i64 tb, .int .i64 ta, .int .i64 car, .int .i64 rk] 44)).heap.size := by simp
  go_enter Tryz.func81, Tryz.ntmps81
  go_wp2_with fail
  refine (on_any _ p fb fa g _ _ H.out).mono ?_
  rintro e w20 ⟨rfl, g1⟩
  have G1 := Lib.hid g1
  have hz20 := G1.out.size
  clear g1
  replace X := Lib.hid (X.out.up (tt G1.out))
  replace U := Lib.hid (Chg.trans U.out (tt G1.out))
  replace H := Lib.hid (H.out.up (tt G1.out))
  have hh := cc8 (tt G1.out) ch cl b0 b1 b2 b3 b4 b5
  clear ch cl b0 b1 b2 b3 b4 b5
  obtain ⟨ch, cl, b0, b1, b2, b3, b4, b5⟩ := hh
  replace b6 := Chg.cell (tt G1.out) b6 id
  replace b7 := Chg.cell (tt G1.out) b7 id
  clear G1
  go_wp2
  have hgl := H.out.own.1.lt
  refine wp_region_l 47 (fun b => (Value.slice Af (onM m fb fa).length cf).ownBlock = some b) 10 [kon (.pointer (some ⟨g, fa.toNat, none⟩)), kon (.pointer (some ⟨g, fa.toNat, none⟩)), kon (.pointer (some ⟨g, fa.toNat, none⟩)), kon (.slice Af (onM m fb fa).length cf), kon (.pointer (some ⟨p, 0, none⟩)), kon (.pointer (some ⟨p, 0, none⟩)), kon (.pointer (some ⟨p, 5, none⟩)), kon (.slice A5 m.nl c5), kon (.int .i64 m.nl), (fun v w' => ∃ b, v = .slice (some ⟨b, 0, none⟩) 1 1 ∧ w'.cell? ⟨b, 0, none⟩ = some (.int .i64 m.nl) ∧ ¬ (Value.slice Af (onM m fb fa).length cf).ownBlock = some b), (fun v w' => OwnI w' 0 v l3 ∧ (∀ b, v.ownBlock = some b → (Value.slice Af (onM m fb fa).length cf).ownBlock = some b ∨ w20.heap.size ≤ b))] [(0, 11, []), (1, 12, []), (2, 13, [1]), (3, 14, [2]), (4, 15, []), (5, 16, [4]), (6, 17, [5]), (7, 18, [6]), (8, 19, [7]), (9, 20, [8]), (10, 21, [3, 9])] (by kernel_rfl) (by kernel_rfl) (by kernel_rfl) rfl ?_ ?_ ?_
  · exact ⟨(keeps_kon _), ⟨(keeps_kon _), ⟨(keeps_kon _), ⟨(keeps_kon _), ⟨(keeps_kon _), ⟨(keeps_kon _), ⟨(keeps_kon _), ⟨(keeps_kon _), ⟨(keeps_kon _), ⟨(fun v w1 w2 ⟨b, e, h1, h2⟩ k => ⟨b, e, k.cell h1 id, h2⟩), ⟨(fun v w1 w2 ⟨h1, h2⟩ k => ⟨h1.up k, h2⟩), trivial⟩⟩⟩⟩⟩⟩⟩⟩⟩⟩⟩
  · exact ⟨.inr (keeps_kon _), ⟨.inr (keeps_kon _), ⟨.inr (keeps_kon _), ⟨.inr (keeps_kon _), ⟨.inr (keeps_kon _), ⟨.inr (keeps_kon _), ⟨.inr (keeps_kon _), ⟨.inr (keeps_kon _), ⟨.inr (keeps_kon _), ⟨.inr (fun v w1 w2 ⟨b, e, h1, h2⟩ k => ⟨b, e, k.cell h1 h2, h2⟩), ⟨.inl rfl, trivial⟩⟩⟩⟩⟩⟩⟩⟩⟩⟩⟩
  refine ⟨fun w1 hc _ hn => ?_, fun v0 => ?_⟩
  · refine grow_same (v := .pointer (some ⟨g, fa.toNat, none⟩)) ?_ ?_
    exact x_move (.tmp 6) rfl rfl
    rfl
  refine ⟨fun w1 hc _ hn => ?_, fun v1 => ?_⟩
  · refine grow_same (v := .pointer (some ⟨g, fa.toNat, none⟩)) ?_ ?_
    exact x_move (.tmp 6) rfl rfl
    rfl
  refine ⟨fun w1 hc _ hn => ?_, fun v2 => ?_⟩
  · obtain rfl : (.pointer (some ⟨g, fa.toNat, none⟩) : Value) = v1 := Eq.symm hn.1
    refine grow_same (v := .pointer (some ⟨g, fa.toNat, none⟩)) ?_ ?_
    exact x_nil (p := ⟨g, fa.toNat, none⟩) (.tmp 12) rfl rfl
    rfl
  refine ⟨fun w1 hc _ hn => ?_, fun v3 => ?_⟩
  · obtain rfl : (.pointer (some ⟨g, fa.toNat, none⟩) : Value) = v2 := Eq.symm hn.1
    refine grow_same (v := .slice Af (onM m fb fa).length cf) ?_ ?_
    exact x_load (q := .pointer (some ⟨g, fa.toNat, none⟩)) 34 (.tmp 13) (by rfl) (by rfl) (by exact ld_ints _ _ _ (hc.cell ch hO.1))
    rfl
  refine ⟨fun w1 hc _ hn => ?_, fun v4 => ?_⟩
  · refine grow_same (v := .pointer (some ⟨p, 0, none⟩)) ?_ ?_
    exact x_move (.tmp 0) rfl rfl
    rfl
  refine ⟨fun w1 hc _ hn => ?_, fun v5 => ?_⟩
  · obtain rfl : (.pointer (some ⟨p, 0, none⟩) : Value) = v4 := Eq.symm hn.1
    refine grow_same (v := .pointer (some ⟨p, 0, none⟩)) ?_ ?_
    exact x_nil (p := ⟨p, 0, none⟩) (.tmp 15) rfl rfl
    rfl
  refine ⟨fun w1 hc _ hn => ?_, fun v6 => ?_⟩
  · obtain rfl : (.pointer (some ⟨p, 0, none⟩) : Value) = v5 := Eq.symm hn.1
    refine grow_same (v := .pointer (some ⟨p, 5, none⟩)) ?_ ?_
    exact x_field (q := .pointer (some ⟨p, 0, none⟩)) 60 (.tmp 16) 5 (by rfl) (by rfl) (by exact fa_m5 _ _)
    rfl
  refine ⟨fun w1 hc _ hn => ?_, fun v7 => ?_⟩
  · obtain rfl : (.pointer (some ⟨p, 5, none⟩) : Value) = v6 := Eq.symm hn.1
    refine grow_same (v := .slice A5 m.nl c5) ?_ ?_
    exact x_load (q := .pointer (some ⟨p, 5, none⟩)) 58 (.tmp 17) (by rfl) (by rfl) (by exact ld_infos _ _ _ (hc.cell cl hO.2.1))
    rfl
  refine ⟨fun w1 hc _ hn => ?_, fun v8 => ?_⟩
  · obtain rfl : (.slice A5 m.nl c5 : Value) = v7 := Eq.symm hn.1
    exact grow_same (v := .int .i64 m.nl) (x_len (A := A5) (n := m.nl) (c := c5) 58 _ (.tmp 18) Tryz.underlying58 (by rfl) (by rfl)) (by rfl)
  refine ⟨fun w1 hc _ hn => ?_, fun v9 => ?_⟩
  · obtain rfl : (.int .i64 m.nl : Value) = v8 := Eq.symm hn.1
    exact grow_ok (x_build1 34 (.tmp 19) (by rfl) (by rfl) (by exact bs_int _ _)) (rg_up ((Chg.refl _ _).alloc _)) ⟨_, rfl, cell_at rfl rfl, fun e => by have := (hgl _ e).2; have := hc.size; omega⟩
  refine ⟨fun w1 hc hu hn => ?_, fun v10 => ?_⟩
  · obtain rfl : (.slice Af (onM m fb fa).length cf : Value) = v3 := Eq.symm hn.1
    obtain ⟨b9, rfl, hb9, hn9⟩ := hn.2.1
    refine grow_ex (x_append_int (.tmp 14) (.tmp 20) (by rfl) (Value.slice Af (onM m fb fa).length cf) (onM m fb fa) (by rfl) (H.out.own.up (hu rfl)) b9 m.nl (by rfl) hb9 (by unfold I64; omega) (by omega)) ?_
    rintro v' w' ⟨h1, h2, h3⟩
    exact ⟨rg_eff h2, HL3.out ▸ h1, fun b hb => (h3 b hb).imp id fun h => Nat.le_trans hc.size h⟩
  intro wa ka hn
  obtain ⟨f10, f9, rfl, rfl, rfl, rfl, rfl, rfl, rfl, rfl, rfl, -⟩ := hn
  have hgw : g < w.heap.size := HG0.out
  have hnb : ¬ (Value.slice Af (onM m fb fa).length cf).ownBlock = some w.heap.size := HB0.out
  obtain ⟨ho, hb⟩ := f10
  obtain ⟨A3, c3, rfl, hl3, hc3, -⟩ := ho.ints.shape
  clear f9
  have E1 := ka.cell ch hO.1
  have F1 := (ka.frozen ch hO.1).trans H.out.cell.2
  obtain ⟨⟨fs2, bs2, hX2⟩, hG2⟩ := X.out.slot (HS.out.up U.out) HV.out ka ho hb
  have X2 := Lib.hid hX2
  have G2 := Lib.hid hG2
  clear hX2 hG2 hb ho
  clear ch cl
  have d0 : (wa.setCell ⟨g, fa.toNat, none⟩ (.slice A3 l3.length c3)).cell? ⟨w.heap.size, 0, none⟩ = _ := keepS (ka.cell b0 hnb) (Nat.ne_of_lt hgw)
  clear b0
  have d1 : (wa.setCell ⟨g, fa.toNat, none⟩ (.slice A3 l3.length c3)).cell? ⟨w.heap.size, 1, none⟩ = _ := keepS (ka.cell b1 hnb) (Nat.ne_of_lt hgw)
  clear b1
  have d2 : (wa.setCell ⟨g, fa.toNat, none⟩ (.slice A3 l3.length c3)).cell? ⟨w.heap.size, 2, none⟩ = _ := keepS (ka.cell b2 hnb) (Nat.ne_of_lt hgw)
  clear b2
  have d3 : (wa.setCell ⟨g, fa.toNat, none⟩ (.slice A3 l3.length c3)).cell? ⟨w.heap.size, 3, none⟩ = _ := keepS (ka.cell b3 hnb) (Nat.ne_of_lt hgw)
  clear b3
  have d4 : (wa.setCell ⟨g, fa.toNat, none⟩ (.slice A3 l3.length c3)).cell? ⟨w.heap.size, 4, none⟩ = _ := keepS (ka.cell b4 hnb) (Nat.ne_of_lt hgw)
  clear b4
  have d5 : (wa.setCell ⟨g, fa.toNat, none⟩ (.slice A3 l3.length c3)).cell? ⟨w.heap.size, 5, none⟩ = _ := keepS (ka.cell b5 hnb) (Nat.ne_of_lt hgw)
  clear b5
  have d6 : (wa.setCell ⟨g, fa.toNat, none⟩ (.slice A3 l3.length c3)).cell? ⟨w.heap.size, 6, none⟩ = _ := keepS (ka.cell b6 hnb) (Nat.ne_of_lt hgw)
  clear b6
  have d7 : (wa.setCell ⟨g, fa.toNat, none⟩ (.slice A3 l3.length c3)).cell? ⟨w.heap.size, 7, none⟩ = _ := keepS (ka.cell b7 hnb) (Nat.ne_of_lt hgw)
  clear b7
  have HZ3 : w20.heap.size ≤ (wa.setCell ⟨g, fa.toNat, none⟩ (.slice A3 l3.length c3)).heap.size := G2.out.size
  simp only [List.length_cons, List.length_nil, List.drop_succ_cons, List.drop_zero, Nat.zero_add]
  go_wp2
  have HP3 := Lib.hid (fun (w1 : World) (hc : Chg (fun b => (Value.slice A5 m.nl c5).ownBlock = some b) (wa.setCell ⟨g, fa.toNat, none⟩ (.slice A3 l3.length c3)) w1) => HP.out.keep (Chg.trans (Chg.of_up U.out) (Chg.trans G2.out (hc.mono fun b _ hb => HL6.out b hb))) HD.out : ∀ w1, Chg (fun b => (Value.slice A5 m.nl c5).ownBlock = some b) (wa.setCell ⟨g, fa.toNat, none⟩ (.slice A3 l3.length c3)) w1 → Ints w1 Sp pv ps)
  have hp5 : ¬ (Value.slice A5 m.nl c5).ownBlock = some p := HP5.out
  have hb5 : ¬ (Value.slice A5 m.nl c5).ownBlock = some w.heap.size := HB5.out
  refine wp_region_l 47 (fun b => (Value.slice A5 m.nl c5).ownBlock = some b) 21 [kon (.pointer (some ⟨p, 0, none⟩)), kon (.pointer (some ⟨p, 0, none⟩)), kon (.pointer (some ⟨p, 0, none⟩)), kon (.pointer (some ⟨p, 5, none⟩)), kon (.slice A5 m.nl c5), kon (.pointer (some ⟨w.heap.size, 0, none⟩)), kon (.int .i64 k), kon (.pointer (some ⟨w.heap.size, 6, none⟩)), kon (.int .i64 car), kon (.pointer (some ⟨w.heap.size, 2, none⟩)), kon (.pointer (some ⟨w.heap.size, 2, none⟩)), kon (.int .i64 fb), kon (.pointer (some ⟨w.heap.size, 2, none⟩)), kon (.pointer (some ⟨w.heap.size, 3, none⟩)), kon (.int .i64 fa), kon (.pointer (some ⟨w.heap.size, 1, none⟩)), kon (.int .i64 d), kon (pv), (fun v _ => ∃ A l c, v = .slice A l c), (fun v _ => ∃ A l c, v = .agg (infoC k car fb fa d (.slice A l c))), (fun v w' => ∃ b A l c, v = .slice (some ⟨b, 0, none⟩) 1 1 ∧ (∀ j u, (infoC k car fb fa d (.slice A l c))[j]? = some u → w'.cell? ⟨b, j, none⟩ = some u) ∧ ¬ (Value.slice A5 m.nl c5).ownBlock = some b), (fun v w' => (∃ cs, w'.ownsRow 0 103 6 v (m.nl + 1) cs) ∧ (∀ b, v.ownBlock = some b → (Value.slice A5 m.nl c5).ownBlock = some b ∨ (wa.setCell ⟨g, fa.toNat, none⟩ (.slice A3 l3.length c3)).heap.size ≤ b)), kon (.pointer (some ⟨p, 0, none⟩)), kon (.pointer (some ⟨p, 5, none⟩))] [(0, 23, []), (1, 24, []), (2, 25, [1]), (3, 26, [2]), (4, 27, [3]), (5, 28, []), (6, 29, [5]), (7, 30, []), (8, 31, [7]), (9, 32, []), (10, 33, [9]), (11, 34, [10]), (12, 35, []), (13, 36, [12]), (14, 37, [13]), (15, 38, []), (16, 39, [15]), (17, 40, []), (18, 41, [17]), (19, 42, [6, 8, 11, 14, 16, 18]), (20, 43, [19]), (21, 44, [4, 20, 18]), (22, 45, [0, 0, 1, 2, 3, 4, 5, 6, 7, 8, 9, 10, 11, 12, 13, 14, 15, 16, 17, 18, 19, 20, 21]), (23, 46, [22, 0, 1, 2, 3, 4, 5, 6, 7, 8, 9, 10, 11, 12, 13, 14, 15, 16, 17, 18, 19, 20, 21])] (by kernel_rfl) (by kernel_rfl) (by kernel_rfl) rfl ?_ ?_ ?_
  · exact ⟨(keeps_kon _), ⟨(keeps_kon _), ⟨(keeps_kon _), ⟨(keeps_kon _), ⟨(keeps_kon _), ⟨(keeps_kon _), ⟨(keeps_kon _), ⟨(keeps_kon _), ⟨(keeps_kon _), ⟨(keeps_kon _), ⟨(keeps_kon _), ⟨(keeps_kon _), ⟨(keeps_kon _), ⟨(keeps_kon _), ⟨(keeps_kon _), ⟨(keeps_kon _), ⟨(keeps_kon _), ⟨(keeps_kon _), ⟨(fun v w1 w2 h k => h), ⟨(fun v w1 w2 h k => h), ⟨(fun v w1 w2 ⟨b, A, l, c, e, h1, h2⟩ k => ⟨b, A, l, c, e, fun j u hu => k.cell (h1 j u hu) id, h2⟩), ⟨(fun v w1 w2 ⟨⟨cs, h1⟩, h2⟩ k => ⟨⟨cs, rowKept h1 k (fun _ _ => id)⟩, h2⟩), ⟨(keeps_kon _), ⟨(keeps_kon _), trivial⟩⟩⟩⟩⟩⟩⟩⟩⟩⟩⟩⟩⟩⟩⟩⟩⟩⟩⟩⟩⟩⟩⟩⟩
  · exact ⟨.inr (keeps_kon _), ⟨.inr (keeps_kon _), ⟨.inr (keeps_kon _), ⟨.inr (keeps_kon _), ⟨.inr (keeps_kon _), ⟨.inr (keeps_kon _), ⟨.inr (keeps_kon _), ⟨.inr (keeps_kon _), ⟨.inr (keeps_kon _), ⟨.inr (keeps_kon _), ⟨.inr (keeps_kon _), ⟨.inr (keeps_kon _), ⟨.inr (keeps_kon _), ⟨.inr (keeps_kon _), ⟨.inr (keeps_kon _), ⟨.inr (keeps_kon _), ⟨.inr (keeps_kon _), ⟨.inr (keeps_kon _), ⟨.inr (fun v w1 w2 h k => h), ⟨.inr (fun v w1 w2 h k => h), ⟨.inr (fun v w1 w2 ⟨b, A, l, c, e, h1, h2⟩ k => ⟨b, A, l, c, e, fun j u hu => k.cell (h1 j u hu) h2, h2⟩), ⟨.inl rfl, ⟨.inr (keeps_kon _), ⟨.inr (keeps_kon _), trivial⟩⟩⟩⟩⟩⟩⟩⟩⟩⟩⟩⟩⟩⟩⟩⟩⟩⟩⟩⟩⟩⟩⟩⟩
  refine ⟨fun w1 hc _ hn => ?_, fun v0 => ?_⟩
  · refine grow_same (v := .pointer (some ⟨p, 0, none⟩)) ?_ ?_
    exact x_move (.tmp 0) rfl rfl
    rfl
  refine ⟨fun w1 hc _ hn => ?_, fun v1 => ?_⟩
  · refine grow_same (v := .pointer (some ⟨p, 0, none⟩)) ?_ ?_
    exact x_move (.tmp 0) rfl rfl
    rfl
  refine ⟨fun w1 hc _ hn => ?_, fun v2 => ?_⟩
  · obtain rfl : (.pointer (some ⟨p, 0, none⟩) : Value) = v1 := Eq.symm hn.1
    refine grow_same (v := .pointer (some ⟨p, 0, none⟩)) ?_ ?_
    exact x_nil (p := ⟨p, 0, none⟩) (.tmp 24) rfl rfl
    rfl
  refine ⟨fun w1 hc _ hn => ?_, fun v3 => ?_⟩
  · obtain rfl : (.pointer (some ⟨p, 0, none⟩) : Value) = v2 := Eq.symm hn.1
    refine grow_same (v := .pointer (some ⟨p, 5, none⟩)) ?_ ?_
    exact x_field (q := .pointer (some ⟨p, 0, none⟩)) 60 (.tmp 25) 5 (by rfl) (by rfl) (by exact fa_m5 _ _)
    rfl
  refine ⟨fun w1 hc _ hn => ?_, fun v4 => ?_⟩
  · obtain rfl : (.pointer (some ⟨p, 5, none⟩) : Value) = v3 := Eq.symm hn.1
    refine grow_same (v := .slice A5 m.nl c5) ?_ ?_
    exact x_load (q := .pointer (some ⟨p, 5, none⟩)) 58 (.tmp 26) (by rfl) (by rfl) (by exact ld_infos _ _ _ (hc.cell X2.out.c5.1 hp5))
    rfl
  refine ⟨fun w1 hc _ hn => ?_, fun v5 => ?_⟩
  · refine grow_same (v := .pointer (some ⟨w.heap.size, 0, none⟩)) ?_ ?_
    exact x_field (q := .pointer (some ⟨w.heap.size, 0, none⟩)) 44 (.tmp 4) 0 (by rfl) (by rfl) (by exact fa_o0 _ _ _)
    rfl
  refine ⟨fun w1 hc _ hn => ?_, fun v6 => ?_⟩
  · obtain rfl : (.pointer (some ⟨w.heap.size, 0, none⟩) : Value) = v5 := Eq.symm hn.1
    refine grow_same (v := .int .i64 k) ?_ ?_
    exact x_load (q := .pointer (some ⟨w.heap.size, 0, none⟩)) 2 (.tmp 28) (by rfl) (by rfl) (by exact ld_int _ _ _ (hc.cell d0 hb5))
    rfl
  refine ⟨fun w1 hc _ hn => ?_, fun v7 => ?_⟩
  · refine grow_same (v := .pointer (some ⟨w.heap.size, 6, none⟩)) ?_ ?_
    exact x_field (q := .pointer (some ⟨w.heap.size, 0, none⟩)) 44 (.tmp 4) 4 (by rfl) (by rfl) (by exact fa_o4 _ _ _)
    rfl
  refine ⟨fun w1 hc _ hn => ?_, fun v8 => ?_⟩
  · obtain rfl : (.pointer (some ⟨w.heap.size, 6, none⟩) : Value) = v7 := Eq.symm hn.1
    refine grow_same (v := .int .i64 car) ?_ ?_
    exact x_load (q := .pointer (some ⟨w.heap.size, 6, none⟩)) 2 (.tmp 30) (by rfl) (by rfl) (by exact ld_int _ _ _ (hc.cell d6 hb5))
    rfl
  refine ⟨fun w1 hc _ hn => ?_, fun v9 => ?_⟩
  · refine grow_same (v := .pointer (some ⟨w.heap.size, 2, none⟩)) ?_ ?_
    exact x_field (q := .pointer (some ⟨w.heap.size, 0, none⟩)) 44 (.tmp 4) 2 (by rfl) (by rfl) (by exact fa_o2 _ _ _)
    rfl
  refine ⟨fun w1 hc _ hn => ?_, fun v10 => ?_⟩
  · obtain rfl : (.pointer (some ⟨w.heap.size, 2, none⟩) : Value) = v9 := Eq.symm hn.1
    refine grow_same (v := .pointer (some ⟨w.heap.size, 2, none⟩)) ?_ ?_
    exact x_field (q := .pointer (some ⟨w.heap.size, 2, none⟩)) 42 (.tmp 32) 0 (by rfl) (by rfl) (by exact fa_n0 _ _ _)
    rfl
  refine ⟨fun w1 hc _ hn => ?_, fun v11 => ?_⟩
  · obtain rfl : (.pointer (some ⟨w.heap.size, 2, none⟩) : Value) = v10 := Eq.symm hn.1
    refine grow_same (v := .int .i64 fb) ?_ ?_
    exact x_load (q := .pointer (some ⟨w.heap.size, 2, none⟩)) 2 (.tmp 33) (by rfl) (by rfl) (by exact ld_int _ _ _ (hc.cell d2 hb5))
    rfl
  refine ⟨fun w1 hc _ hn => ?_, fun v12 => ?_⟩
  · refine grow_same (v := .pointer (some ⟨w.heap.size, 2, none⟩)) ?_ ?_
    exact x_field (q := .pointer (some ⟨w.heap.size, 0, none⟩)) 44 (.tmp 4) 2 (by rfl) (by rfl) (by exact fa_o2 _ _ _)
    rfl
  refine ⟨fun w1 hc _ hn => ?_, fun v13 => ?_⟩
  · obtain rfl : (.pointer (some ⟨w.heap.size, 2, none⟩) : Value) = v12 := Eq.symm hn.1
    refine grow_same (v := .pointer (some ⟨w.heap.size, 3, none⟩)) ?_ ?_
    exact x_field (q := .pointer (some ⟨w.heap.size, 2, none⟩)) 42 (.tmp 35) 1 (by rfl) (by rfl) (by exact fa_n1 _ _ _)
    rfl
  refine ⟨fun w1 hc _ hn => ?_, fun v14 => ?_⟩
  · obtain rfl : (.pointer (some ⟨w.heap.size, 3, none⟩) : Value) = v13 := Eq.symm hn.1
    refine grow_same (v := .int .i64 fa) ?_ ?_
    exact x_load (q := .pointer (some ⟨w.heap.size, 3, none⟩)) 2 (.tmp 36) (by rfl) (by rfl) (by exact ld_int _ _ _ (hc.cell d3 hb5))
    rfl
  refine ⟨fun w1 hc _ hn => ?_, fun v15 => ?_⟩
  · refine grow_same (v := .pointer (some ⟨w.heap.size, 1, none⟩)) ?_ ?_
    exact x_field (q := .pointer (some ⟨w.heap.size, 0, none⟩)) 44 (.tmp 4) 1 (by rfl) (by rfl) (by exact fa_o1 _ _ _)
    rfl
  refine ⟨fun w1 hc _ hn => ?_, fun v16 => ?_⟩
  · obtain rfl : (.pointer (some ⟨w.heap.size, 1, none⟩) : Value) = v15 := Eq.symm hn.1
    refine grow_same (v := .int .i64 d) ?_ ?_
    exact x_load (q := .pointer (some ⟨w.heap.size, 1, none⟩)) 2 (.tmp 38) (by rfl) (by rfl) (by exact ld_int _ _ _ (hc.cell d1 hb5))
    rfl
  refine ⟨fun w1 hc _ hn => ?_, fun v17 => ?_⟩
  · refine grow_same (v := pv) ?_ ?_
    exact x_move (.tmp 2) rfl rfl
    rfl
  refine ⟨fun w1 hc _ hn => ?_, fun v18 => ?_⟩
  · obtain rfl : (pv : Value) = v17 := Eq.symm hn.1
    refine grow_call (f := 90) (args := #[pv]) (x_call #[.tmp 40] #[34] Tryz.func90 (by rfl) (by rfl) (by rfl) (by rfl) (by simp only [List.map_toArray, List.map_cons, List.map_nil]; rfl)) ?_
    refine (cloneI_any w1 Sp pv ps (HP3.out w1 hc) (by omega)).mono ?_
    rintro e w' ⟨v', rfl, k1, g1⟩
    obtain ⟨A', c', rfl, -, -, -⟩ := k1.ints.shape
    exact ⟨_, rfl, rg_up g1, _, _, _, rfl⟩
  refine ⟨fun w1 hc _ hn => ?_, fun v19 => ?_⟩
  · obtain rfl : (.int .i64 k : Value) = v6 := Eq.symm hn.1
    obtain rfl : (.int .i64 car : Value) = v8 := Eq.symm hn.2.1
    obtain rfl : (.int .i64 fb : Value) = v11 := Eq.symm hn.2.2.1
    obtain rfl : (.int .i64 fa : Value) = v14 := Eq.symm hn.2.2.2.1
    obtain rfl : (.int .i64 d : Value) = v16 := Eq.symm hn.2.2.2.2.1
    obtain ⟨A', l', c', rfl⟩ := hn.2.2.2.2.2.1
    exact grow_same (x_build 103 _ (by rfl) #[(0, .int .i64 k), (1, .int .i64 car), (2, .int .i64 fb), (3, .int .i64 fa), (4, .int .i64 d), (5, .slice A' l' c')] (by simp only [List.map_toArray, List.map_cons, List.map_nil]; rfl) (by exact bd_info _ _ _ _ _ _ _ _ _)) ⟨_, _, _, rfl⟩
  refine ⟨fun w1 hc _ hn => ?_, fun v20 => ?_⟩
  · obtain ⟨A', l', c', rfl⟩ := hn.1
    exact grow_ok (x_build1 58 (.tmp 42) (by rfl) (by rfl) (by exact bs_info _ _ _ _ _ _ _ _ _)) (rg_up ((Chg.refl _ _).alloc _)) ⟨_, _, _, _, rfl, fun j u hu => cell_at rfl hu, fun e => by have := HL5.out _ e; have := hc.size; omega⟩
  refine ⟨fun w1 hc hu hn => ?_, fun v21 => ?_⟩
  · obtain rfl : (.slice A5 m.nl c5 : Value) = v4 := Eq.symm hn.1
    obtain ⟨b9, A', l', c', rfl, hb9, hn9⟩ := hn.2.1
    obtain ⟨cs2, hL2⟩ := X2.out.l
    rw [(setM_same (m := m) fb fa l3).2.2.2] at hL2
    obtain ⟨i0, hi0, hz0, hz1, hz2⟩ := info_parts infoInfo
    refine grow_ex (x_append (.tmp 27) (.tmp 43) 58 (by rfl) 0 103 i0 _ 6 _ Tryz.underlying58 hi0 hz0 hz1 hz2 rfl (by decide) (.slice A5 m.nl c5) m.nl cs2 (by rfl) (rowKept hL2 (hu rfl) (fun _ _ => id)) ⟨b9, 0, none⟩ 1 1 (infoC k car fb fa d (.slice A' l' c')).toList (by rfl) (by rfl) ?_ ?_ (by unfold Go.maxLen; omega) (by omega) (Nat.zero_le _)) ?_
    · intro j u hu
      rw [add_zero]
      exact hb9 j u (by simpa using hu)
    · intro u hu
      simp at hu
      rcases hu with rfl | rfl | rfl | rfl | rfl | rfl <;> rfl
    rintro v' w' ⟨h1, h2, h3⟩
    exact ⟨rg_eff (Chg.of_grown h2), ⟨_, h1⟩, fun b hb => (h3 b hb).imp id fun h => Nat.le_trans hc.size h⟩
  refine ⟨fun w1 hc _ hn => ?_, fun v22 => ?_⟩
  · obtain rfl : (.pointer (some ⟨p, 0, none⟩) : Value) = v0 := Eq.symm hn.1
    refine grow_same (v := .pointer (some ⟨p, 0, none⟩)) ?_ ?_
    exact x_nil (p := ⟨p, 0, none⟩) (.tmp 23) rfl rfl
    rfl
  refine ⟨fun w1 hc _ hn => ?_, fun v23 => ?_⟩
  · obtain rfl : (.pointer (some ⟨p, 0, none⟩) : Value) = v22 := Eq.symm hn.1
    refine grow_same (v := .pointer (some ⟨p, 5, none⟩)) ?_ ?_
    exact x_field (q := .pointer (some ⟨p, 0, none⟩)) 60 (.tmp 45) 5 (by rfl) (by rfl) (by exact fa_m5 _ _)
    rfl
  intro w1 hc hn
  obtain ⟨rfl, rfl, f21, f20, f19, f18, rfl, rfl, rfl, rfl, rfl, rfl, rfl, rfl, rfl, rfl, rfl, rfl, rfl, rfl, rfl, rfl, rfl, rfl, -⟩ := hn
  clear f18 f19 f20
  obtain ⟨⟨cs7, ho7⟩, hb7⟩ := f21
  obtain ⟨A7, c7, rfl, hl7, hc7, -⟩ := ownsRow_shape ho7
  have E2 := hc.cell X2.out.c5.1 hp5
  have F2 := (hc.frozen X2.out.c5.1 hp5).trans X2.out.c5.2
  have X3 := Lib.hid ((X2.out.set_loops hc ho7 hb7).mono (T := S) (fun b _ hb => hb.elim id fun h => HS.out _ (Nat.le_trans (Nat.le_trans U.out.size HZ3) h)))
  have G3 := Lib.hid (Chg.setCell (S := S) (Chg.trans (Chg.of_up U.out) (Chg.trans G2.out (hc.mono fun b _ hb => HL6.out b hb))) (.inl X2.out.sp) (.slice A7 (m.nl + 1) c7) : Chg S w (w1.setCell ⟨p, 5, none⟩ (.slice A7 (m.nl + 1) c7)))
  clear ho7 hb7 d0 d1 d2 d3 d4 d5 d6 d7
  simp only [List.length_cons, List.length_nil, List.drop_succ_cons, List.drop_zero, Nat.zero_add]
  go_wp2
  go_end0
  refine ⟨rfl, ?_, G3.out⟩
  have := X3.out.mach
  rw [HL3.out] at this
  exact this
end Go.Proofs.YtiiodfcbpmkodaaGreat
