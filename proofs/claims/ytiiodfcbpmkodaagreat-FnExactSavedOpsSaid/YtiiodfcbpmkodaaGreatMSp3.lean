/- The reference's machine: a loop is made. No condition. -/
import Derived.Test.YtiiodfcbpmkodaaGreatMSp2
set_option linter.unusedSimpArgs false
set_option linter.unusedVariables false
set_option maxRecDepth 100000
set_option maxHeartbeats 8000000
namespace Go.Proofs.YtiiodfcbpmkodaaGreat
open Go.ChangeShapes Go.WideShapes Go.ChangeAt Go.RowKit
attribute [local go_sem ↓] Go.wp_at_zero Go.wp_at_succ
theorem l07Make_any (w : World) {S : Nat → Prop} {K p : Nat} {m : MachM} {F B C L D : Value} {fs bs : List Value} (h : MachX w S K p m F B C L D fs bs) (hS : NewIn S w) (hi : MInv m) (bo oi : Nat) (k d fb fa tb ta car rk : Int) (hO : OpC w bo oi ⟨k, d, fb, fa, tb, ta, car, rk⟩) (hb : ¬ S bo) (h4 : m.nl < 300) (Sp : Nat → Prop) (pv : Value) (ps : List Int) (hp : Ints w Sp pv ps) (hpl : ps.length ≤ 100) (hd : ∀ b, L.ownBlock = some b → ¬ Sp b) :
    Calls Tryz.prog 67 #[.pointer (some ⟨p, 0, none⟩), .pointer (some ⟨bo, oi, none⟩), pv] w fun e w' => e = .returned (.int .i64 m.nl) ∧ (∃ L', MachX w' S K p { m with nl := m.nl + 1 } F B C L' D fs bs) ∧ Chg S w w' := by
  obtain ⟨csL, hL⟩ := h.l
  obtain ⟨A5, c5, rfl, hl5, hc5, -⟩ := ownsRow_shape hL
  have HL := Lib.hid hL
  clear hL
  have hp5 : ¬ (Value.slice A5 m.nl c5).ownBlock = some p := fun e => h.off_p (Value.slice A5 m.nl c5) (by simp) p e rfl
  have HL5 := Lib.hid (fun x e => (HL.out.lt x e).2 : ∀ x, (Value.slice A5 m.nl c5).ownBlock = some x → x < w.heap.size)
  have HL6 := Lib.hid (h.own (Value.slice A5 m.nl c5) (by simp) : ∀ x, (Value.slice A5 m.nl c5).ownBlock = some x → S x)
  have hb5 : ¬ (Value.slice A5 m.nl c5).ownBlock = some bo := fun e => hb (HL6.out _ e)
  have HX := Lib.hid h
  have HS := Lib.hid hS
  have HO := Lib.hid hO
  have HP := Lib.hid hp
  have HD := Lib.hid hd
  clear h hS hO hp hd hi
  go_enter Tryz.func67, Tryz.ntmps67
  go_wp2
  refine wp_region_l 47 (fun b => (Value.slice A5 m.nl c5).ownBlock = some b) 31 [kon (.pointer (some ⟨p, 0, none⟩)), kon (.pointer (some ⟨p, 0, none⟩)), kon (.pointer (some ⟨p, 0, none⟩)), kon (.pointer (some ⟨p, 5, none⟩)), kon (.slice A5 m.nl c5), kon (.pointer (some ⟨bo, oi, none⟩)), kon (.pointer (some ⟨bo, oi, none⟩)), kon (.pointer (some ⟨bo, oi, none⟩)), kon (.int .i64 k), kon (.pointer (some ⟨bo, oi, none⟩)), kon (.pointer (some ⟨bo, oi, none⟩)), kon (.pointer (some ⟨bo, oi + 6, none⟩)), kon (.int .i64 car), kon (.pointer (some ⟨bo, oi, none⟩)), kon (.pointer (some ⟨bo, oi, none⟩)), kon (.pointer (some ⟨bo, oi + 2, none⟩)), kon (.pointer (some ⟨bo, oi + 2, none⟩)), kon (.int .i64 fb), kon (.pointer (some ⟨bo, oi, none⟩)), kon (.pointer (some ⟨bo, oi, none⟩)), kon (.pointer (some ⟨bo, oi + 2, none⟩)), kon (.pointer (some ⟨bo, oi + 2 + 1, none⟩)), kon (.int .i64 fa), kon (.pointer (some ⟨bo, oi, none⟩)), kon (.pointer (some ⟨bo, oi, none⟩)), kon (.pointer (some ⟨bo, oi + 1, none⟩)), kon (.int .i64 d), kon (pv), (fun v _ => ∃ A l c, v = .slice A l c), (fun v _ => ∃ A l c, v = .agg (infoC k car fb fa d (.slice A l c))), (fun v w' => ∃ b A l c, v = .slice (some ⟨b, 0, none⟩) 1 1 ∧ (∀ j u, (infoC k car fb fa d (.slice A l c))[j]? = some u → w'.cell? ⟨b, j, none⟩ = some u) ∧ ¬ (Value.slice A5 m.nl c5).ownBlock = some b), (fun v w' => (∃ cs, w'.ownsRow 0 103 6 v (m.nl + 1) cs) ∧ (∀ b, v.ownBlock = some b → (Value.slice A5 m.nl c5).ownBlock = some b ∨ w.heap.size ≤ b)), kon (.pointer (some ⟨p, 0, none⟩)), kon (.pointer (some ⟨p, 5, none⟩))] [(0, 7, []), (1, 8, []), (2, 9, [1]), (3, 10, [2]), (4, 11, [3]), (5, 12, []), (6, 13, [5]), (7, 14, [6]), (8, 15, [7]), (9, 16, []), (10, 17, [9]), (11, 18, [10]), (12, 19, [11]), (13, 20, []), (14, 21, [13]), (15, 22, [14]), (16, 23, [15]), (17, 24, [16]), (18, 25, []), (19, 26, [18]), (20, 27, [19]), (21, 28, [20]), (22, 29, [21]), (23, 30, []), (24, 31, [23]), (25, 32, [24]), (26, 33, [25]), (27, 34, []), (28, 35, [27]), (29, 36, [8, 12, 17, 22, 26, 28]), (30, 37, [29]), (31, 38, [4, 30, 28]), (32, 39, [0, 0, 1, 2, 3, 4, 5, 6, 7, 8, 9, 10, 11, 12, 13, 14, 15, 16, 17, 18, 19, 20, 21, 22, 23, 24, 25, 26, 27, 28, 29, 30, 31]), (33, 40, [32, 0, 1, 2, 3, 4, 5, 6, 7, 8, 9, 10, 11, 12, 13, 14, 15, 16, 17, 18, 19, 20, 21, 22, 23, 24, 25, 26, 27, 28, 29, 30, 31])] (by kernel_rfl) (by kernel_rfl) (by kernel_rfl) rfl ?_ ?_ ?_
  · exact ⟨(keeps_kon _), ⟨(keeps_kon _), ⟨(keeps_kon _), ⟨(keeps_kon _), ⟨(keeps_kon _), ⟨(keeps_kon _), ⟨(keeps_kon _), ⟨(keeps_kon _), ⟨(keeps_kon _), ⟨(keeps_kon _), ⟨(keeps_kon _), ⟨(keeps_kon _), ⟨(keeps_kon _), ⟨(keeps_kon _), ⟨(keeps_kon _), ⟨(keeps_kon _), ⟨(keeps_kon _), ⟨(keeps_kon _), ⟨(keeps_kon _), ⟨(keeps_kon _), ⟨(keeps_kon _), ⟨(keeps_kon _), ⟨(keeps_kon _), ⟨(keeps_kon _), ⟨(keeps_kon _), ⟨(keeps_kon _), ⟨(keeps_kon _), ⟨(keeps_kon _), ⟨(fun v w1 w2 h k => h), ⟨(fun v w1 w2 h k => h), ⟨(fun v w1 w2 ⟨b, A, l, c, e, h1, h2⟩ k => ⟨b, A, l, c, e, fun j u hu => k.cell (h1 j u hu) id, h2⟩), ⟨(fun v w1 w2 ⟨⟨cs, h1⟩, h2⟩ k => ⟨⟨cs, rowKept h1 k (fun _ _ => id)⟩, h2⟩), ⟨(keeps_kon _), ⟨(keeps_kon _), trivial⟩⟩⟩⟩⟩⟩⟩⟩⟩⟩⟩⟩⟩⟩⟩⟩⟩⟩⟩⟩⟩⟩⟩⟩⟩⟩⟩⟩⟩⟩⟩⟩⟩⟩
  · exact ⟨.inr (keeps_kon _), ⟨.inr (keeps_kon _), ⟨.inr (keeps_kon _), ⟨.inr (keeps_kon _), ⟨.inr (keeps_kon _), ⟨.inr (keeps_kon _), ⟨.inr (keeps_kon _), ⟨.inr (keeps_kon _), ⟨.inr (keeps_kon _), ⟨.inr (keeps_kon _), ⟨.inr (keeps_kon _), ⟨.inr (keeps_kon _), ⟨.inr (keeps_kon _), ⟨.inr (keeps_kon _), ⟨.inr (keeps_kon _), ⟨.inr (keeps_kon _), ⟨.inr (keeps_kon _), ⟨.inr (keeps_kon _), ⟨.inr (keeps_kon _), ⟨.inr (keeps_kon _), ⟨.inr (keeps_kon _), ⟨.inr (keeps_kon _), ⟨.inr (keeps_kon _), ⟨.inr (keeps_kon _), ⟨.inr (keeps_kon _), ⟨.inr (keeps_kon _), ⟨.inr (keeps_kon _), ⟨.inr (keeps_kon _), ⟨.inr (fun v w1 w2 h k => h), ⟨.inr (fun v w1 w2 h k => h), ⟨.inr (fun v w1 w2 ⟨b, A, l, c, e, h1, h2⟩ k => ⟨b, A, l, c, e, fun j u hu => k.cell (h1 j u hu) h2, h2⟩), ⟨.inl rfl, ⟨.inr (keeps_kon _), ⟨.inr (keeps_kon _), trivial⟩⟩⟩⟩⟩⟩⟩⟩⟩⟩⟩⟩⟩⟩⟩⟩⟩⟩⟩⟩⟩⟩⟩⟩⟩⟩⟩⟩⟩⟩⟩⟩⟩⟩
  refine ⟨fun w1 hc _ hn => ?_, fun v0 => ?_⟩
  · refine grow_same (v := .pointer (some ⟨p, 0, none⟩)) ?_ ?_
    exact x_move (.tmp 0) rfl rfl
    rfl
  refine ⟨fun w1 hc _ hn => ?_, fun v1 => ?_⟩
  · refine grow_same (v := .pointer (some ⟨p, 0, none⟩)) ?_ ?_
    exact x_move (.tmp 0) rfl rfl
    rfl
  refine ⟨fun w1 hc _ hn => ?_, fun v2 => ?_⟩
  · obtain rfl : (.pointer (some ⟨p, 0, none⟩) : Value) = v1 := Eq.symm hn.1
    refine grow_same (v := .pointer (some ⟨p, 0, none⟩)) ?_ ?_
    exact x_nil (p := ⟨p, 0, none⟩) (.tmp 8) rfl rfl
    rfl
  refine ⟨fun w1 hc _ hn => ?_, fun v3 => ?_⟩
  · obtain rfl : (.pointer (some ⟨p, 0, none⟩) : Value) = v2 := Eq.symm hn.1
    refine grow_same (v := .pointer (some ⟨p, 5, none⟩)) ?_ ?_
    exact x_field (q := .pointer (some ⟨p, 0, none⟩)) 60 (.tmp 9) 5 (by rfl) (by rfl) (by exact fa_m5 _ _)
    rfl
  refine ⟨fun w1 hc _ hn => ?_, fun v4 => ?_⟩
  · obtain rfl : (.pointer (some ⟨p, 5, none⟩) : Value) = v3 := Eq.symm hn.1
    refine grow_same (v := .slice A5 m.nl c5) ?_ ?_
    exact x_load (q := .pointer (some ⟨p, 5, none⟩)) 58 (.tmp 10) (by rfl) (by rfl) (by exact ld_infos _ _ _ (hc.cell HX.out.c5.1 hp5))
    rfl
  refine ⟨fun w1 hc _ hn => ?_, fun v5 => ?_⟩
  · refine grow_same (v := .pointer (some ⟨bo, oi, none⟩)) ?_ ?_
    exact x_move (.tmp 1) rfl rfl
    rfl
  refine ⟨fun w1 hc _ hn => ?_, fun v6 => ?_⟩
  · obtain rfl : (.pointer (some ⟨bo, oi, none⟩) : Value) = v5 := Eq.symm hn.1
    refine grow_same (v := .pointer (some ⟨bo, oi, none⟩)) ?_ ?_
    exact x_nil (p := ⟨bo, oi, none⟩) (.tmp 12) rfl rfl
    rfl
  refine ⟨fun w1 hc _ hn => ?_, fun v7 => ?_⟩
  · obtain rfl : (.pointer (some ⟨bo, oi, none⟩) : Value) = v6 := Eq.symm hn.1
    refine grow_same (v := .pointer (some ⟨bo, oi, none⟩)) ?_ ?_
    exact x_field (q := .pointer (some ⟨bo, oi, none⟩)) 44 (.tmp 13) 0 (by rfl) (by rfl) (by exact fa_o0 _ _ _)
    rfl
  refine ⟨fun w1 hc _ hn => ?_, fun v8 => ?_⟩
  · obtain rfl : (.pointer (some ⟨bo, oi, none⟩) : Value) = v7 := Eq.symm hn.1
    refine grow_same (v := .int .i64 k) ?_ ?_
    exact x_load (q := .pointer (some ⟨bo, oi, none⟩)) 2 (.tmp 14) (by rfl) (by rfl) (by exact ld_int _ _ _ (hc.cell HO.out.c0 (hb5)))
    rfl
  refine ⟨fun w1 hc _ hn => ?_, fun v9 => ?_⟩
  · refine grow_same (v := .pointer (some ⟨bo, oi, none⟩)) ?_ ?_
    exact x_move (.tmp 1) rfl rfl
    rfl
  refine ⟨fun w1 hc _ hn => ?_, fun v10 => ?_⟩
  · obtain rfl : (.pointer (some ⟨bo, oi, none⟩) : Value) = v9 := Eq.symm hn.1
    refine grow_same (v := .pointer (some ⟨bo, oi, none⟩)) ?_ ?_
    exact x_nil (p := ⟨bo, oi, none⟩) (.tmp 16) rfl rfl
    rfl
  refine ⟨fun w1 hc _ hn => ?_, fun v11 => ?_⟩
  · obtain rfl : (.pointer (some ⟨bo, oi, none⟩) : Value) = v10 := Eq.symm hn.1
    refine grow_same (v := .pointer (some ⟨bo, oi + 6, none⟩)) ?_ ?_
    exact x_field (q := .pointer (some ⟨bo, oi, none⟩)) 44 (.tmp 17) 4 (by rfl) (by rfl) (by exact fa_o4 _ _ _)
    rfl
  refine ⟨fun w1 hc _ hn => ?_, fun v12 => ?_⟩
  · obtain rfl : (.pointer (some ⟨bo, oi + 6, none⟩) : Value) = v11 := Eq.symm hn.1
    refine grow_same (v := .int .i64 car) ?_ ?_
    exact x_load (q := .pointer (some ⟨bo, oi + 6, none⟩)) 2 (.tmp 18) (by rfl) (by rfl) (by exact ld_int _ _ _ (hc.cell HO.out.c6 (hb5)))
    rfl
  refine ⟨fun w1 hc _ hn => ?_, fun v13 => ?_⟩
  · refine grow_same (v := .pointer (some ⟨bo, oi, none⟩)) ?_ ?_
    exact x_move (.tmp 1) rfl rfl
    rfl
  refine ⟨fun w1 hc _ hn => ?_, fun v14 => ?_⟩
  · obtain rfl : (.pointer (some ⟨bo, oi, none⟩) : Value) = v13 := Eq.symm hn.1
    refine grow_same (v := .pointer (some ⟨bo, oi, none⟩)) ?_ ?_
    exact x_nil (p := ⟨bo, oi, none⟩) (.tmp 20) rfl rfl
    rfl
  refine ⟨fun w1 hc _ hn => ?_, fun v15 => ?_⟩
  · obtain rfl : (.pointer (some ⟨bo, oi, none⟩) : Value) = v14 := Eq.symm hn.1
    refine grow_same (v := .pointer (some ⟨bo, oi + 2, none⟩)) ?_ ?_
    exact x_field (q := .pointer (some ⟨bo, oi, none⟩)) 44 (.tmp 21) 2 (by rfl) (by rfl) (by exact fa_o2 _ _ _)
    rfl
  refine ⟨fun w1 hc _ hn => ?_, fun v16 => ?_⟩
  · obtain rfl : (.pointer (some ⟨bo, oi + 2, none⟩) : Value) = v15 := Eq.symm hn.1
    refine grow_same (v := .pointer (some ⟨bo, oi + 2, none⟩)) ?_ ?_
    exact x_field (q := .pointer (some ⟨bo, oi + 2, none⟩)) 42 (.tmp 22) 0 (by rfl) (by rfl) (by exact fa_n0 _ _ _)
    rfl
  refine ⟨fun w1 hc _ hn => ?_, fun v17 => ?_⟩
  · obtain rfl : (.pointer (some ⟨bo, oi + 2, none⟩) : Value) = v16 := Eq.symm hn.1
    refine grow_same (v := .int .i64 fb) ?_ ?_
    exact x_load (q := .pointer (some ⟨bo, oi + 2, none⟩)) 2 (.tmp 23) (by rfl) (by rfl) (by exact ld_int _ _ _ (hc.cell HO.out.c2 (hb5)))
    rfl
  refine ⟨fun w1 hc _ hn => ?_, fun v18 => ?_⟩
  · refine grow_same (v := .pointer (some ⟨bo, oi, none⟩)) ?_ ?_
    exact x_move (.tmp 1) rfl rfl
    rfl
  refine ⟨fun w1 hc _ hn => ?_, fun v19 => ?_⟩
  · obtain rfl : (.pointer (some ⟨bo, oi, none⟩) : Value) = v18 := Eq.symm hn.1
    refine grow_same (v := .pointer (some ⟨bo, oi, none⟩)) ?_ ?_
    exact x_nil (p := ⟨bo, oi, none⟩) (.tmp 25) rfl rfl
    rfl
  refine ⟨fun w1 hc _ hn => ?_, fun v20 => ?_⟩
  · obtain rfl : (.pointer (some ⟨bo, oi, none⟩) : Value) = v19 := Eq.symm hn.1
    refine grow_same (v := .pointer (some ⟨bo, oi + 2, none⟩)) ?_ ?_
    exact x_field (q := .pointer (some ⟨bo, oi, none⟩)) 44 (.tmp 26) 2 (by rfl) (by rfl) (by exact fa_o2 _ _ _)
    rfl
  refine ⟨fun w1 hc _ hn => ?_, fun v21 => ?_⟩
  · obtain rfl : (.pointer (some ⟨bo, oi + 2, none⟩) : Value) = v20 := Eq.symm hn.1
    refine grow_same (v := .pointer (some ⟨bo, oi + 2 + 1, none⟩)) ?_ ?_
    exact x_field (q := .pointer (some ⟨bo, oi + 2, none⟩)) 42 (.tmp 27) 1 (by rfl) (by rfl) (by exact fa_n1 _ _ _)
    rfl
  refine ⟨fun w1 hc _ hn => ?_, fun v22 => ?_⟩
  · obtain rfl : (.pointer (some ⟨bo, oi + 2 + 1, none⟩) : Value) = v21 := Eq.symm hn.1
    refine grow_same (v := .int .i64 fa) ?_ ?_
    exact x_load (q := .pointer (some ⟨bo, oi + 2 + 1, none⟩)) 2 (.tmp 28) (by rfl) (by rfl) (by exact ld_int _ _ _ (hc.cell HO.out.c3 (hb5)))
    rfl
  refine ⟨fun w1 hc _ hn => ?_, fun v23 => ?_⟩
  · refine grow_same (v := .pointer (some ⟨bo, oi, none⟩)) ?_ ?_
    exact x_move (.tmp 1) rfl rfl
    rfl
  refine ⟨fun w1 hc _ hn => ?_, fun v24 => ?_⟩
  · obtain rfl : (.pointer (some ⟨bo, oi, none⟩) : Value) = v23 := Eq.symm hn.1
    refine grow_same (v := .pointer (some ⟨bo, oi, none⟩)) ?_ ?_
    exact x_nil (p := ⟨bo, oi, none⟩) (.tmp 30) rfl rfl
    rfl
  refine ⟨fun w1 hc _ hn => ?_, fun v25 => ?_⟩
  · obtain rfl : (.pointer (some ⟨bo, oi, none⟩) : Value) = v24 := Eq.symm hn.1
    refine grow_same (v := .pointer (some ⟨bo, oi + 1, none⟩)) ?_ ?_
    exact x_field (q := .pointer (some ⟨bo, oi, none⟩)) 44 (.tmp 31) 1 (by rfl) (by rfl) (by exact fa_o1 _ _ _)
    rfl
  refine ⟨fun w1 hc _ hn => ?_, fun v26 => ?_⟩
  · obtain rfl : (.pointer (some ⟨bo, oi + 1, none⟩) : Value) = v25 := Eq.symm hn.1
    refine grow_same (v := .int .i64 d) ?_ ?_
    exact x_load (q := .pointer (some ⟨bo, oi + 1, none⟩)) 2 (.tmp 32) (by rfl) (by rfl) (by exact ld_int _ _ _ (hc.cell HO.out.c1 (hb5)))
    rfl
  refine ⟨fun w1 hc _ hn => ?_, fun v27 => ?_⟩
  · refine grow_same (v := pv) ?_ ?_
    exact x_move (.tmp 2) rfl rfl
    rfl
  refine ⟨fun w1 hc _ hn => ?_, fun v28 => ?_⟩
  · obtain rfl : (pv : Value) = v27 := Eq.symm hn.1
    refine grow_call (f := 66) (args := #[pv]) (x_call #[.tmp 34] #[34] Tryz.func66 (by rfl) (by rfl) (by rfl) (by rfl) (by simp only [List.map_toArray, List.map_cons, List.map_nil]; rfl)) ?_
    refine (ownI_any w1 Sp pv ps (HP.out.keep hc (fun b _ h1 h2 => HD.out b h2 h1)) (by omega)).mono ?_
    rintro e w' ⟨v', rfl, k1, g1⟩
    obtain ⟨A', c', rfl, -, -, -⟩ := k1.ints.shape
    exact ⟨_, rfl, rg_up g1, _, _, _, rfl⟩
  refine ⟨fun w1 hc _ hn => ?_, fun v29 => ?_⟩
  · obtain rfl : (.int .i64 k : Value) = v8 := Eq.symm hn.1
    obtain rfl : (.int .i64 car : Value) = v12 := Eq.symm hn.2.1
    obtain rfl : (.int .i64 fb : Value) = v17 := Eq.symm hn.2.2.1
    obtain rfl : (.int .i64 fa : Value) = v22 := Eq.symm hn.2.2.2.1
    obtain rfl : (.int .i64 d : Value) = v26 := Eq.symm hn.2.2.2.2.1
    obtain ⟨A', l', c', rfl⟩ := hn.2.2.2.2.2.1
    exact grow_same (x_build 103 _ (by rfl) #[(0, .int .i64 k), (1, .int .i64 car), (2, .int .i64 fb), (3, .int .i64 fa), (4, .int .i64 d), (5, .slice A' l' c')] (by simp only [List.map_toArray, List.map_cons, List.map_nil]; rfl) (by exact bd_info _ _ _ _ _ _ _ _ _)) ⟨_, _, _, rfl⟩
  refine ⟨fun w1 hc _ hn => ?_, fun v30 => ?_⟩
  · obtain ⟨A', l', c', rfl⟩ := hn.1
    exact grow_ok (x_build1 58 (.tmp 36) (by rfl) (by rfl) (by exact bs_info _ _ _ _ _ _ _ _ _)) (rg_up ((Chg.refl _ _).alloc _)) ⟨_, _, _, _, rfl, fun j u hu => cell_at rfl hu, fun e => by have := HL5.out _ e; have := hc.size; omega⟩
  refine ⟨fun w1 hc hu hn => ?_, fun v31 => ?_⟩
  · obtain rfl : (.slice A5 m.nl c5 : Value) = v4 := Eq.symm hn.1
    obtain ⟨b9, A', l', c', rfl, hb9, hn9⟩ := hn.2.1
    obtain ⟨cs2, hL2⟩ := HX.out.l
    obtain ⟨i0, hi0, hz0, hz1, hz2⟩ := info_parts infoInfo
    refine grow_ex (x_append (.tmp 11) (.tmp 37) 58 (by rfl) 0 103 i0 _ 6 _ Tryz.underlying58 hi0 hz0 hz1 hz2 rfl (by decide) (.slice A5 m.nl c5) m.nl cs2 (by rfl) (rowKept hL2 (hu rfl) (fun _ _ => id)) ⟨b9, 0, none⟩ 1 1 (infoC k car fb fa d (.slice A' l' c')).toList (by rfl) (by rfl) ?_ ?_ (by unfold Go.maxLen; omega) (by omega) (Nat.zero_le _)) ?_
    · intro j u hu
      rw [add_zero]
      exact hb9 j u (by simpa using hu)
    · intro u hu
      simp at hu
      rcases hu with rfl | rfl | rfl | rfl | rfl | rfl <;> rfl
    rintro v' w' ⟨h1, h2, h3⟩
    exact ⟨rg_eff (Chg.of_grown h2), ⟨_, h1⟩, fun b hb => (h3 b hb).imp id fun h => Nat.le_trans hc.size h⟩
  refine ⟨fun w1 hc _ hn => ?_, fun v32 => ?_⟩
  · obtain rfl : (.pointer (some ⟨p, 0, none⟩) : Value) = v0 := Eq.symm hn.1
    refine grow_same (v := .pointer (some ⟨p, 0, none⟩)) ?_ ?_
    exact x_nil (p := ⟨p, 0, none⟩) (.tmp 7) rfl rfl
    rfl
  refine ⟨fun w1 hc _ hn => ?_, fun v33 => ?_⟩
  · obtain rfl : (.pointer (some ⟨p, 0, none⟩) : Value) = v32 := Eq.symm hn.1
    refine grow_same (v := .pointer (some ⟨p, 5, none⟩)) ?_ ?_
    exact x_field (q := .pointer (some ⟨p, 0, none⟩)) 60 (.tmp 39) 5 (by rfl) (by rfl) (by exact fa_m5 _ _)
    rfl
  intro w1 hc hn
  obtain ⟨rfl, rfl, f31, f30, f29, f28, rfl, rfl, rfl, rfl, rfl, rfl, rfl, rfl, rfl, rfl, rfl, rfl, rfl, rfl, rfl, rfl, rfl, rfl, rfl, rfl, rfl, rfl, rfl, rfl, rfl, rfl, rfl, rfl, -⟩ := hn
  clear f28 f29 f30
  obtain ⟨⟨cs7, ho7⟩, hb7⟩ := f31
  obtain ⟨A7, c7, rfl, hl7, hc7, -⟩ := ownsRow_shape ho7
  have E2 := hc.cell HX.out.c5.1 hp5
  have F2 := (hc.frozen HX.out.c5.1 hp5).trans HX.out.c5.2
  have X3 := Lib.hid ((HX.out.set_loops hc ho7 hb7).mono (T := S) (fun b _ hb => hb.elim id fun h => HS.out _ h))
  have G3 := Lib.hid (Chg.setCell (S := S) (hc.mono fun b _ hb => HL6.out b hb) (.inl HX.out.sp) (.slice A7 (m.nl + 1) c7) : Chg S w (w1.setCell ⟨p, 5, none⟩ (.slice A7 (m.nl + 1) c7)))
  have E3 := X3.out.c5.1
  have y1 : IntKind.i64.wrap (((m.nl + 1 : Nat) : Int) - 1) = m.nl := (IntWalk.i64_in _ (by omega)).trans (by omega)
  clear ho7 hb7
  simp only [List.length_cons, List.length_nil, List.drop_succ_cons, List.drop_zero, Nat.zero_add]
  go_wp2
  go_ret
  exact ⟨by simp, ⟨_, X3.out⟩, G3.out⟩
end Go.Proofs.YtiiodfcbpmkodaaGreat
