/- The reference's machine: a loop is made. No condition. An append of numbers in a region that draws its order. No condition. The reference moves the loops of a needle. No condition. A list that lies off the machine is put on a needle. No condition. The reference's carriers in one contract; what an operation that makes a loop leaves. No condition. -/
import Derived.Test.YtplabnjdhkmmkaaPF14
section
set_option linter.unusedSimpArgs false
set_option linter.unusedVariables false
set_option maxRecDepth 100000
set_option maxHeartbeats 8000000
namespace Go.Proofs.Ytplabnjdhkmmkaa
open Go.ChangeShapes Go.WideShapes Go.ChangeAt Go.RowKit
attribute [local go_sem ↓] Go.wp_at_zero Go.wp_at_succ
theorem par_up {w w' : World} {n : Nat} {v : Value} {ps : List Int} (h : Ints w (New n w.heap.size) v ps) (g : Up w w') : Ints w' (New n w'.heap.size) v ps := (h.up g).mono fun b _ hb => ⟨hb.1, Nat.lt_of_lt_of_le hb.2 g.size⟩
theorem par_keep {T : Nat → Prop} {w w' : World} {n : Nat} {v : Value} {ps : List Int} (h : Ints w (New n w.heap.size) v ps) (g : Chg T w w') (hT : ∀ b, n ≤ b → ¬ T b) : Ints w' (New n w'.heap.size) v ps := (h.keep g (fun b _ hb => hT b hb.1)).mono fun b _ hb => ⟨hb.1, Nat.lt_of_lt_of_le hb.2 g.size⟩
theorem l07Make_any (w : World) {S : Nat → Prop} {K p : Nat} {m : MachM} {F B C L D : Value} {fs bs : List Value} (h : MachX w S K p m F B C L D fs bs) (hS : NewIn S w) (hi : MInv m) (bo oi : Nat) (k d fb fa tb ta car rk : Int) (hO : OpC w bo oi ⟨k, d, fb, fa, tb, ta, car, rk⟩) (hb : ¬ S bo) (h4 : m.nl < 300) (Sp : Nat → Prop) (pv : Value) (ps : List Int) (hp : Ints w Sp pv ps) (hpl : ps.length ≤ 4) (hd : ∀ b, L.ownBlock = some b → ¬ Sp b) :
    Calls Try.prog 92 #[.pointer (some ⟨p, 0, none⟩), .pointer (some ⟨bo, oi, none⟩), pv] w fun e w' => e = .returned (.int .i64 m.nl) ∧ (∃ L', MachX w' S K p { m with nl := m.nl + 1 } F B C L' D fs bs) ∧ Chg S w w' := by
  obtain ⟨csL, hL, hI⟩ := h.ps
  obtain ⟨A5, c5, rfl, hl5, hc5, -⟩ := ownsRow_shape hL
  have HL := Lib.hid hL
  have HI := Lib.hid hI
  clear hL hI
  have hp5 : ¬ (Value.slice A5 m.nl c5).ownBlock = some p := fun e => h.off_p (Value.slice A5 m.nl c5) (by simp) p e rfl
  have HL5 := Lib.hid (fun x e => (HL.out.lt x e).2 : ∀ x, (Value.slice A5 m.nl c5).ownBlock = some x → x < w.heap.size)
  have HL6 := Lib.hid (h.own (Value.slice A5 m.nl c5) (by simp) : ∀ x, (Value.slice A5 m.nl c5).ownBlock = some x → S x)
  have hb5 : ¬ (Value.slice A5 m.nl c5).ownBlock = some bo := fun e => hb (HL6.out _ e)
  have HX := Lib.hid h
  have HS := Lib.hid hS
  have HO := Lib.hid hO
  have HP := Lib.hid hp
  have HD := Lib.hid hd
  clear h hS hO hp hd hi
  go_enter Try.func92, Try.ntmps92
  go_wp2
  refine wp_region_l 47 (fun b => (Value.slice A5 m.nl c5).ownBlock = some b) 31 [kon (.pointer (some ⟨p, 0, none⟩)), kon (.pointer (some ⟨p, 0, none⟩)), kon (.pointer (some ⟨p, 0, none⟩)), kon (.pointer (some ⟨p, 5, none⟩)), kon (.slice A5 m.nl c5), kon (.pointer (some ⟨bo, oi, none⟩)), kon (.pointer (some ⟨bo, oi, none⟩)), kon (.pointer (some ⟨bo, oi, none⟩)), kon (.int .i64 k), kon (.pointer (some ⟨bo, oi, none⟩)), kon (.pointer (some ⟨bo, oi, none⟩)), kon (.pointer (some ⟨bo, oi + 6, none⟩)), kon (.int .i64 car), kon (.pointer (some ⟨bo, oi, none⟩)), kon (.pointer (some ⟨bo, oi, none⟩)), kon (.pointer (some ⟨bo, oi + 2, none⟩)), kon (.pointer (some ⟨bo, oi + 2, none⟩)), kon (.int .i64 fb), kon (.pointer (some ⟨bo, oi, none⟩)), kon (.pointer (some ⟨bo, oi, none⟩)), kon (.pointer (some ⟨bo, oi + 2, none⟩)), kon (.pointer (some ⟨bo, oi + 2 + 1, none⟩)), kon (.int .i64 fa), kon (.pointer (some ⟨bo, oi, none⟩)), kon (.pointer (some ⟨bo, oi, none⟩)), kon (.pointer (some ⟨bo, oi + 1, none⟩)), kon (.int .i64 d), kon (pv), (fun v w' => ∃ A c, v = .slice A ps.length c ∧ Ints w' (New w.heap.size w'.heap.size) (.slice A ps.length c) ps), (fun v w' => ∃ A c, v = .agg (infoC k car fb fa d (.slice A ps.length c)) ∧ Ints w' (New w.heap.size w'.heap.size) (.slice A ps.length c) ps), (fun v w' => ∃ b A c, v = .slice (some ⟨b, 0, none⟩) 1 1 ∧ (∀ j u, (infoC k car fb fa d (.slice A ps.length c))[j]? = some u → w'.cell? ⟨b, j, none⟩ = some u) ∧ ¬ (Value.slice A5 m.nl c5).ownBlock = some b ∧ Ints w' (New w.heap.size w'.heap.size) (.slice A ps.length c) ps), (fun v w' => ∃ A c n1, w'.ownsRow 0 118 6 v (m.nl + 1) (csL ++ (infoC k car fb fa d (.slice A ps.length c)).toList) ∧ Ints w' (New w.heap.size n1) (.slice A ps.length c) ps ∧ (w.heap.size ≤ n1 ∧ n1 ≤ w'.heap.size) ∧ (∀ b, v.ownBlock = some b → (Value.slice A5 m.nl c5).ownBlock = some b ∨ n1 ≤ b)), kon (.pointer (some ⟨p, 0, none⟩)), kon (.pointer (some ⟨p, 5, none⟩))] [(0, 7, []), (1, 8, []), (2, 9, [1]), (3, 10, [2]), (4, 11, [3]), (5, 12, []), (6, 13, [5]), (7, 14, [6]), (8, 15, [7]), (9, 16, []), (10, 17, [9]), (11, 18, [10]), (12, 19, [11]), (13, 20, []), (14, 21, [13]), (15, 22, [14]), (16, 23, [15]), (17, 24, [16]), (18, 25, []), (19, 26, [18]), (20, 27, [19]), (21, 28, [20]), (22, 29, [21]), (23, 30, []), (24, 31, [23]), (25, 32, [24]), (26, 33, [25]), (27, 34, []), (28, 35, [27]), (29, 36, [8, 12, 17, 22, 26, 28]), (30, 37, [29]), (31, 38, [4, 30, 28]), (32, 39, [0, 0, 1, 2, 3, 4, 5, 6, 7, 8, 9, 10, 11, 12, 13, 14, 15, 16, 17, 18, 19, 20, 21, 22, 23, 24, 25, 26, 27, 28, 29, 30, 31]), (33, 40, [32, 0, 1, 2, 3, 4, 5, 6, 7, 8, 9, 10, 11, 12, 13, 14, 15, 16, 17, 18, 19, 20, 21, 22, 23, 24, 25, 26, 27, 28, 29, 30, 31])] (by kernel_rfl) (by kernel_rfl) (by kernel_rfl) rfl ?_ ?_ ?_
  · exact ⟨(keeps_kon _), ⟨(keeps_kon _), ⟨(keeps_kon _), ⟨(keeps_kon _), ⟨(keeps_kon _), ⟨(keeps_kon _), ⟨(keeps_kon _), ⟨(keeps_kon _), ⟨(keeps_kon _), ⟨(keeps_kon _), ⟨(keeps_kon _), ⟨(keeps_kon _), ⟨(keeps_kon _), ⟨(keeps_kon _), ⟨(keeps_kon _), ⟨(keeps_kon _), ⟨(keeps_kon _), ⟨(keeps_kon _), ⟨(keeps_kon _), ⟨(keeps_kon _), ⟨(keeps_kon _), ⟨(keeps_kon _), ⟨(keeps_kon _), ⟨(keeps_kon _), ⟨(keeps_kon _), ⟨(keeps_kon _), ⟨(keeps_kon _), ⟨(keeps_kon _), ⟨(fun v w1 w2 ⟨A, c, e, h1⟩ k => ⟨A, c, e, par_up h1 k⟩), ⟨(fun v w1 w2 ⟨A, c, e, h1⟩ k => ⟨A, c, e, par_up h1 k⟩), ⟨(fun v w1 w2 ⟨b, A, c, e, h1, h2, h3⟩ k => ⟨b, A, c, e, fun j u hu => k.cell (h1 j u hu) id, h2, par_up h3 k⟩), ⟨(fun v w1 w2 ⟨A, c, n1, h1, h2, h3, h4⟩ k => ⟨A, c, n1, rowKept h1 k (fun _ _ => id), h2.up k, ⟨h3.1, Nat.le_trans h3.2 k.size⟩, h4⟩), ⟨(keeps_kon _), ⟨(keeps_kon _), trivial⟩⟩⟩⟩⟩⟩⟩⟩⟩⟩⟩⟩⟩⟩⟩⟩⟩⟩⟩⟩⟩⟩⟩⟩⟩⟩⟩⟩⟩⟩⟩⟩⟩⟩
  · exact ⟨.inr (keeps_kon _), ⟨.inr (keeps_kon _), ⟨.inr (keeps_kon _), ⟨.inr (keeps_kon _), ⟨.inr (keeps_kon _), ⟨.inr (keeps_kon _), ⟨.inr (keeps_kon _), ⟨.inr (keeps_kon _), ⟨.inr (keeps_kon _), ⟨.inr (keeps_kon _), ⟨.inr (keeps_kon _), ⟨.inr (keeps_kon _), ⟨.inr (keeps_kon _), ⟨.inr (keeps_kon _), ⟨.inr (keeps_kon _), ⟨.inr (keeps_kon _), ⟨.inr (keeps_kon _), ⟨.inr (keeps_kon _), ⟨.inr (keeps_kon _), ⟨.inr (keeps_kon _), ⟨.inr (keeps_kon _), ⟨.inr (keeps_kon _), ⟨.inr (keeps_kon _), ⟨.inr (keeps_kon _), ⟨.inr (keeps_kon _), ⟨.inr (keeps_kon _), ⟨.inr (keeps_kon _), ⟨.inr (keeps_kon _), ⟨.inr (fun v w1 w2 ⟨A, c, e, h1⟩ k => ⟨A, c, e, par_keep h1 k (fun b h e => by have := HL5.out b e; omega)⟩), ⟨.inr (fun v w1 w2 ⟨A, c, e, h1⟩ k => ⟨A, c, e, par_keep h1 k (fun b h e => by have := HL5.out b e; omega)⟩), ⟨.inr (fun v w1 w2 ⟨b, A, c, e, h1, h2, h3⟩ k => ⟨b, A, c, e, fun j u hu => k.cell (h1 j u hu) h2, h2, par_keep h3 k (fun b h e => by have := HL5.out b e; omega)⟩), ⟨.inl rfl, ⟨.inr (keeps_kon _), ⟨.inr (keeps_kon _), trivial⟩⟩⟩⟩⟩⟩⟩⟩⟩⟩⟩⟩⟩⟩⟩⟩⟩⟩⟩⟩⟩⟩⟩⟩⟩⟩⟩⟩⟩⟩⟩⟩⟩⟩
  refine ⟨fun w1 hc _ hn => ?_, fun v0 => ?_⟩
  · refine grow_same (v := .pointer (some ⟨p, 0, none⟩)) ?_ ?_
    exact x_move (.tmp 0) rfl rfl
    rfl
  refine ⟨fun w1 hc _ hn => ?_, fun v1 => ?_⟩
  · refine grow_same (v := .pointer (some ⟨p, 0, none⟩)) ?_ ?_
    exact x_move (.tmp 0) rfl rfl
    rfl
  refine ⟨fun w1 hc _ hn => ?_, fun v2 => ?_⟩
  · obtain rfl : (.pointer (some ⟨p, 0, none⟩) : Value) = v1 := Eq.symm hn.1
    refine grow_same (v := .pointer (some ⟨p, 0, none⟩)) ?_ ?_
    exact x_nil (p := ⟨p, 0, none⟩) (.tmp 8) rfl rfl
    rfl
  refine ⟨fun w1 hc _ hn => ?_, fun v3 => ?_⟩
  · obtain rfl : (.pointer (some ⟨p, 0, none⟩) : Value) = v2 := Eq.symm hn.1
    refine grow_same (v := .pointer (some ⟨p, 5, none⟩)) ?_ ?_
    exact x_field (q := .pointer (some ⟨p, 0, none⟩)) 37 (.tmp 9) 5 (by rfl) (by rfl) (by exact fa_m5 _ _)
    rfl
  refine ⟨fun w1 hc _ hn => ?_, fun v4 => ?_⟩
  · obtain rfl : (.pointer (some ⟨p, 5, none⟩) : Value) = v3 := Eq.symm hn.1
    refine grow_same (v := .slice A5 m.nl c5) ?_ ?_
    exact x_load (q := .pointer (some ⟨p, 5, none⟩)) 35 (.tmp 10) (by rfl) (by rfl) (by exact ld_infos _ _ _ (hc.cell HX.out.c5.1 hp5))
    rfl
  refine ⟨fun w1 hc _ hn => ?_, fun v5 => ?_⟩
  · refine grow_same (v := .pointer (some ⟨bo, oi, none⟩)) ?_ ?_
    exact x_move (.tmp 1) rfl rfl
    rfl
  refine ⟨fun w1 hc _ hn => ?_, fun v6 => ?_⟩
  · obtain rfl : (.pointer (some ⟨bo, oi, none⟩) : Value) = v5 := Eq.symm hn.1
    refine grow_same (v := .pointer (some ⟨bo, oi, none⟩)) ?_ ?_
    exact x_nil (p := ⟨bo, oi, none⟩) (.tmp 12) rfl rfl
    rfl
  refine ⟨fun w1 hc _ hn => ?_, fun v7 => ?_⟩
  · obtain rfl : (.pointer (some ⟨bo, oi, none⟩) : Value) = v6 := Eq.symm hn.1
    refine grow_same (v := .pointer (some ⟨bo, oi, none⟩)) ?_ ?_
    exact x_field (q := .pointer (some ⟨bo, oi, none⟩)) 76 (.tmp 13) 0 (by rfl) (by rfl) (by exact fa_o0 _ _ _)
    rfl
  refine ⟨fun w1 hc _ hn => ?_, fun v8 => ?_⟩
  · obtain rfl : (.pointer (some ⟨bo, oi, none⟩) : Value) = v7 := Eq.symm hn.1
    refine grow_same (v := .int .i64 k) ?_ ?_
    exact x_load (q := .pointer (some ⟨bo, oi, none⟩)) 2 (.tmp 14) (by rfl) (by rfl) (by exact ld_int _ _ _ (hc.cell HO.out.c0 (hb5)))
    rfl
  refine ⟨fun w1 hc _ hn => ?_, fun v9 => ?_⟩
  · refine grow_same (v := .pointer (some ⟨bo, oi, none⟩)) ?_ ?_
    exact x_move (.tmp 1) rfl rfl
    rfl
  refine ⟨fun w1 hc _ hn => ?_, fun v10 => ?_⟩
  · obtain rfl : (.pointer (some ⟨bo, oi, none⟩) : Value) = v9 := Eq.symm hn.1
    refine grow_same (v := .pointer (some ⟨bo, oi, none⟩)) ?_ ?_
    exact x_nil (p := ⟨bo, oi, none⟩) (.tmp 16) rfl rfl
    rfl
  refine ⟨fun w1 hc _ hn => ?_, fun v11 => ?_⟩
  · obtain rfl : (.pointer (some ⟨bo, oi, none⟩) : Value) = v10 := Eq.symm hn.1
    refine grow_same (v := .pointer (some ⟨bo, oi + 6, none⟩)) ?_ ?_
    exact x_field (q := .pointer (some ⟨bo, oi, none⟩)) 76 (.tmp 17) 4 (by rfl) (by rfl) (by exact fa_o4 _ _ _)
    rfl
  refine ⟨fun w1 hc _ hn => ?_, fun v12 => ?_⟩
  · obtain rfl : (.pointer (some ⟨bo, oi + 6, none⟩) : Value) = v11 := Eq.symm hn.1
    refine grow_same (v := .int .i64 car) ?_ ?_
    exact x_load (q := .pointer (some ⟨bo, oi + 6, none⟩)) 2 (.tmp 18) (by rfl) (by rfl) (by exact ld_int _ _ _ (hc.cell HO.out.c6 (hb5)))
    rfl
  refine ⟨fun w1 hc _ hn => ?_, fun v13 => ?_⟩
  · refine grow_same (v := .pointer (some ⟨bo, oi, none⟩)) ?_ ?_
    exact x_move (.tmp 1) rfl rfl
    rfl
  refine ⟨fun w1 hc _ hn => ?_, fun v14 => ?_⟩
  · obtain rfl : (.pointer (some ⟨bo, oi, none⟩) : Value) = v13 := Eq.symm hn.1
    refine grow_same (v := .pointer (some ⟨bo, oi, none⟩)) ?_ ?_
    exact x_nil (p := ⟨bo, oi, none⟩) (.tmp 20) rfl rfl
    rfl
  refine ⟨fun w1 hc _ hn => ?_, fun v15 => ?_⟩
  · obtain rfl : (.pointer (some ⟨bo, oi, none⟩) : Value) = v14 := Eq.symm hn.1
    refine grow_same (v := .pointer (some ⟨bo, oi + 2, none⟩)) ?_ ?_
    exact x_field (q := .pointer (some ⟨bo, oi, none⟩)) 76 (.tmp 21) 2 (by rfl) (by rfl) (by exact fa_o2 _ _ _)
    rfl
  refine ⟨fun w1 hc _ hn => ?_, fun v16 => ?_⟩
  · obtain rfl : (.pointer (some ⟨bo, oi + 2, none⟩) : Value) = v15 := Eq.symm hn.1
    refine grow_same (v := .pointer (some ⟨bo, oi + 2, none⟩)) ?_ ?_
    exact x_field (q := .pointer (some ⟨bo, oi + 2, none⟩)) 74 (.tmp 22) 0 (by rfl) (by rfl) (by exact fa_n0 _ _ _)
    rfl
  refine ⟨fun w1 hc _ hn => ?_, fun v17 => ?_⟩
  · obtain rfl : (.pointer (some ⟨bo, oi + 2, none⟩) : Value) = v16 := Eq.symm hn.1
    refine grow_same (v := .int .i64 fb) ?_ ?_
    exact x_load (q := .pointer (some ⟨bo, oi + 2, none⟩)) 2 (.tmp 23) (by rfl) (by rfl) (by exact ld_int _ _ _ (hc.cell HO.out.c2 (hb5)))
    rfl
  refine ⟨fun w1 hc _ hn => ?_, fun v18 => ?_⟩
  · refine grow_same (v := .pointer (some ⟨bo, oi, none⟩)) ?_ ?_
    exact x_move (.tmp 1) rfl rfl
    rfl
  refine ⟨fun w1 hc _ hn => ?_, fun v19 => ?_⟩
  · obtain rfl : (.pointer (some ⟨bo, oi, none⟩) : Value) = v18 := Eq.symm hn.1
    refine grow_same (v := .pointer (some ⟨bo, oi, none⟩)) ?_ ?_
    exact x_nil (p := ⟨bo, oi, none⟩) (.tmp 25) rfl rfl
    rfl
  refine ⟨fun w1 hc _ hn => ?_, fun v20 => ?_⟩
  · obtain rfl : (.pointer (some ⟨bo, oi, none⟩) : Value) = v19 := Eq.symm hn.1
    refine grow_same (v := .pointer (some ⟨bo, oi + 2, none⟩)) ?_ ?_
    exact x_field (q := .pointer (some ⟨bo, oi, none⟩)) 76 (.tmp 26) 2 (by rfl) (by rfl) (by exact fa_o2 _ _ _)
    rfl
  refine ⟨fun w1 hc _ hn => ?_, fun v21 => ?_⟩
  · obtain rfl : (.pointer (some ⟨bo, oi + 2, none⟩) : Value) = v20 := Eq.symm hn.1
    refine grow_same (v := .pointer (some ⟨bo, oi + 2 + 1, none⟩)) ?_ ?_
    exact x_field (q := .pointer (some ⟨bo, oi + 2, none⟩)) 74 (.tmp 27) 1 (by rfl) (by rfl) (by exact fa_n1 _ _ _)
    rfl
  refine ⟨fun w1 hc _ hn => ?_, fun v22 => ?_⟩
  · obtain rfl : (.pointer (some ⟨bo, oi + 2 + 1, none⟩) : Value) = v21 := Eq.symm hn.1
    refine grow_same (v := .int .i64 fa) ?_ ?_
    exact x_load (q := .pointer (some ⟨bo, oi + 2 + 1, none⟩)) 2 (.tmp 28) (by rfl) (by rfl) (by exact ld_int _ _ _ (hc.cell HO.out.c3 (hb5)))
    rfl
  refine ⟨fun w1 hc _ hn => ?_, fun v23 => ?_⟩
  · refine grow_same (v := .pointer (some ⟨bo, oi, none⟩)) ?_ ?_
    exact x_move (.tmp 1) rfl rfl
    rfl
  refine ⟨fun w1 hc _ hn => ?_, fun v24 => ?_⟩
  · obtain rfl : (.pointer (some ⟨bo, oi, none⟩) : Value) = v23 := Eq.symm hn.1
    refine grow_same (v := .pointer (some ⟨bo, oi, none⟩)) ?_ ?_
    exact x_nil (p := ⟨bo, oi, none⟩) (.tmp 30) rfl rfl
    rfl
  refine ⟨fun w1 hc _ hn => ?_, fun v25 => ?_⟩
  · obtain rfl : (.pointer (some ⟨bo, oi, none⟩) : Value) = v24 := Eq.symm hn.1
    refine grow_same (v := .pointer (some ⟨bo, oi + 1, none⟩)) ?_ ?_
    exact x_field (q := .pointer (some ⟨bo, oi, none⟩)) 76 (.tmp 31) 1 (by rfl) (by rfl) (by exact fa_o1 _ _ _)
    rfl
  refine ⟨fun w1 hc _ hn => ?_, fun v26 => ?_⟩
  · obtain rfl : (.pointer (some ⟨bo, oi + 1, none⟩) : Value) = v25 := Eq.symm hn.1
    refine grow_same (v := .int .i64 d) ?_ ?_
    exact x_load (q := .pointer (some ⟨bo, oi + 1, none⟩)) 2 (.tmp 32) (by rfl) (by rfl) (by exact ld_int _ _ _ (hc.cell HO.out.c1 (hb5)))
    rfl
  refine ⟨fun w1 hc _ hn => ?_, fun v27 => ?_⟩
  · refine grow_same (v := pv) ?_ ?_
    exact x_move (.tmp 2) rfl rfl
    rfl
  refine ⟨fun w1 hc _ hn => ?_, fun v28 => ?_⟩
  · obtain rfl : (pv : Value) = v27 := Eq.symm hn.1
    refine grow_call (f := 27) (args := #[pv]) (x_call #[.tmp 34] #[23] Try.func27 (by rfl) (by rfl) (by rfl) (by rfl) (by simp only [List.map_toArray, List.map_cons, List.map_nil]; rfl)) ?_
    refine (ownI_any w1 Sp pv ps (HP.out.keep hc (fun b _ h1 h2 => HD.out b h2 h1)) (by omega)).mono ?_
    rintro e w' ⟨v', rfl, k1, g1⟩
    obtain ⟨A', c', rfl, -, -, -⟩ := k1.ints.shape
    exact ⟨_, rfl, rg_up g1, _, _, rfl, k1.ints.mono (fun b _ hb => ⟨Nat.le_trans hc.size hb.1, hb.2⟩)⟩
  refine ⟨fun w1 hc _ hn => ?_, fun v29 => ?_⟩
  · obtain rfl : (.int .i64 k : Value) = v8 := Eq.symm hn.1
    obtain rfl : (.int .i64 car : Value) = v12 := Eq.symm hn.2.1
    obtain rfl : (.int .i64 fb : Value) = v17 := Eq.symm hn.2.2.1
    obtain rfl : (.int .i64 fa : Value) = v22 := Eq.symm hn.2.2.2.1
    obtain rfl : (.int .i64 d : Value) = v26 := Eq.symm hn.2.2.2.2.1
    obtain ⟨A', c', rfl, hpi⟩ := hn.2.2.2.2.2.1
    exact grow_same (x_build 118 _ (by rfl) #[(0, .int .i64 k), (1, .int .i64 car), (2, .int .i64 fb), (3, .int .i64 fa), (4, .int .i64 d), (5, .slice A' ps.length c')] (by simp only [List.map_toArray, List.map_cons, List.map_nil]; rfl) (by exact bd_info _ _ _ _ _ _ _ _ _)) ⟨_, _, rfl, hpi⟩
  refine ⟨fun w1 hc _ hn => ?_, fun v30 => ?_⟩
  · obtain ⟨A', c', rfl, hpi⟩ := hn.1
    exact grow_ok (x_build1 35 (.tmp 36) (by rfl) (by rfl) (by exact bs_info _ _ _ _ _ _ _ _ _)) (rg_up ((Chg.refl _ _).alloc _)) ⟨_, _, _, rfl, fun j u hu => cell_atM rfl hu, fun e => (by have := HL5.out _ e; have := hc.size; omega), par_up hpi ((Chg.refl _ _).alloc _)⟩
  refine ⟨fun w1 hc hu hn => ?_, fun v31 => ?_⟩
  · obtain rfl : (.slice A5 m.nl c5 : Value) = v4 := Eq.symm hn.1
    obtain ⟨b9, A', c', rfl, hb9, hn9, hpi⟩ := hn.2.1
    obtain ⟨i0, hi0, hz0, hz1, hz2⟩ := info_parts infoInfo
    refine grow_ex (x_append (.tmp 11) (.tmp 37) 35 (by rfl) 0 118 i0 _ 6 _ Try.underlying35 hi0 hz0 hz1 hz2 rfl (by decide) (.slice A5 m.nl c5) m.nl csL (by rfl) (rowKept HL.out (hu rfl) (fun _ _ => id)) ⟨b9, 0, none⟩ 1 1 (infoC k car fb fa d (.slice A' ps.length c')).toList (by rfl) (by rfl) ?_ ?_ (by unfold Go.maxLen; omega) (by omega) (Nat.zero_le _)) ?_
    · intro j u hu
      rw [add_zero]
      exact hb9 j u (by simpa using hu)
    · intro u hu
      simp at hu
      rcases hu with rfl | rfl | rfl | rfl | rfl | rfl <;> rfl
    rintro v' w' ⟨h1, h2, h3⟩
    exact ⟨rg_eff (Chg.of_grown h2), A', c', w1.heap.size, h1, hpi.keep (Chg.of_grown h2) (fun b _ hb e => by have := HL5.out b e; have := hb.1; omega), ⟨hc.size, (Chg.of_grown h2).size⟩, h3⟩
  refine ⟨fun w1 hc _ hn => ?_, fun v32 => ?_⟩
  · obtain rfl : (.pointer (some ⟨p, 0, none⟩) : Value) = v0 := Eq.symm hn.1
    refine grow_same (v := .pointer (some ⟨p, 0, none⟩)) ?_ ?_
    exact x_nil (p := ⟨p, 0, none⟩) (.tmp 7) rfl rfl
    rfl
  refine ⟨fun w1 hc _ hn => ?_, fun v33 => ?_⟩
  · obtain rfl : (.pointer (some ⟨p, 0, none⟩) : Value) = v32 := Eq.symm hn.1
    refine grow_same (v := .pointer (some ⟨p, 5, none⟩)) ?_ ?_
    exact x_field (q := .pointer (some ⟨p, 0, none⟩)) 37 (.tmp 39) 5 (by rfl) (by rfl) (by exact fa_m5 _ _)
    rfl
  intro w1 hc hn
  obtain ⟨rfl, rfl, f31, f30, f29, f28, rfl, rfl, rfl, rfl, rfl, rfl, rfl, rfl, rfl, rfl, rfl, rfl, rfl, rfl, rfl, rfl, rfl, rfl, rfl, rfl, rfl, rfl, rfl, rfl, rfl, rfl, rfl, rfl, -⟩ := hn
  clear f28 f29 f30
  obtain ⟨A8, c8, n8, ho7, hi7, hz7, hb7⟩ := f31
  obtain ⟨A7, c7, rfl, hl7, hc7, -⟩ := ownsRow_shape ho7
  have E2 := hc.cell HX.out.c5.1 hp5
  have F2 := (hc.frozen HX.out.c5.1 hp5).trans HX.out.c5.2
  have X3 := Lib.hid ((HX.out.set_loops hc ho7 (fun b hb => (hb7 b hb).imp id fun h => Nat.le_trans hz7.1 h) ⟨csL, HL.out, HI.out, k, car, fb, fa, d, A8, c8, ps, New w.heap.size n8, rfl, hi7, hpl, fun x hx => ⟨hx.1, Nat.lt_of_lt_of_le hx.2 hz7.2, fun e => by have := hx.1; have := hx.2; rcases hb7 x e with h9 | h9; (have := HL5.out x h9; omega); omega⟩⟩ rfl).mono (T := S) (fun b _ hb => hb.elim id fun h => HS.out _ h))
  have G3 := Lib.hid (Chg.setCell (S := S) (hc.mono fun b _ hb => HL6.out b hb) (.inl HX.out.sp) (.slice A7 (m.nl + 1) c7) : Chg S w (w1.setCell ⟨p, 5, none⟩ (.slice A7 (m.nl + 1) c7)))
  have E3 := X3.out.c5.1
  have y1 : IntKind.i64.wrap (((m.nl + 1 : Nat) : Int) - 1) = m.nl := (IntWalk.i64_in _ (by omega)).trans (by omega)
  clear ho7 hb7 hi7 hz7
  simp only [List.length_cons, List.length_nil, List.drop_succ_cons, List.drop_zero, Nat.zero_add]
  go_wp2
  go_ret
  exact ⟨by simp, ⟨_, X3.out⟩, G3.out⟩
end Go.Proofs.Ytplabnjdhkmmkaa
end
section
set_option linter.unusedSimpArgs false
set_option linter.unusedVariables false
set_option maxRecDepth 100000
set_option maxHeartbeats 4000000
namespace Go.Proofs.Ytplabnjdhkmmkaa
open Go.ChangeShapes Go.WideShapes Go.ChangeAt Go.RowKit
theorem wp_app_own2M {P : Program} {w : World} {o : Oper} {a : Act} {K : Act → World → Prop} {Q : Exit → Act → World → Prop} (s x : Operand) (t : TypeId)
    (ho : o.op = .call { callee := .builtin .append, args := #[s, x], argTypes := #[t, t] })
    (base : Nat) (e : TypeId) (i : TypeInfo) (z : Value) (size bytes : Nat) (ht : P.underlying t = some (.slice e)) (hi : P.info? e = some i) (hz : i.zero = some z)
    (hsize : i.size = size) (hby : i.bytes = bytes) (hzs : z.cells.size = size) (hsz : 0 < size)
    (v : Value) (n : Nat) (xs : List Value) (hs : a.eval s = v) (hown : w.ownsRow base e size v n xs)
    (ad : Addr) (m c : Nat) (news : List Value) (hx : a.eval x = .slice (some ad) m c) (hl : news.length = m * size) (hnews : ∀ j u, news[j]? = some u → w.cell? (ad.add j) = some u) (h1 : ∀ u ∈ news, u.oneCell' = true)
    (h63 : n + m ≤ maxLen) (hbytes : (n + m) * bytes ≤ 140737488355328) (hbase : base ≤ w.heap.size)
    (h : ∀ v' w', w'.ownsRow base e size v' (n + m) (xs ++ news) → w.grownBy w' v.ownBlock → (∀ g, v'.ownBlock = some g → v.ownBlock = some g ∨ w.heap.size ≤ g) → K (a.put o.dst v') w') : o.wp P a w K Q := by
  obtain ⟨v', w', hr, h2, h3, _⟩ := run_append_own (P := P) w base t o.type e i z size bytes ht hi hz hsize hby hzs hsz v n xs hown ad m c news hl hnews h1 h63 hbytes hbase
  have h5 := append_block (P := P) base t o.type e i z size bytes ht hi hz hsize hby hzs hsz v n xs hown ad m c news hl hnews h1 h63 hbytes hr
  unfold Oper.wp execOp
  simp only [ho, resolve, invoke, builtin, Sem.run_bind, Sem.run_pure, Result.andThen_ok, List.map_toArray, List.map_cons, List.map_nil, hs, hx, hr]
  exact h v' w' h2 h3 h5
theorem step_appIntsM {w : World} {ops : Array Oper} {o : Oper} {a : Act} {K : Act → World → Prop} {E : Prop} {Q : Exit → Act → World → Prop} (hgd : o.guard = none) (s x : Operand)
    (ho : o.op = .call { callee := .builtin .append, args := #[s, x], argTypes := #[23, 23] })
    (base : Nat) (v : Value) (xs : List Int) (hs : a.eval s = v) (hown : OwnI w base v xs)
    (S : Nat → Prop) (u : Value) (ys : List Int) (hx : a.eval x = u) (hsrc : Ints w S u ys) (hlen : xs.length + ys.length ≤ 1099511627776) (hbase : base ≤ w.heap.size)
    (h : ∀ v' w', OwnI w' base v' (xs ++ ys) → Chg (fun b => v.ownBlock = some b) w w' → (∀ b, v'.ownBlock = some b → v.ownBlock = some b ∨ w.heap.size ≤ b) → Chg (fun k => base ≤ k) w w' → K (a.put o.dst v') w') :
    if Region.wanted o (yielded ops a.tmps) = true then Oper.wp Try.prog o a w K Q else E := by
  have hw : Region.wanted o (yielded ops a.tmps) = true := by simp [Region.wanted, hgd]
  rw [if_pos hw]
  obtain ⟨i0, hi, hz0, hz1, hz2⟩ := info_parts info2
  obtain ⟨A, c, rfl, hlc, hcm, hok, hr, hnn⟩ := hsrc
  have hok' : ∀ y ∈ xs ++ ys, I64 y := fun y hy => (List.mem_append.1 hy).elim (hown.2 y) (hok y)
  cases A with
  | none =>
    have hy : ys = [] := by
      rcases Nat.eq_zero_or_pos ys.length with h0 | h0
      · exact List.eq_nil_of_length_eq_zero h0
      · obtain ⟨b, oo, h1, _⟩ := hr h0
        cases h1
    subst hy
    obtain rfl := hnn rfl
    have hrun := run_append_owned_none (P := Try.prog) (w := w) base 23 o.type 2 i0 1 Try.underlying23 hi v xs.length _ hown.1
    have hK := h v w (by simpa using hown) (Chg.refl _ _) (fun b hb => .inl hb) (Chg.refl _ _)
    unfold Oper.wp
    simp [execOp, ho, resolve, invoke, builtin, hs, hx, hrun, Result.andThen]
    exact hK
  | some ad =>
    have hnews : ∀ j q, (ys.map (Value.int .i64))[j]? = some q → w.cell? (ad.add j) = some q := by
      intro j q hq
      obtain ⟨hj, he⟩ := List.getElem?_eq_some_iff.1 hq
      have hj' : j < ys.length := by simpa using hj
      obtain ⟨b, oo, h1, _, _, hc⟩ := hr (by omega)
      injection h1 with h1
      subst h1
      have := (hc j hj').1
      rw [← he, List.getElem_map, ← this]
      unfold Addr.add
      by_cases h0 : j = 0 <;> simp [h0]
    refine wp_app_own2M (P := Try.prog) s x 23 ho base 2 i0 (.int .i64 0) 1 8 Try.underlying23 hi hz0 hz1 hz2 rfl (by decide) v xs.length _ hs hown.1 ad ys.length c (ys.map (Value.int .i64)) hx (by simp) hnews ?_ ?_ ?_ hbase ?_
    · intro q hq
      obtain ⟨y, _, rfl⟩ := List.mem_map.1 hq
      rfl
    · unfold Go.maxLen; omega
    · omega
    · intro v' w' h2 h3 h4
      exact h v' w' ⟨by simpa using h2, hok'⟩ (Chg.of_grown h3) h4 ((Chg.refl _ _).grown h3 fun k hk => .inl (hown.1.lt k hk).1)
theorem step_app_int {w : World} {ops : Array Oper} {o : Oper} {a : Act} {K : Act → World → Prop} {E : Prop} {Q : Exit → Act → World → Prop} (hgd : o.guard = none) (s x : Operand)
    (ho : o.op = .call { callee := .builtin .append, args := #[s, x], argTypes := #[23, 23] })
    (base : Nat) (v : Value) (xs : List Int) (hs : a.eval s = v) (hown : OwnI w base v xs) (g : Nat) (n : Int) (hx : a.eval x = .slice (some ⟨g, 0, none⟩) 1 1)
    (hc : w.cell? ⟨g, 0, none⟩ = some (.int .i64 n)) (hn : I64 n) (hlen : xs.length ≤ 1099511627776) (hbase : base ≤ w.heap.size)
    (h : ∀ v' w', OwnI w' base v' (xs ++ [n]) → Chg (fun b => v.ownBlock = some b) w w' → (∀ b, v'.ownBlock = some b → v.ownBlock = some b ∨ w.heap.size ≤ b) → Chg (fun k => base ≤ k) w w' → K (a.put o.dst v') w') :
    if Region.wanted o (yielded ops a.tmps) = true then Oper.wp Try.prog o a w K Q else E := by
  have hw : Region.wanted o (yielded ops a.tmps) = true := by simp [Region.wanted, hgd]
  rw [if_pos hw]
  obtain ⟨i0, hi, hz0, hz1, hz2⟩ := info_parts info2
  refine wp_app_own2M (P := Try.prog) s x 23 ho base 2 i0 (.int .i64 0) 1 8 Try.underlying23 hi hz0 hz1 hz2 rfl (by decide) v xs.length _ hs hown.1 ⟨g, 0, none⟩ 1 1 [.int .i64 n] hx rfl ?_ ?_ ?_ ?_ hbase ?_
  · intro j u hu
    cases j with
    | zero => simp only [List.getElem?_cons_zero, Option.some.injEq] at hu; subst hu; exact hc
    | succ j => simp at hu
  · intro u hu; simp at hu; subst hu; rfl
  · unfold Go.maxLen; omega
  · omega
  · intro v' w' h2 h3 h4
    refine h v' w' ⟨by simpa using h2, fun y hy => ?_⟩ (Chg.of_grown h3) h4 ((Chg.refl _ _).grown h3 fun k hk => .inl (hown.1.lt k hk).1)
    rcases List.mem_append.1 hy with h4 | h4
    · exact hown.2 y h4
    · simp at h4; subst h4; exact hn
theorem ownI_one {w : World} {g : Nat} {n : Int} (h : w.heap[g]? = some (.cells #[.int .i64 n] 2)) (hn : I64 n) : OwnI w 0 (.slice (some ⟨g, 0, none⟩) 1 1) [n] :=
  ⟨⟨rfl, .inr ⟨g, 1, _, rfl, Nat.zero_le _, h, Nat.le_refl _, by unfold Go.maxLen; omega, by simp, by simp⟩⟩, by simpa using hn⟩
end Go.Proofs.Ytplabnjdhkmmkaa
end
section
set_option linter.unusedSimpArgs false
set_option linter.unusedVariables false
set_option maxRecDepth 100000
set_option maxHeartbeats 8000000
namespace Go.Proofs.Ytplabnjdhkmmkaa
open Go.ChangeShapes Go.WideShapes Go.ChangeAt Go.RowKit
attribute [local go_sem ↓] Go.wp_at_zero Go.wp_at_succ
theorem move_rack12 (w : World) {S : Nat → Prop} {K p : Nat} {m : MachM} {F B C L D : Value} {fs bs : List Value} (h : MachX w S K p m F B C L D fs bs) (hS : NewIn S w) (hi : MInv m) (bo oi : Nat) (k d fa ta car rk : Int) (hO : OpC w bo oi ⟨k, d, 1, fa, 2, ta, car, rk⟩) (hb : ¬ S bo) (hfa : 0 ≤ fa ∧ fa ≤ 23) (hta : 0 ≤ ta ∧ ta ≤ 23) (hfw : fa < m.wd) (htw : ta < m.wd) (hxy : placeM 1 fa m.rack ≠ placeM 2 ta m.rack) :
    Calls Try.prog 67 #[.pointer (some ⟨p, 0, none⟩), .pointer (some ⟨bo, oi, none⟩)] w fun e w' => e = .returned (.int .i64 8) ∧ Up w w' := by
  have hnf : okN m 1 fa := ⟨by omega, hfa.1, hfw⟩
  have hnt : okN m 2 ta := ⟨by omega, hta.1, htw⟩
  obtain ⟨g1, u1, hH1, hV1⟩ := h.hold hi (b := 1) (a := fa) hnf
  obtain ⟨g2, u2, hH2, hV2⟩ := h.hold hi (b := 2) (a := ta) hnt
  have V1 := Lib.hid (show AtN F B fs bs 1 fa g1 u1 from hV1)
  have V2 := Lib.hid (show AtN F B fs bs 2 ta g2 u2 from hV2)
  clear hV1 hV2
  obtain ⟨A1, c1, rfl, hl1, hc1, -⟩ := hH1.own.ints.shape
  obtain ⟨A2, c2, rfl, hl2, hc2, -⟩ := hH2.own.ints.shape
  obtain ⟨l1, HL1⟩ : ∃ l1 : List Int, Hid (l1 = onM m 1 fa) := ⟨_, rfl⟩
  obtain ⟨l2, HL2⟩ : ∃ l2 : List Int, Hid (l2 = onM m 2 ta) := ⟨_, rfl⟩
  have hb1 := (hi.on_ 1 fa).1
  have hb2 := (hi.on_ 2 ta).1
  rw [← HL1.out] at hH1 V1 hl1 hb1
  rw [← HL2.out] at hH2 V2 hl2 hb2
  obtain ⟨x, Hx⟩ : ∃ x, Hid (placeM 1 fa m.rack = x) := ⟨_, rfl⟩
  obtain ⟨y, Hy⟩ : ∃ y, Hid (placeM 2 ta m.rack = y) := ⟨_, rfl⟩
  rw [Hx.out, Hy.out] at hxy
  have hrk := hi.rack
  have o2 := hO.c2
  have o3 : w.cell? ⟨bo, oi + 2 + 1, none⟩ = _ := hO.c3
  have o4 := hO.c4
  have o5 : w.cell? ⟨bo, oi + 4 + 1, none⟩ = _ := hO.c5
  dsimp only at o2 o3 o4 o5
  have HX := Lib.hid h
  have HI := Lib.hid hi
  have HS := Lib.hid hS
  have HO := Lib.hid hO
  have H1 := Lib.hid hH1
  have H2 := Lib.hid hH2
  have HN := Lib.hid hnf
  clear h hi hS hO hH1 hH2 hnf hnt
  go_enter Try.func67, Try.ntmps67
  go_wp2_with fail
  refine (l07On_any _ _ _ _ _ _ _ _ H1.out).mono ?_
  rintro e w1 ⟨rfl, g1⟩
  have hh := cc4 g1 o2 o3 o4 o5
  obtain ⟨o2, o3, o4, o5⟩ := hh
  have G1 := Lib.hid g1
  clear g1
  go_wp2_with fail
  refine (l07On_any _ _ _ _ _ _ _ _ (H2.out.up G1.out)).mono ?_
  rintro e w2 ⟨rfl, g2⟩
  have hh := cc4 g2 o2 o3 o4 o5
  obtain ⟨o2, o3, o4, o5⟩ := hh
  have G2 := Lib.hid (Chg.trans G1.out g2)
  clear g2 G1
  have hp1 := (HX.out.up G2.out).c1.1
  have q2 := up_cell o2
  have q3 := up_cell o3
  have q4 := up_cell o4
  have q5 := up_cell o5
  have q1 := up_cell hp1
  go_wp2
  refine wp_region_up (by kernel_rfl) (by kernel_rfl) ?_
  repeat (go_big_quiet_step (first | (with_reducible exact calls_up (l07Place_x _ 1 _ _ _ (by omega) (by omega) Hx.out)) | (with_reducible exact calls_up (l07Place_x _ 2 _ _ _ (by omega) (by omega) Hy.out))))
  refine wpQuiet_nil ?_
  rintro w3 ⟨u, hu⟩
  have G3 := Lib.hid (Chg.trans G2.out (hu ▸ u.up) : Up w w3)
  have o2 := Chg.cell (hu ▸ u.up : Up w2 w3) o2 id
  have o3 := Chg.cell (hu ▸ u.up : Up w2 w3) o3 id
  have o4 := Chg.cell (hu ▸ u.up : Up w2 w3) o4 id
  have o5 := Chg.cell (hu ▸ u.up : Up w2 w3) o5 id
  clear hu u q1 q2 q3 q4 q5 hp1 G2
  have t1 : (x != y) = true := by simpa using hxy
  have t2 : (x == y) = false := by simpa using hxy
  go_wp2
  go_ret
  exact ⟨rfl, G3.out⟩
theorem move_rack21 (w : World) {S : Nat → Prop} {K p : Nat} {m : MachM} {F B C L D : Value} {fs bs : List Value} (h : MachX w S K p m F B C L D fs bs) (hS : NewIn S w) (hi : MInv m) (bo oi : Nat) (k d fa ta car rk : Int) (hO : OpC w bo oi ⟨k, d, 2, fa, 1, ta, car, rk⟩) (hb : ¬ S bo) (hfa : 0 ≤ fa ∧ fa ≤ 23) (hta : 0 ≤ ta ∧ ta ≤ 23) (hfw : fa < m.wd) (htw : ta < m.wd) (hxy : placeM 2 fa m.rack ≠ placeM 1 ta m.rack) :
    Calls Try.prog 67 #[.pointer (some ⟨p, 0, none⟩), .pointer (some ⟨bo, oi, none⟩)] w fun e w' => e = .returned (.int .i64 8) ∧ Up w w' := by
  have hnf : okN m 2 fa := ⟨by omega, hfa.1, hfw⟩
  have hnt : okN m 1 ta := ⟨by omega, hta.1, htw⟩
  obtain ⟨g1, u1, hH1, hV1⟩ := h.hold hi (b := 2) (a := fa) hnf
  obtain ⟨g2, u2, hH2, hV2⟩ := h.hold hi (b := 1) (a := ta) hnt
  have V1 := Lib.hid (show AtN F B fs bs 2 fa g1 u1 from hV1)
  have V2 := Lib.hid (show AtN F B fs bs 1 ta g2 u2 from hV2)
  clear hV1 hV2
  obtain ⟨A1, c1, rfl, hl1, hc1, -⟩ := hH1.own.ints.shape
  obtain ⟨A2, c2, rfl, hl2, hc2, -⟩ := hH2.own.ints.shape
  obtain ⟨l1, HL1⟩ : ∃ l1 : List Int, Hid (l1 = onM m 2 fa) := ⟨_, rfl⟩
  obtain ⟨l2, HL2⟩ : ∃ l2 : List Int, Hid (l2 = onM m 1 ta) := ⟨_, rfl⟩
  have hb1 := (hi.on_ 2 fa).1
  have hb2 := (hi.on_ 1 ta).1
  rw [← HL1.out] at hH1 V1 hl1 hb1
  rw [← HL2.out] at hH2 V2 hl2 hb2
  obtain ⟨x, Hx⟩ : ∃ x, Hid (placeM 2 fa m.rack = x) := ⟨_, rfl⟩
  obtain ⟨y, Hy⟩ : ∃ y, Hid (placeM 1 ta m.rack = y) := ⟨_, rfl⟩
  rw [Hx.out, Hy.out] at hxy
  have hrk := hi.rack
  have o2 := hO.c2
  have o3 : w.cell? ⟨bo, oi + 2 + 1, none⟩ = _ := hO.c3
  have o4 := hO.c4
  have o5 : w.cell? ⟨bo, oi + 4 + 1, none⟩ = _ := hO.c5
  dsimp only at o2 o3 o4 o5
  have HX := Lib.hid h
  have HI := Lib.hid hi
  have HS := Lib.hid hS
  have HO := Lib.hid hO
  have H1 := Lib.hid hH1
  have H2 := Lib.hid hH2
  have HN := Lib.hid hnf
  clear h hi hS hO hH1 hH2 hnf hnt
  go_enter Try.func67, Try.ntmps67
  go_wp2_with fail
  refine (l07On_any _ _ _ _ _ _ _ _ H1.out).mono ?_
  rintro e w1 ⟨rfl, g1⟩
  have hh := cc4 g1 o2 o3 o4 o5
  obtain ⟨o2, o3, o4, o5⟩ := hh
  have G1 := Lib.hid g1
  clear g1
  go_wp2_with fail
  refine (l07On_any _ _ _ _ _ _ _ _ (H2.out.up G1.out)).mono ?_
  rintro e w2 ⟨rfl, g2⟩
  have hh := cc4 g2 o2 o3 o4 o5
  obtain ⟨o2, o3, o4, o5⟩ := hh
  have G2 := Lib.hid (Chg.trans G1.out g2)
  clear g2 G1
  have hp1 := (HX.out.up G2.out).c1.1
  have q2 := up_cell o2
  have q3 := up_cell o3
  have q4 := up_cell o4
  have q5 := up_cell o5
  have q1 := up_cell hp1
  go_wp2
  refine wp_region_up (by kernel_rfl) (by kernel_rfl) ?_
  repeat (go_big_quiet_step (first | (with_reducible exact calls_up (l07Place_x _ 2 _ _ _ (by omega) (by omega) Hx.out)) | (with_reducible exact calls_up (l07Place_x _ 1 _ _ _ (by omega) (by omega) Hy.out))))
  refine wpQuiet_nil ?_
  rintro w3 ⟨u, hu⟩
  have G3 := Lib.hid (Chg.trans G2.out (hu ▸ u.up) : Up w w3)
  have o2 := Chg.cell (hu ▸ u.up : Up w2 w3) o2 id
  have o3 := Chg.cell (hu ▸ u.up : Up w2 w3) o3 id
  have o4 := Chg.cell (hu ▸ u.up : Up w2 w3) o4 id
  have o5 := Chg.cell (hu ▸ u.up : Up w2 w3) o5 id
  clear hu u q1 q2 q3 q4 q5 hp1 G2
  have t1 : (x != y) = true := by simpa using hxy
  have t2 : (x == y) = false := by simpa using hxy
  go_wp2
  go_ret
  exact ⟨rfl, G3.out⟩
theorem move_empty12 (w : World) {S : Nat → Prop} {K p : Nat} {m : MachM} {F B C L D : Value} {fs bs : List Value} (h : MachX w S K p m F B C L D fs bs) (hS : NewIn S w) (hi : MInv m) (bo oi : Nat) (k d fa ta car rk : Int) (hO : OpC w bo oi ⟨k, d, 1, fa, 2, ta, car, rk⟩) (hb : ¬ S bo) (hfa : 0 ≤ fa ∧ fa ≤ 23) (hta : 0 ≤ ta ∧ ta ≤ 23) (hfw : fa < m.wd) (htw : ta < m.wd) (hxy : placeM 1 fa m.rack = placeM 2 ta m.rack) (hne : (onM m 1 fa).length = 0) :
    Calls Try.prog 67 #[.pointer (some ⟨p, 0, none⟩), .pointer (some ⟨bo, oi, none⟩)] w fun e w' => e = .returned (.int .i64 7) ∧ Up w w' := by
  have hnf : okN m 1 fa := ⟨by omega, hfa.1, hfw⟩
  have hnt : okN m 2 ta := ⟨by omega, hta.1, htw⟩
  obtain ⟨g1, u1, hH1, hV1⟩ := h.hold hi (b := 1) (a := fa) hnf
  obtain ⟨g2, u2, hH2, hV2⟩ := h.hold hi (b := 2) (a := ta) hnt
  have V1 := Lib.hid (show AtN F B fs bs 1 fa g1 u1 from hV1)
  have V2 := Lib.hid (show AtN F B fs bs 2 ta g2 u2 from hV2)
  clear hV1 hV2
  obtain ⟨A1, c1, rfl, hl1, hc1, -⟩ := hH1.own.ints.shape
  obtain ⟨A2, c2, rfl, hl2, hc2, -⟩ := hH2.own.ints.shape
  obtain ⟨l1, HL1⟩ : ∃ l1 : List Int, Hid (l1 = onM m 1 fa) := ⟨_, rfl⟩
  obtain ⟨l2, HL2⟩ : ∃ l2 : List Int, Hid (l2 = onM m 2 ta) := ⟨_, rfl⟩
  have hb1 := (hi.on_ 1 fa).1
  have hb2 := (hi.on_ 2 ta).1
  rw [← HL1.out] at hH1 V1 hl1 hb1 hne
  rw [← HL2.out] at hH2 V2 hl2 hb2
  obtain ⟨x, Hx⟩ : ∃ x, Hid (placeM 1 fa m.rack = x) := ⟨_, rfl⟩
  obtain ⟨y, Hy⟩ : ∃ y, Hid (placeM 2 ta m.rack = y) := ⟨_, rfl⟩
  rw [Hx.out, Hy.out] at hxy
  have hrk := hi.rack
  have o2 := hO.c2
  have o3 : w.cell? ⟨bo, oi + 2 + 1, none⟩ = _ := hO.c3
  have o4 := hO.c4
  have o5 : w.cell? ⟨bo, oi + 4 + 1, none⟩ = _ := hO.c5
  dsimp only at o2 o3 o4 o5
  have HX := Lib.hid h
  have HI := Lib.hid hi
  have HS := Lib.hid hS
  have HO := Lib.hid hO
  have H1 := Lib.hid hH1
  have H2 := Lib.hid hH2
  have HN := Lib.hid hnf
  clear h hi hS hO hH1 hH2 hnf hnt
  go_enter Try.func67, Try.ntmps67
  go_wp2_with fail
  refine (l07On_any _ _ _ _ _ _ _ _ H1.out).mono ?_
  rintro e w1 ⟨rfl, g1⟩
  have hh := cc4 g1 o2 o3 o4 o5
  obtain ⟨o2, o3, o4, o5⟩ := hh
  have G1 := Lib.hid g1
  clear g1
  go_wp2_with fail
  refine (l07On_any _ _ _ _ _ _ _ _ (H2.out.up G1.out)).mono ?_
  rintro e w2 ⟨rfl, g2⟩
  have hh := cc4 g2 o2 o3 o4 o5
  obtain ⟨o2, o3, o4, o5⟩ := hh
  have G2 := Lib.hid (Chg.trans G1.out g2)
  clear g2 G1
  have hp1 := (HX.out.up G2.out).c1.1
  have q2 := up_cell o2
  have q3 := up_cell o3
  have q4 := up_cell o4
  have q5 := up_cell o5
  have q1 := up_cell hp1
  go_wp2
  refine wp_region_up (by kernel_rfl) (by kernel_rfl) ?_
  repeat (go_big_quiet_step (first | (with_reducible exact calls_up (l07Place_x _ 1 _ _ _ (by omega) (by omega) Hx.out)) | (with_reducible exact calls_up (l07Place_x _ 2 _ _ _ (by omega) (by omega) Hy.out))))
  refine wpQuiet_nil ?_
  rintro w3 ⟨u, hu⟩
  have G3 := Lib.hid (Chg.trans G2.out (hu ▸ u.up) : Up w w3)
  have o2 := Chg.cell (hu ▸ u.up : Up w2 w3) o2 id
  have o3 := Chg.cell (hu ▸ u.up : Up w2 w3) o3 id
  have o4 := Chg.cell (hu ▸ u.up : Up w2 w3) o4 id
  have o5 := Chg.cell (hu ▸ u.up : Up w2 w3) o5 id
  clear hu u q1 q2 q3 q4 q5 hp1 G2
  have t1 : (x != y) = false := by simpa using hxy
  have t2 : (x == y) = true := by simpa using hxy
  have t3 : ((l1.length : Int) == 0) = true := by simpa using hne
  go_wp2
  go_ret
  exact ⟨rfl, G3.out⟩
theorem move_empty21 (w : World) {S : Nat → Prop} {K p : Nat} {m : MachM} {F B C L D : Value} {fs bs : List Value} (h : MachX w S K p m F B C L D fs bs) (hS : NewIn S w) (hi : MInv m) (bo oi : Nat) (k d fa ta car rk : Int) (hO : OpC w bo oi ⟨k, d, 2, fa, 1, ta, car, rk⟩) (hb : ¬ S bo) (hfa : 0 ≤ fa ∧ fa ≤ 23) (hta : 0 ≤ ta ∧ ta ≤ 23) (hfw : fa < m.wd) (htw : ta < m.wd) (hxy : placeM 2 fa m.rack = placeM 1 ta m.rack) (hne : (onM m 2 fa).length = 0) :
    Calls Try.prog 67 #[.pointer (some ⟨p, 0, none⟩), .pointer (some ⟨bo, oi, none⟩)] w fun e w' => e = .returned (.int .i64 7) ∧ Up w w' := by
  have hnf : okN m 2 fa := ⟨by omega, hfa.1, hfw⟩
  have hnt : okN m 1 ta := ⟨by omega, hta.1, htw⟩
  obtain ⟨g1, u1, hH1, hV1⟩ := h.hold hi (b := 2) (a := fa) hnf
  obtain ⟨g2, u2, hH2, hV2⟩ := h.hold hi (b := 1) (a := ta) hnt
  have V1 := Lib.hid (show AtN F B fs bs 2 fa g1 u1 from hV1)
  have V2 := Lib.hid (show AtN F B fs bs 1 ta g2 u2 from hV2)
  clear hV1 hV2
  obtain ⟨A1, c1, rfl, hl1, hc1, -⟩ := hH1.own.ints.shape
  obtain ⟨A2, c2, rfl, hl2, hc2, -⟩ := hH2.own.ints.shape
  obtain ⟨l1, HL1⟩ : ∃ l1 : List Int, Hid (l1 = onM m 2 fa) := ⟨_, rfl⟩
  obtain ⟨l2, HL2⟩ : ∃ l2 : List Int, Hid (l2 = onM m 1 ta) := ⟨_, rfl⟩
  have hb1 := (hi.on_ 2 fa).1
  have hb2 := (hi.on_ 1 ta).1
  rw [← HL1.out] at hH1 V1 hl1 hb1 hne
  rw [← HL2.out] at hH2 V2 hl2 hb2
  obtain ⟨x, Hx⟩ : ∃ x, Hid (placeM 2 fa m.rack = x) := ⟨_, rfl⟩
  obtain ⟨y, Hy⟩ : ∃ y, Hid (placeM 1 ta m.rack = y) := ⟨_, rfl⟩
  rw [Hx.out, Hy.out] at hxy
  have hrk := hi.rack
  have o2 := hO.c2
  have o3 : w.cell? ⟨bo, oi + 2 + 1, none⟩ = _ := hO.c3
  have o4 := hO.c4
  have o5 : w.cell? ⟨bo, oi + 4 + 1, none⟩ = _ := hO.c5
  dsimp only at o2 o3 o4 o5
  have HX := Lib.hid h
  have HI := Lib.hid hi
  have HS := Lib.hid hS
  have HO := Lib.hid hO
  have H1 := Lib.hid hH1
  have H2 := Lib.hid hH2
  have HN := Lib.hid hnf
  clear h hi hS hO hH1 hH2 hnf hnt
  go_enter Try.func67, Try.ntmps67
  go_wp2_with fail
  refine (l07On_any _ _ _ _ _ _ _ _ H1.out).mono ?_
  rintro e w1 ⟨rfl, g1⟩
  have hh := cc4 g1 o2 o3 o4 o5
  obtain ⟨o2, o3, o4, o5⟩ := hh
  have G1 := Lib.hid g1
  clear g1
  go_wp2_with fail
  refine (l07On_any _ _ _ _ _ _ _ _ (H2.out.up G1.out)).mono ?_
  rintro e w2 ⟨rfl, g2⟩
  have hh := cc4 g2 o2 o3 o4 o5
  obtain ⟨o2, o3, o4, o5⟩ := hh
  have G2 := Lib.hid (Chg.trans G1.out g2)
  clear g2 G1
  have hp1 := (HX.out.up G2.out).c1.1
  have q2 := up_cell o2
  have q3 := up_cell o3
  have q4 := up_cell o4
  have q5 := up_cell o5
  have q1 := up_cell hp1
  go_wp2
  refine wp_region_up (by kernel_rfl) (by kernel_rfl) ?_
  repeat (go_big_quiet_step (first | (with_reducible exact calls_up (l07Place_x _ 2 _ _ _ (by omega) (by omega) Hx.out)) | (with_reducible exact calls_up (l07Place_x _ 1 _ _ _ (by omega) (by omega) Hy.out))))
  refine wpQuiet_nil ?_
  rintro w3 ⟨u, hu⟩
  have G3 := Lib.hid (Chg.trans G2.out (hu ▸ u.up) : Up w w3)
  have o2 := Chg.cell (hu ▸ u.up : Up w2 w3) o2 id
  have o3 := Chg.cell (hu ▸ u.up : Up w2 w3) o3 id
  have o4 := Chg.cell (hu ▸ u.up : Up w2 w3) o4 id
  have o5 := Chg.cell (hu ▸ u.up : Up w2 w3) o5 id
  clear hu u q1 q2 q3 q4 q5 hp1 G2
  have t1 : (x != y) = false := by simpa using hxy
  have t2 : (x == y) = true := by simpa using hxy
  have t3 : ((l1.length : Int) == 0) = true := by simpa using hne
  go_wp2
  go_ret
  exact ⟨rfl, G3.out⟩
theorem move_full12 (w : World) {S : Nat → Prop} {K p : Nat} {m : MachM} {F B C L D : Value} {fs bs : List Value} (h : MachX w S K p m F B C L D fs bs) (hS : NewIn S w) (hi : MInv m) (bo oi : Nat) (k d fa ta car rk : Int) (hO : OpC w bo oi ⟨k, d, 1, fa, 2, ta, car, rk⟩) (hb : ¬ S bo) (hfa : 0 ≤ fa ∧ fa ≤ 23) (hta : 0 ≤ ta ∧ ta ≤ 23) (hfw : fa < m.wd) (htw : ta < m.wd) (hxy : placeM 1 fa m.rack = placeM 2 ta m.rack) (hn0 : (onM m 1 fa).length ≠ 0) (hle : 4 < (onM m 1 fa).length + (onM m 2 ta).length) :
    Calls Try.prog 67 #[.pointer (some ⟨p, 0, none⟩), .pointer (some ⟨bo, oi, none⟩)] w fun e w' => e = .returned (.int .i64 5) ∧ Up w w' := by
  have hnf : okN m 1 fa := ⟨by omega, hfa.1, hfw⟩
  have hnt : okN m 2 ta := ⟨by omega, hta.1, htw⟩
  obtain ⟨g1, u1, hH1, hV1⟩ := h.hold hi (b := 1) (a := fa) hnf
  obtain ⟨g2, u2, hH2, hV2⟩ := h.hold hi (b := 2) (a := ta) hnt
  have V1 := Lib.hid (show AtN F B fs bs 1 fa g1 u1 from hV1)
  have V2 := Lib.hid (show AtN F B fs bs 2 ta g2 u2 from hV2)
  clear hV1 hV2
  obtain ⟨A1, c1, rfl, hl1, hc1, -⟩ := hH1.own.ints.shape
  obtain ⟨A2, c2, rfl, hl2, hc2, -⟩ := hH2.own.ints.shape
  obtain ⟨l1, HL1⟩ : ∃ l1 : List Int, Hid (l1 = onM m 1 fa) := ⟨_, rfl⟩
  obtain ⟨l2, HL2⟩ : ∃ l2 : List Int, Hid (l2 = onM m 2 ta) := ⟨_, rfl⟩
  have hb1 := (hi.on_ 1 fa).1
  have hb2 := (hi.on_ 2 ta).1
  rw [← HL1.out] at hH1 V1 hl1 hb1 hn0
  rw [← HL2.out] at hH2 V2 hl2 hb2
  rw [← HL1.out, ← HL2.out] at hle
  obtain ⟨x, Hx⟩ : ∃ x, Hid (placeM 1 fa m.rack = x) := ⟨_, rfl⟩
  obtain ⟨y, Hy⟩ : ∃ y, Hid (placeM 2 ta m.rack = y) := ⟨_, rfl⟩
  rw [Hx.out, Hy.out] at hxy
  have hrk := hi.rack
  have o2 := hO.c2
  have o3 : w.cell? ⟨bo, oi + 2 + 1, none⟩ = _ := hO.c3
  have o4 := hO.c4
  have o5 : w.cell? ⟨bo, oi + 4 + 1, none⟩ = _ := hO.c5
  dsimp only at o2 o3 o4 o5
  have HX := Lib.hid h
  have HI := Lib.hid hi
  have HS := Lib.hid hS
  have HO := Lib.hid hO
  have H1 := Lib.hid hH1
  have H2 := Lib.hid hH2
  have HN := Lib.hid hnf
  clear h hi hS hO hH1 hH2 hnf hnt
  go_enter Try.func67, Try.ntmps67
  go_wp2_with fail
  refine (l07On_any _ _ _ _ _ _ _ _ H1.out).mono ?_
  rintro e w1 ⟨rfl, g1⟩
  have hh := cc4 g1 o2 o3 o4 o5
  obtain ⟨o2, o3, o4, o5⟩ := hh
  have G1 := Lib.hid g1
  clear g1
  go_wp2_with fail
  refine (l07On_any _ _ _ _ _ _ _ _ (H2.out.up G1.out)).mono ?_
  rintro e w2 ⟨rfl, g2⟩
  have hh := cc4 g2 o2 o3 o4 o5
  obtain ⟨o2, o3, o4, o5⟩ := hh
  have G2 := Lib.hid (Chg.trans G1.out g2)
  clear g2 G1
  have hp1 := (HX.out.up G2.out).c1.1
  have q2 := up_cell o2
  have q3 := up_cell o3
  have q4 := up_cell o4
  have q5 := up_cell o5
  have q1 := up_cell hp1
  go_wp2
  refine wp_region_up (by kernel_rfl) (by kernel_rfl) ?_
  repeat (go_big_quiet_step (first | (with_reducible exact calls_up (l07Place_x _ 1 _ _ _ (by omega) (by omega) Hx.out)) | (with_reducible exact calls_up (l07Place_x _ 2 _ _ _ (by omega) (by omega) Hy.out))))
  refine wpQuiet_nil ?_
  rintro w3 ⟨u, hu⟩
  have G3 := Lib.hid (Chg.trans G2.out (hu ▸ u.up) : Up w w3)
  have o2 := Chg.cell (hu ▸ u.up : Up w2 w3) o2 id
  have o3 := Chg.cell (hu ▸ u.up : Up w2 w3) o3 id
  have o4 := Chg.cell (hu ▸ u.up : Up w2 w3) o4 id
  have o5 := Chg.cell (hu ▸ u.up : Up w2 w3) o5 id
  clear hu u q1 q2 q3 q4 q5 hp1 G2
  have t1 : (x != y) = false := by simpa using hxy
  have t2 : (x == y) = true := by simpa using hxy
  have t3 : ((l1.length : Int) == 0) = false := by have : l1.length ≠ 0 := hn0; simp; exact fun e => this (by simp [e])
  have t4 : decide ((4 : Int) < (l1.length : Int) + (l2.length : Int)) = true := decide_eq_true (by omega)
  go_wp2
  go_ret
  exact ⟨rfl, G3.out⟩
theorem move_full21 (w : World) {S : Nat → Prop} {K p : Nat} {m : MachM} {F B C L D : Value} {fs bs : List Value} (h : MachX w S K p m F B C L D fs bs) (hS : NewIn S w) (hi : MInv m) (bo oi : Nat) (k d fa ta car rk : Int) (hO : OpC w bo oi ⟨k, d, 2, fa, 1, ta, car, rk⟩) (hb : ¬ S bo) (hfa : 0 ≤ fa ∧ fa ≤ 23) (hta : 0 ≤ ta ∧ ta ≤ 23) (hfw : fa < m.wd) (htw : ta < m.wd) (hxy : placeM 2 fa m.rack = placeM 1 ta m.rack) (hn0 : (onM m 2 fa).length ≠ 0) (hle : 4 < (onM m 2 fa).length + (onM m 1 ta).length) :
    Calls Try.prog 67 #[.pointer (some ⟨p, 0, none⟩), .pointer (some ⟨bo, oi, none⟩)] w fun e w' => e = .returned (.int .i64 5) ∧ Up w w' := by
  have hnf : okN m 2 fa := ⟨by omega, hfa.1, hfw⟩
  have hnt : okN m 1 ta := ⟨by omega, hta.1, htw⟩
  obtain ⟨g1, u1, hH1, hV1⟩ := h.hold hi (b := 2) (a := fa) hnf
  obtain ⟨g2, u2, hH2, hV2⟩ := h.hold hi (b := 1) (a := ta) hnt
  have V1 := Lib.hid (show AtN F B fs bs 2 fa g1 u1 from hV1)
  have V2 := Lib.hid (show AtN F B fs bs 1 ta g2 u2 from hV2)
  clear hV1 hV2
  obtain ⟨A1, c1, rfl, hl1, hc1, -⟩ := hH1.own.ints.shape
  obtain ⟨A2, c2, rfl, hl2, hc2, -⟩ := hH2.own.ints.shape
  obtain ⟨l1, HL1⟩ : ∃ l1 : List Int, Hid (l1 = onM m 2 fa) := ⟨_, rfl⟩
  obtain ⟨l2, HL2⟩ : ∃ l2 : List Int, Hid (l2 = onM m 1 ta) := ⟨_, rfl⟩
  have hb1 := (hi.on_ 2 fa).1
  have hb2 := (hi.on_ 1 ta).1
  rw [← HL1.out] at hH1 V1 hl1 hb1 hn0
  rw [← HL2.out] at hH2 V2 hl2 hb2
  rw [← HL1.out, ← HL2.out] at hle
  obtain ⟨x, Hx⟩ : ∃ x, Hid (placeM 2 fa m.rack = x) := ⟨_, rfl⟩
  obtain ⟨y, Hy⟩ : ∃ y, Hid (placeM 1 ta m.rack = y) := ⟨_, rfl⟩
  rw [Hx.out, Hy.out] at hxy
  have hrk := hi.rack
  have o2 := hO.c2
  have o3 : w.cell? ⟨bo, oi + 2 + 1, none⟩ = _ := hO.c3
  have o4 := hO.c4
  have o5 : w.cell? ⟨bo, oi + 4 + 1, none⟩ = _ := hO.c5
  dsimp only at o2 o3 o4 o5
  have HX := Lib.hid h
  have HI := Lib.hid hi
  have HS := Lib.hid hS
  have HO := Lib.hid hO
  have H1 := Lib.hid hH1
  have H2 := Lib.hid hH2
  have HN := Lib.hid hnf
  clear h hi hS hO hH1 hH2 hnf hnt
  go_enter Try.func67, Try.ntmps67
  go_wp2_with fail
  refine (l07On_any _ _ _ _ _ _ _ _ H1.out).mono ?_
  rintro e w1 ⟨rfl, g1⟩
  have hh := cc4 g1 o2 o3 o4 o5
  obtain ⟨o2, o3, o4, o5⟩ := hh
  have G1 := Lib.hid g1
  clear g1
  go_wp2_with fail
  refine (l07On_any _ _ _ _ _ _ _ _ (H2.out.up G1.out)).mono ?_
  rintro e w2 ⟨rfl, g2⟩
  have hh := cc4 g2 o2 o3 o4 o5
  obtain ⟨o2, o3, o4, o5⟩ := hh
  have G2 := Lib.hid (Chg.trans G1.out g2)
  clear g2 G1
  have hp1 := (HX.out.up G2.out).c1.1
  have q2 := up_cell o2
  have q3 := up_cell o3
  have q4 := up_cell o4
  have q5 := up_cell o5
  have q1 := up_cell hp1
  go_wp2
  refine wp_region_up (by kernel_rfl) (by kernel_rfl) ?_
  repeat (go_big_quiet_step (first | (with_reducible exact calls_up (l07Place_x _ 2 _ _ _ (by omega) (by omega) Hx.out)) | (with_reducible exact calls_up (l07Place_x _ 1 _ _ _ (by omega) (by omega) Hy.out))))
  refine wpQuiet_nil ?_
  rintro w3 ⟨u, hu⟩
  have G3 := Lib.hid (Chg.trans G2.out (hu ▸ u.up) : Up w w3)
  have o2 := Chg.cell (hu ▸ u.up : Up w2 w3) o2 id
  have o3 := Chg.cell (hu ▸ u.up : Up w2 w3) o3 id
  have o4 := Chg.cell (hu ▸ u.up : Up w2 w3) o4 id
  have o5 := Chg.cell (hu ▸ u.up : Up w2 w3) o5 id
  clear hu u q1 q2 q3 q4 q5 hp1 G2
  have t1 : (x != y) = false := by simpa using hxy
  have t2 : (x == y) = true := by simpa using hxy
  have t3 : ((l1.length : Int) == 0) = false := by have : l1.length ≠ 0 := hn0; simp; exact fun e => this (by simp [e])
  have t4 : decide ((4 : Int) < (l1.length : Int) + (l2.length : Int)) = true := decide_eq_true (by omega)
  go_wp2
  go_ret
  exact ⟨rfl, G3.out⟩
theorem move_ok12 (w : World) {S : Nat → Prop} {K p : Nat} {m : MachM} {F B C L D : Value} {fs bs : List Value} (h : MachX w S K p m F B C L D fs bs) (hS : NewIn S w) (hi : MInv m) (bo oi : Nat) (k d fa ta car rk : Int) (hO : OpC w bo oi ⟨k, d, 1, fa, 2, ta, car, rk⟩) (hb : ¬ S bo) (hfa : 0 ≤ fa ∧ fa ≤ 23) (hta : 0 ≤ ta ∧ ta ≤ 23) (hfw : fa < m.wd) (htw : ta < m.wd) (hxy : placeM 1 fa m.rack = placeM 2 ta m.rack) (hn0 : (onM m 1 fa).length ≠ 0) (hle : (onM m 1 fa).length + (onM m 2 ta).length ≤ 4) :
    Calls Try.prog 67 #[.pointer (some ⟨p, 0, none⟩), .pointer (some ⟨bo, oi, none⟩)] w fun e w' => e = .returned (.int .i64 0) ∧ Mach w' S K p (shiftM m ⟨k, d, 1, fa, 2, ta, car, rk⟩) ∧ Chg S w w' := by
  have hnf : okN m 1 fa := ⟨by omega, hfa.1, hfw⟩
  have hnt : okN m 2 ta := ⟨by omega, hta.1, htw⟩
  obtain ⟨g1, u1, hH1, hV1⟩ := h.hold hi (b := 1) (a := fa) hnf
  obtain ⟨g2, u2, hH2, hV2⟩ := h.hold hi (b := 2) (a := ta) hnt
  have V1 := Lib.hid (show AtN F B fs bs 1 fa g1 u1 from hV1)
  have V2 := Lib.hid (show AtN F B fs bs 2 ta g2 u2 from hV2)
  clear hV1 hV2
  obtain ⟨A1, c1, rfl, hl1, hc1, -⟩ := hH1.own.ints.shape
  obtain ⟨A2, c2, rfl, hl2, hc2, -⟩ := hH2.own.ints.shape
  obtain ⟨l1, HL1⟩ : ∃ l1 : List Int, Hid (l1 = onM m 1 fa) := ⟨_, rfl⟩
  obtain ⟨l2, HL2⟩ : ∃ l2 : List Int, Hid (l2 = onM m 2 ta) := ⟨_, rfl⟩
  have hb1 := (hi.on_ 1 fa).1
  have hb2 := (hi.on_ 2 ta).1
  rw [← HL1.out] at hH1 V1 hl1 hb1 hn0
  rw [← HL2.out] at hH2 V2 hl2 hb2
  rw [← HL1.out, ← HL2.out] at hle
  obtain ⟨x, Hx⟩ : ∃ x, Hid (placeM 1 fa m.rack = x) := ⟨_, rfl⟩
  obtain ⟨y, Hy⟩ : ∃ y, Hid (placeM 2 ta m.rack = y) := ⟨_, rfl⟩
  rw [Hx.out, Hy.out] at hxy
  have hrk := hi.rack
  have o2 := hO.c2
  have o3 : w.cell? ⟨bo, oi + 2 + 1, none⟩ = _ := hO.c3
  have o4 := hO.c4
  have o5 : w.cell? ⟨bo, oi + 4 + 1, none⟩ = _ := hO.c5
  dsimp only at o2 o3 o4 o5
  have HX := Lib.hid h
  have HI := Lib.hid hi
  have HS := Lib.hid hS
  have HO := Lib.hid hO
  have H1 := Lib.hid hH1
  have H2 := Lib.hid hH2
  have HN := Lib.hid hnf
  clear h hi hS hO hH1 hH2 hnf hnt
  go_enter Try.func67, Try.ntmps67
  go_wp2_with fail
  refine (l07On_any _ _ _ _ _ _ _ _ H1.out).mono ?_
  rintro e w1 ⟨rfl, g1⟩
  have hh := cc4 g1 o2 o3 o4 o5
  obtain ⟨o2, o3, o4, o5⟩ := hh
  have G1 := Lib.hid g1
  clear g1
  go_wp2_with fail
  refine (l07On_any _ _ _ _ _ _ _ _ (H2.out.up G1.out)).mono ?_
  rintro e w2 ⟨rfl, g2⟩
  have hh := cc4 g2 o2 o3 o4 o5
  obtain ⟨o2, o3, o4, o5⟩ := hh
  have G2 := Lib.hid (Chg.trans G1.out g2)
  clear g2 G1
  have hp1 := (HX.out.up G2.out).c1.1
  have q2 := up_cell o2
  have q3 := up_cell o3
  have q4 := up_cell o4
  have q5 := up_cell o5
  have q1 := up_cell hp1
  go_wp2
  refine wp_region_up (by kernel_rfl) (by kernel_rfl) ?_
  repeat (go_big_quiet_step (first | (with_reducible exact calls_up (l07Place_x _ 1 _ _ _ (by omega) (by omega) Hx.out)) | (with_reducible exact calls_up (l07Place_x _ 2 _ _ _ (by omega) (by omega) Hy.out))))
  refine wpQuiet_nil ?_
  rintro w3 ⟨u, hu⟩
  have G3 := Lib.hid (Chg.trans G2.out (hu ▸ u.up) : Up w w3)
  have o2 := Chg.cell (hu ▸ u.up : Up w2 w3) o2 id
  have o3 := Chg.cell (hu ▸ u.up : Up w2 w3) o3 id
  have o4 := Chg.cell (hu ▸ u.up : Up w2 w3) o4 id
  have o5 := Chg.cell (hu ▸ u.up : Up w2 w3) o5 id
  clear hu u q1 q2 q3 q4 q5 hp1 G2
  have t1 : (x != y) = false := by simpa using hxy
  have t2 : (x == y) = true := by simpa using hxy
  have t3 : ((l1.length : Int) == 0) = false := by have : l1.length ≠ 0 := hn0; simp; exact fun e => this (by simp [e])
  have t4 : decide ((4 : Int) < (l1.length : Int) + (l2.length : Int)) = false := decide_eq_false (by omega)
  have hbw := World.block_lt_of_cell? _ _ o2
  obtain ⟨l3, HL3⟩ : ∃ l3 : List Int, Hid (l3 = (l1 ++ l2)) := ⟨_, rfl⟩
  have HX3 := Lib.hid (HX.out.up G3.out)
  have H23 := Lib.hid (H2.out.up G3.out)
  have HS3 := Lib.hid (HS.out.up G3.out)
  have HP := Lib.hid ((H1.out.up G3.out).own.intsOwn)
  have HQ := Lib.hid ((H2.out.up G3.out).own.intsOwn)
  have HLP := Lib.hid (show l1.length ≤ 100000 by omega)
  have HLL := Lib.hid (show l1.length + l2.length ≤ 1099511627776 by omega)
  go_wp2
  go_region_held3 (fun w' => w'.cell? ⟨bo, oi + 4, none⟩ = some (.int .i64 2) ∧ w'.cell? ⟨bo, oi + 4 + 1, none⟩ = some (.int .i64 ta))
    (first | (exact ⟨o4, o5⟩) | (exact ⟨Chg.cell gC o4 hb, Chg.cell gC o5 hb⟩) | (obtain ⟨q0, q1⟩ : (World.cell? _ _ = _ ∧ World.cell? _ _ = _) := (by assumption); exact ⟨Chg.cell hg3 q0 (by simp only []; omega), Chg.cell hg3 q1 (by simp only []; omega)⟩) | (obtain ⟨q0, q1⟩ : (World.cell? _ _ = _ ∧ World.cell? _ _ = _) := (by assumption); exact ⟨Chg.cell gA q0 id, Chg.cell gA q1 id⟩))
    (first | (go_at_call 27; refine (ownI_any _ _ _ l1 (HP.out.up ((Chg.refl Nowhere w3).drew)) HLP.out).mono ?_; rintro e wA ⟨vA, rfl, kA, gA⟩; obtain ⟨AA, cA, rfl, hlA, hcA, -⟩ := kA.ints.shape; have HKA := Lib.hid kA; have GA := Lib.hid (Chg.trans ((Chg.refl Nowhere w3).drew) gA : Up w3 wA); clear kA) | (refine step_appIntsM (by rfl) _ _ (by rfl) w3.heap.size _ l1 (by rfl) HKA.out _ _ l2 (by rfl) (HQ.out.up GA.out) HLL.out ?_ ?_; (have := GA.out.size; omega); intro v' wB ho1 hg1 hg2 hg3; rw [← HL3.out] at ho1; obtain ⟨AB, cB, rfl, hlB, hcB, -⟩ := ho1.ints.shape; have HB0 : Hid (∀ x, (Value.slice AB l3.length cB).ownBlock = some x → (Value.slice A2 l2.length c2).ownBlock = some x ∨ w3.heap.size ≤ x) := Lib.hid (fun x hx => .inr (ho1.1.lt x hx).1); have HOB := Lib.hid (OwnI.lowerM ho1 (Nat.zero_le _)); have GB := Lib.hid (Chg.new GA.out hg3 (fun i hi => Nat.not_le.2 hi) : Up w3 wB); clear ho1 hg1 hg2) | (go_at_call 69; refine (l07Set_2 w3 _ GB.out HX3.out HS3.out V2.out H23.out HOB.out HB0.out).mono ?_; rintro e wC ⟨rfl, xC, gC⟩; have XC := Lib.hid xC; have GC := Lib.hid gC; clear xC))
  have z2 := Chg.cell gC o2 hb
  have z3 := Chg.cell gC o3 hb
  clear gC hg3 gA o2 o3 o4 o5
  have HI2 : MInv (setM m 2 ta l3) := HI.out.setM_ 2 ta (l := l3) (by rw [HL1.out, HL2.out] at hle; have := bothM_ok HI.out (o := ⟨k, d, 1, fa, 2, ta, car, rk⟩) hle; rw [HL3.out, HL1.out, HL2.out]; simpa [bothM] using this)
  obtain ⟨g5, v5, hH5, hV5⟩ := XC.out.hold HI2 (b := 1) (a := fa) ⟨by omega, hfa.1, by rw [(setM_same _ _ _).1]; exact hfw⟩
  have H5 := Lib.hid hH5
  have V5 : Hid (AtN F B (setF fs 2 ta (.slice AB l3.length cB)) (setB bs 2 ta (.slice AB l3.length cB)) 1 fa g5 v5) := Lib.hid hV5
  clear hH5 hV5 HI2
  go_wp2_with fail
  refine (l07Set_1 wC _ ((Chg.refl Nowhere wC).alloc _) XC.out (HS3.out.up GC.out) V5.out H5.out (l' := []) (OwnI.lowerM (OwnI.made wC wC.heap.size (Nat.le_refl _)) (Nat.zero_le _)) (fun x hx => .inr (by simp [Value.ownBlock] at hx; omega))).mono ?_
  rintro e wD ⟨rfl, xD, gD⟩
  have XD := Lib.hid xD.mach
  have GD := Lib.hid gD
  clear xD gD
  go_wp2
  go_ret
  have hsh : shiftM m ⟨k, d, 1, fa, 2, ta, car, rk⟩ = setM (setM m 2 ta l3) 1 fa [] := by unfold shiftM bothM; rw [HL3.out, HL1.out, HL2.out]; rfl
  rw [hsh]
  exact ⟨rfl, XD.out, Chg.trans (Chg.of_up G3.out) (Chg.trans GC.out GD.out)⟩
theorem move_ok21 (w : World) {S : Nat → Prop} {K p : Nat} {m : MachM} {F B C L D : Value} {fs bs : List Value} (h : MachX w S K p m F B C L D fs bs) (hS : NewIn S w) (hi : MInv m) (bo oi : Nat) (k d fa ta car rk : Int) (hO : OpC w bo oi ⟨k, d, 2, fa, 1, ta, car, rk⟩) (hb : ¬ S bo) (hfa : 0 ≤ fa ∧ fa ≤ 23) (hta : 0 ≤ ta ∧ ta ≤ 23) (hfw : fa < m.wd) (htw : ta < m.wd) (hxy : placeM 2 fa m.rack = placeM 1 ta m.rack) (hn0 : (onM m 2 fa).length ≠ 0) (hle : (onM m 2 fa).length + (onM m 1 ta).length ≤ 4) :
    Calls Try.prog 67 #[.pointer (some ⟨p, 0, none⟩), .pointer (some ⟨bo, oi, none⟩)] w fun e w' => e = .returned (.int .i64 0) ∧ Mach w' S K p (shiftM m ⟨k, d, 2, fa, 1, ta, car, rk⟩) ∧ Chg S w w' := by
  have hnf : okN m 2 fa := ⟨by omega, hfa.1, hfw⟩
  have hnt : okN m 1 ta := ⟨by omega, hta.1, htw⟩
  obtain ⟨g1, u1, hH1, hV1⟩ := h.hold hi (b := 2) (a := fa) hnf
  obtain ⟨g2, u2, hH2, hV2⟩ := h.hold hi (b := 1) (a := ta) hnt
  have V1 := Lib.hid (show AtN F B fs bs 2 fa g1 u1 from hV1)
  have V2 := Lib.hid (show AtN F B fs bs 1 ta g2 u2 from hV2)
  clear hV1 hV2
  obtain ⟨A1, c1, rfl, hl1, hc1, -⟩ := hH1.own.ints.shape
  obtain ⟨A2, c2, rfl, hl2, hc2, -⟩ := hH2.own.ints.shape
  obtain ⟨l1, HL1⟩ : ∃ l1 : List Int, Hid (l1 = onM m 2 fa) := ⟨_, rfl⟩
  obtain ⟨l2, HL2⟩ : ∃ l2 : List Int, Hid (l2 = onM m 1 ta) := ⟨_, rfl⟩
  have hb1 := (hi.on_ 2 fa).1
  have hb2 := (hi.on_ 1 ta).1
  rw [← HL1.out] at hH1 V1 hl1 hb1 hn0
  rw [← HL2.out] at hH2 V2 hl2 hb2
  rw [← HL1.out, ← HL2.out] at hle
  obtain ⟨x, Hx⟩ : ∃ x, Hid (placeM 2 fa m.rack = x) := ⟨_, rfl⟩
  obtain ⟨y, Hy⟩ : ∃ y, Hid (placeM 1 ta m.rack = y) := ⟨_, rfl⟩
  rw [Hx.out, Hy.out] at hxy
  have hrk := hi.rack
  have o2 := hO.c2
  have o3 : w.cell? ⟨bo, oi + 2 + 1, none⟩ = _ := hO.c3
  have o4 := hO.c4
  have o5 : w.cell? ⟨bo, oi + 4 + 1, none⟩ = _ := hO.c5
  dsimp only at o2 o3 o4 o5
  have HX := Lib.hid h
  have HI := Lib.hid hi
  have HS := Lib.hid hS
  have HO := Lib.hid hO
  have H1 := Lib.hid hH1
  have H2 := Lib.hid hH2
  have HN := Lib.hid hnf
  clear h hi hS hO hH1 hH2 hnf hnt
  go_enter Try.func67, Try.ntmps67
  go_wp2_with fail
  refine (l07On_any _ _ _ _ _ _ _ _ H1.out).mono ?_
  rintro e w1 ⟨rfl, g1⟩
  have hh := cc4 g1 o2 o3 o4 o5
  obtain ⟨o2, o3, o4, o5⟩ := hh
  have G1 := Lib.hid g1
  clear g1
  go_wp2_with fail
  refine (l07On_any _ _ _ _ _ _ _ _ (H2.out.up G1.out)).mono ?_
  rintro e w2 ⟨rfl, g2⟩
  have hh := cc4 g2 o2 o3 o4 o5
  obtain ⟨o2, o3, o4, o5⟩ := hh
  have G2 := Lib.hid (Chg.trans G1.out g2)
  clear g2 G1
  have hp1 := (HX.out.up G2.out).c1.1
  have q2 := up_cell o2
  have q3 := up_cell o3
  have q4 := up_cell o4
  have q5 := up_cell o5
  have q1 := up_cell hp1
  go_wp2
  refine wp_region_up (by kernel_rfl) (by kernel_rfl) ?_
  repeat (go_big_quiet_step (first | (with_reducible exact calls_up (l07Place_x _ 2 _ _ _ (by omega) (by omega) Hx.out)) | (with_reducible exact calls_up (l07Place_x _ 1 _ _ _ (by omega) (by omega) Hy.out))))
  refine wpQuiet_nil ?_
  rintro w3 ⟨u, hu⟩
  have G3 := Lib.hid (Chg.trans G2.out (hu ▸ u.up) : Up w w3)
  have o2 := Chg.cell (hu ▸ u.up : Up w2 w3) o2 id
  have o3 := Chg.cell (hu ▸ u.up : Up w2 w3) o3 id
  have o4 := Chg.cell (hu ▸ u.up : Up w2 w3) o4 id
  have o5 := Chg.cell (hu ▸ u.up : Up w2 w3) o5 id
  clear hu u q1 q2 q3 q4 q5 hp1 G2
  have t1 : (x != y) = false := by simpa using hxy
  have t2 : (x == y) = true := by simpa using hxy
  have t3 : ((l1.length : Int) == 0) = false := by have : l1.length ≠ 0 := hn0; simp; exact fun e => this (by simp [e])
  have t4 : decide ((4 : Int) < (l1.length : Int) + (l2.length : Int)) = false := decide_eq_false (by omega)
  have hbw := World.block_lt_of_cell? _ _ o2
  obtain ⟨l3, HL3⟩ : ∃ l3 : List Int, Hid (l3 = (l2 ++ l1)) := ⟨_, rfl⟩
  have HX3 := Lib.hid (HX.out.up G3.out)
  have H23 := Lib.hid (H2.out.up G3.out)
  have HS3 := Lib.hid (HS.out.up G3.out)
  have HP := Lib.hid ((H2.out.up G3.out).own.intsOwn)
  have HQ := Lib.hid ((H1.out.up G3.out).own.intsOwn)
  have HLP := Lib.hid (show l2.length ≤ 100000 by omega)
  have HLL := Lib.hid (show l2.length + l1.length ≤ 1099511627776 by omega)
  go_wp2
  go_region_held3 (fun w' => w'.cell? ⟨bo, oi + 4, none⟩ = some (.int .i64 1) ∧ w'.cell? ⟨bo, oi + 4 + 1, none⟩ = some (.int .i64 ta))
    (first | (exact ⟨o4, o5⟩) | (exact ⟨Chg.cell gC o4 hb, Chg.cell gC o5 hb⟩) | (obtain ⟨q0, q1⟩ : (World.cell? _ _ = _ ∧ World.cell? _ _ = _) := (by assumption); exact ⟨Chg.cell hg3 q0 (by simp only []; omega), Chg.cell hg3 q1 (by simp only []; omega)⟩) | (obtain ⟨q0, q1⟩ : (World.cell? _ _ = _ ∧ World.cell? _ _ = _) := (by assumption); exact ⟨Chg.cell gA q0 id, Chg.cell gA q1 id⟩))
    (first | (go_at_call 27; refine (ownI_any _ _ _ l2 (HP.out.up ((Chg.refl Nowhere w3).drew)) HLP.out).mono ?_; rintro e wA ⟨vA, rfl, kA, gA⟩; obtain ⟨AA, cA, rfl, hlA, hcA, -⟩ := kA.ints.shape; have HKA := Lib.hid kA; have GA := Lib.hid (Chg.trans ((Chg.refl Nowhere w3).drew) gA : Up w3 wA); clear kA) | (refine step_appIntsM (by rfl) _ _ (by rfl) w3.heap.size _ l2 (by rfl) HKA.out _ _ l1 (by rfl) (HQ.out.up GA.out) HLL.out ?_ ?_; (have := GA.out.size; omega); intro v' wB ho1 hg1 hg2 hg3; rw [← HL3.out] at ho1; obtain ⟨AB, cB, rfl, hlB, hcB, -⟩ := ho1.ints.shape; have HB0 : Hid (∀ x, (Value.slice AB l3.length cB).ownBlock = some x → (Value.slice A2 l2.length c2).ownBlock = some x ∨ w3.heap.size ≤ x) := Lib.hid (fun x hx => .inr (ho1.1.lt x hx).1); have HOB := Lib.hid (OwnI.lowerM ho1 (Nat.zero_le _)); have GB := Lib.hid (Chg.new GA.out hg3 (fun i hi => Nat.not_le.2 hi) : Up w3 wB); clear ho1 hg1 hg2) | (go_at_call 69; refine (l07Set_1 w3 _ GB.out HX3.out HS3.out V2.out H23.out HOB.out HB0.out).mono ?_; rintro e wC ⟨rfl, xC, gC⟩; have XC := Lib.hid xC; have GC := Lib.hid gC; clear xC))
  have z2 := Chg.cell gC o2 hb
  have z3 := Chg.cell gC o3 hb
  clear gC hg3 gA o2 o3 o4 o5
  have HI2 : MInv (setM m 1 ta l3) := HI.out.setM_ 1 ta (l := l3) (by rw [HL1.out, HL2.out] at hle; have := bothM_ok HI.out (o := ⟨k, d, 2, fa, 1, ta, car, rk⟩) hle; rw [HL3.out, HL1.out, HL2.out]; simpa [bothM] using this)
  obtain ⟨g5, v5, hH5, hV5⟩ := XC.out.hold HI2 (b := 2) (a := fa) ⟨by omega, hfa.1, by rw [(setM_same _ _ _).1]; exact hfw⟩
  have H5 := Lib.hid hH5
  have V5 : Hid (AtN F B (setF fs 1 ta (.slice AB l3.length cB)) (setB bs 1 ta (.slice AB l3.length cB)) 2 fa g5 v5) := Lib.hid hV5
  clear hH5 hV5 HI2
  go_wp2_with fail
  refine (l07Set_2 wC _ ((Chg.refl Nowhere wC).alloc _) XC.out (HS3.out.up GC.out) V5.out H5.out (l' := []) (OwnI.lowerM (OwnI.made wC wC.heap.size (Nat.le_refl _)) (Nat.zero_le _)) (fun x hx => .inr (by simp [Value.ownBlock] at hx; omega))).mono ?_
  rintro e wD ⟨rfl, xD, gD⟩
  have XD := Lib.hid xD.mach
  have GD := Lib.hid gD
  clear xD gD
  go_wp2
  go_ret
  have hsh : shiftM m ⟨k, d, 2, fa, 1, ta, car, rk⟩ = setM (setM m 1 ta l3) 2 fa [] := by unfold shiftM bothM; rw [HL3.out, HL1.out, HL2.out]; rfl
  rw [hsh]
  exact ⟨rfl, XD.out, Chg.trans (Chg.of_up G3.out) (Chg.trans GC.out GD.out)⟩
end Go.Proofs.Ytplabnjdhkmmkaa
end
section
set_option linter.unusedSimpArgs false
set_option linter.unusedVariables false
set_option maxRecDepth 100000
set_option maxHeartbeats 8000000
namespace Go.Proofs.Ytplabnjdhkmmkaa
open Go.ChangeShapes Go.WideShapes Go.ChangeAt Go.RowKit
attribute [local go_sem ↓] Go.wp_at_zero Go.wp_at_succ
theorem pw_grow2 {l : List Value} (h : l.Pairwise Off2) {S : Nat → Prop} (hlt : ∀ v ∈ l, ∀ g, v.ownBlock = some g → S g) {k : Nat} (hk : k < l.length) {v' : Value} (hv : ∀ g, v'.ownBlock = some g → l[k].ownBlock = some g ∨ ¬ S g) : (l.set k v').Pairwise Off2 := by
  rw [List.pairwise_iff_getElem]
  intro i j hi hj hij
  have hi' : i < l.length := by simpa using hi
  have hj' : j < l.length := by simpa using hj
  have key : ∀ q (hq : q < l.length), q ≠ k → Off2 v' l[q] := fun q hq hn g h1 h2 => by
    rcases hv g h1 with h3 | h3
    · exact pw_get h hk hq (Ne.symm hn) g h3 h2
    · exact h3 (hlt _ (List.getElem_mem hq) g h2)
  by_cases e1 : k = i
  · subst e1
    rw [List.getElem_set_self, List.getElem_set_ne (by omega)]
    exact key j hj' (by omega)
  · rw [List.getElem_set_ne e1]
    by_cases e2 : k = j
    · subst e2
      rw [List.getElem_set_self]
      exact (key i hi' (by omega)).symm
    · rw [List.getElem_set_ne e2]
      exact pw_get h hi' hj' (by omega)
section
variable {w w' w1 : World} {S T : Nat → Prop} {K p : Nat} {m : MachM} {F B C L D : Value} {fs bs : List Value}
/-- a needle of the front bed gets other loops -/
theorem MachX.slotF2 (h : MachX w S K p m F B C L D fs bs) {i : Nat} (hi : i < fs.length) (g1 : Chg (fun b => fs[i].ownBlock = some b) w w1) {v' : Value} {l : List Int} (ho : OwnI w1 0 v' l)
    (hb : ∀ g, v'.ownBlock = some g → fs[i].ownBlock = some g ∨ ¬ S g) {gF cF : Nat} (hF : F = .slice (some ⟨gF, 0, none⟩) fs.length cF) :
    MachX (w1.setCell ⟨gF, i, none⟩ v') (fun b => S b ∨ v'.ownBlock = some b) K p { m with fr := m.fr.set i l } F B C L D (fs.set i v') bs := by
  have P := h.parts
  have hmi : fs[i] ∈ fs := List.getElem_mem hi
  have oF : F.ownBlock = some gF := by rw [hF]; rfl
  have k2 : Chg (fun b => b = gF) w1 (w1.setCell ⟨gF, i, none⟩ v') := Chg.setCell (Chg.refl (fun b => b = gF) w1) (.inl (show gF = gF from rfl)) _
  have hgF : gF < w.heap.size := (h.f.lt gF oF).2
  have p1 : ¬ fs[i].ownBlock = some p := fun e => P.p fs[i] (by simp [hmi]) p rfl e
  have p2 : ¬ p = gF := fun e => P.p F (by simp) p rfl (by rw [oF, e])
  have kc : ∀ {j : Nat} {u : Value}, CellU w ⟨p, j, none⟩ u → CellU (w1.setCell ⟨gF, i, none⟩ v') ⟨p, j, none⟩ u := fun hc => (hc.keep g1 p1).keep k2 p2
  have kr : ∀ {e : TypeId} {size n : Nat} {v : Value} {xs : List Value}, w.ownsRow 0 e size v n xs → Off2 fs[i] v → Off2 F v → (w1.setCell ⟨gF, i, none⟩ v').ownsRow 0 e size v n xs := fun hr o1 o2 => rowKept (rowKept hr g1 (off_n1 o1)) k2 (off_n2 oF o2)
  have ki : ∀ {v : Value} {xs : List Int}, OwnI w 0 v xs → Off2 fs[i] v → Off2 F v → OwnI (w1.setCell ⟨gF, i, none⟩ v') 0 v xs := fun hr o1 o2 => (hr.kept g1 (off_n1 o1)).kept k2 (off_n2 oF o2)
  obtain ⟨cs, hl⟩ := h.l
  obtain ⟨ds, hds, hdk⟩ := h.d
  have hfr : w1.ownsRow 0 23 1 F fs.length fs := rowKept h.f g1 (off_n1 (P.f _ (by simp [hmi])).symm)
  refine ⟨.inl h.sp, kc h.c0, kc h.c1, kc h.c2, kc h.c3, kc h.c4, kc h.c5, kc h.c6, ?_, kr h.b (P.b _ (by simp [hmi])).symm (P.f _ (by simp)), by simpa using h.fl, h.bl, ?_, ?_,
    kr h.c (P.c _ (by simp [hmi])).symm (P.f _ (by simp)), ⟨cs, kr hl (P.l _ (by simp [hmi])).symm (P.f _ (by simp))⟩, ⟨ds, ki hds (P.d _ (by simp [hmi])).symm (P.f _ (by simp)), hdk⟩, ?_, ?_, ?_⟩
  · subst hF
    rw [List.length_set]
    exact ownsRow_set hfr v'
  · intro j hj
    have hj' : j < fs.length := by simpa using hj
    have hjm : fs[j] ∈ fs := List.getElem_mem hj'
    by_cases e : i = j
    · subst e
      rw [List.getElem_set_self, List.getD_eq_getElem?_getD, List.getElem?_set_self (by rw [← h.fl]; exact hi)]
      refine ho.kept k2 (fun g hg e2 => ?_)
      rcases hb g hg with h1 | h1
      · exact (P.f _ (by simp [hmi])) gF oF (e2 ▸ h1)
      · exact h1 (e2 ▸ h.own F (by simp) gF oF)
    · rw [List.getElem_set_ne e, List.getD_eq_getElem?_getD, List.getElem?_set_ne e, ← List.getD_eq_getElem?_getD]
      exact ki (h.fi j hj') (pw_get P.ff hi hj' e) (P.f _ (by simp [hjm]))
  · intro j hj
    have hjm : bs[j] ∈ bs := List.getElem_mem hj
    exact ki (h.bi j hj) (P.fb _ hmi _ hjm) (P.f _ (by simp [hjm]))
  · intro v hv g hg
    have hv' : v ∈ F :: B :: C :: L :: D :: (fs ++ bs) ∨ v = v' := by
      simp only [List.mem_cons, List.mem_append] at hv ⊢
      rcases hv with hv | hv | hv | hv | hv | hv | hv
      · simp [hv]
      · simp [hv]
      · simp [hv]
      · simp [hv]
      · simp [hv]
      · rcases List.mem_or_eq_of_mem_set hv with hv | hv
        · simp [hv]
        · simp [hv]
      · simp [hv]
    rcases hv' with hv' | rfl
    · exact .inl (h.own v hv' g hg)
    · rcases hb g hg with h1 | h1
      · exact .inl (h.own _ (by simp [hmi]) g h1)
      · exact .inr hg
  · have := pw_grow2 h.ap h.own_all (k := i + 6) (by simp; omega) (v' := v') (fun g hg => by
      have e : (ptr p :: F :: B :: C :: L :: D :: (fs ++ bs))[i + 6]'(by simp; omega) = fs[i] := by
        show (fs ++ bs)[i]'(by simp; omega) = fs[i]
        exact List.getElem_append_left hi
      rw [e]
      exact hb g hg)
    have e2 : (ptr p :: F :: B :: C :: L :: D :: (fs ++ bs)).set (i + 6) v' = ptr p :: F :: B :: C :: L :: D :: (fs.set i v' ++ bs) := by
      show ptr p :: F :: B :: C :: L :: D :: ((fs ++ bs).set i v') = _
      rw [List.set_append_left _ _ hi]
    rwa [e2] at this
  · have k3 : Chg (fun b => fs[i].ownBlock = some b ∨ b = gF) w (w1.setCell ⟨gF, i, none⟩ v') := Chg.trans (g1.mono fun _ _ h => .inl h) (k2.mono fun _ _ h => .inr h)
    refine h.ps.turn2 k3 (fun x hx e => e.elim (off_n1 (P.l _ (by simp [hmi])).symm x hx) (off_n2 oF (P.f _ (by simp)) x hx)) (fun x hx => hx.elim (fun h => .inl ⟨_, by simp [hmi], h⟩) (fun h => .inl ⟨F, by simp, by rw [oF, h]⟩)) (fun _ h => .inl h) (fun v hv x hx => ?_)
    have hv' : v ∈ ptr p :: F :: B :: C :: L :: D :: (fs ++ bs) ∨ v = v' := by
      simp only [List.mem_cons, List.mem_append] at hv ⊢
      rcases hv with hv | hv | hv | hv | hv | hv | hv | hv
      · simp [hv]
      · simp [hv]
      · simp [hv]
      · simp [hv]
      · simp [hv]
      · simp [hv]
      · rcases List.mem_or_eq_of_mem_set hv with hv | hv <;> simp [hv]
      · simp [hv]
    rcases hv' with hv' | rfl
    · exact .inl ⟨v, hv', hx⟩
    · rcases hb x hx with h1 | h1
      · exact .inl ⟨_, by simp [hmi], h1⟩
      · exact .inr (fun e => h1 e.1)
/-- a needle of the back bed gets other loops -/
theorem MachX.slotB2 (h : MachX w S K p m F B C L D fs bs) {i : Nat} (hi : i < bs.length) (g1 : Chg (fun b => bs[i].ownBlock = some b) w w1) {v' : Value} {l : List Int} (ho : OwnI w1 0 v' l)
    (hb : ∀ g, v'.ownBlock = some g → bs[i].ownBlock = some g ∨ ¬ S g) {gB cB : Nat} (hB : B = .slice (some ⟨gB, 0, none⟩) bs.length cB) :
    MachX (w1.setCell ⟨gB, i, none⟩ v') (fun b => S b ∨ v'.ownBlock = some b) K p { m with bk := m.bk.set i l } F B C L D fs (bs.set i v') := by
  have P := h.parts
  have hmi : bs[i] ∈ bs := List.getElem_mem hi
  have oB : B.ownBlock = some gB := by rw [hB]; rfl
  have k2 : Chg (fun b => b = gB) w1 (w1.setCell ⟨gB, i, none⟩ v') := Chg.setCell (Chg.refl (fun b => b = gB) w1) (.inl (show gB = gB from rfl)) _
  have hgB : gB < w.heap.size := (h.b.lt gB oB).2
  have p1 : ¬ bs[i].ownBlock = some p := fun e => P.p bs[i] (by simp [hmi]) p rfl e
  have p2 : ¬ p = gB := fun e => P.p B (by simp) p rfl (by rw [oB, e])
  have kc : ∀ {j : Nat} {u : Value}, CellU w ⟨p, j, none⟩ u → CellU (w1.setCell ⟨gB, i, none⟩ v') ⟨p, j, none⟩ u := fun hc => (hc.keep g1 p1).keep k2 p2
  have kr : ∀ {e : TypeId} {size n : Nat} {v : Value} {xs : List Value}, w.ownsRow 0 e size v n xs → Off2 bs[i] v → Off2 B v → (w1.setCell ⟨gB, i, none⟩ v').ownsRow 0 e size v n xs := fun hr o1 o2 => rowKept (rowKept hr g1 (off_n1 o1)) k2 (off_n2 oB o2)
  have ki : ∀ {v : Value} {xs : List Int}, OwnI w 0 v xs → Off2 bs[i] v → Off2 B v → OwnI (w1.setCell ⟨gB, i, none⟩ v') 0 v xs := fun hr o1 o2 => (hr.kept g1 (off_n1 o1)).kept k2 (off_n2 oB o2)
  obtain ⟨cs, hl⟩ := h.l
  obtain ⟨ds, hds, hdk⟩ := h.d
  have hbr : w1.ownsRow 0 23 1 B bs.length bs := rowKept h.b g1 (off_n1 (P.b _ (by simp [hmi])).symm)
  refine ⟨.inl h.sp, kc h.c0, kc h.c1, kc h.c2, kc h.c3, kc h.c4, kc h.c5, kc h.c6, kr h.f (P.f _ (by simp [hmi])).symm (P.f _ (by simp)).symm, ?_, h.fl, by simpa using h.bl, ?_, ?_,
    kr h.c (P.c _ (by simp [hmi])).symm (P.b _ (by simp)), ⟨cs, kr hl (P.l _ (by simp [hmi])).symm (P.b _ (by simp))⟩, ⟨ds, ki hds (P.d _ (by simp [hmi])).symm (P.b _ (by simp)), hdk⟩, ?_, ?_, ?_⟩
  · subst hB
    rw [List.length_set]
    exact ownsRow_set hbr v'
  · intro j hj
    have hjm : fs[j] ∈ fs := List.getElem_mem hj
    exact ki (h.fi j hj) (P.fb _ hjm _ hmi).symm (P.b _ (by simp [hjm]))
  · intro j hj
    have hj' : j < bs.length := by simpa using hj
    have hjm : bs[j] ∈ bs := List.getElem_mem hj'
    by_cases e : i = j
    · subst e
      rw [List.getElem_set_self, List.getD_eq_getElem?_getD, List.getElem?_set_self (by rw [← h.bl]; exact hi)]
      refine ho.kept k2 (fun g hg e2 => ?_)
      rcases hb g hg with h1 | h1
      · exact (P.b _ (by simp [hmi])) gB oB (e2 ▸ h1)
      · exact h1 (e2 ▸ h.own B (by simp) gB oB)
    · rw [List.getElem_set_ne e, List.getD_eq_getElem?_getD, List.getElem?_set_ne e, ← List.getD_eq_getElem?_getD]
      exact ki (h.bi j hj') (pw_get P.bb hi hj' e) (P.b _ (by simp [hjm]))
  · intro v hv g hg
    have hv' : v ∈ F :: B :: C :: L :: D :: (fs ++ bs) ∨ v = v' := by
      simp only [List.mem_cons, List.mem_append] at hv ⊢
      rcases hv with hv | hv | hv | hv | hv | hv | hv
      · simp [hv]
      · simp [hv]
      · simp [hv]
      · simp [hv]
      · simp [hv]
      · simp [hv]
      · rcases List.mem_or_eq_of_mem_set hv with hv | hv
        · simp [hv]
        · simp [hv]
    rcases hv' with hv' | rfl
    · exact .inl (h.own v hv' g hg)
    · rcases hb g hg with h1 | h1
      · exact .inl (h.own _ (by simp [hmi]) g h1)
      · exact .inr hg
  · have := pw_grow2 h.ap h.own_all (k := fs.length + i + 6) (by simp; omega) (v' := v') (fun g hg => by
      have e : (ptr p :: F :: B :: C :: L :: D :: (fs ++ bs))[fs.length + i + 6]'(by simp; omega) = bs[i] := by
        show (fs ++ bs)[fs.length + i]'(by simp; omega) = bs[i]
        rw [List.getElem_append_right (by omega)]
        simp
      rw [e]
      exact hb g hg)
    have e2 : (ptr p :: F :: B :: C :: L :: D :: (fs ++ bs)).set (fs.length + i + 6) v' = ptr p :: F :: B :: C :: L :: D :: (fs ++ bs.set i v') := by
      show ptr p :: F :: B :: C :: L :: D :: ((fs ++ bs).set (fs.length + i) v') = _
      rw [List.set_append_right _ _ (by omega)]
      simp
    rwa [e2] at this
  · have k3 : Chg (fun b => bs[i].ownBlock = some b ∨ b = gB) w (w1.setCell ⟨gB, i, none⟩ v') := Chg.trans (g1.mono fun _ _ h => .inl h) (k2.mono fun _ _ h => .inr h)
    refine h.ps.turn2 k3 (fun x hx e => e.elim (off_n1 (P.l _ (by simp [hmi])).symm x hx) (off_n2 oB (P.b _ (by simp)) x hx)) (fun x hx => hx.elim (fun h => .inl ⟨_, by simp [hmi], h⟩) (fun h => .inl ⟨B, by simp, by rw [oB, h]⟩)) (fun _ h => .inl h) (fun v hv x hx => ?_)
    have hv' : v ∈ ptr p :: F :: B :: C :: L :: D :: (fs ++ bs) ∨ v = v' := by
      simp only [List.mem_cons, List.mem_append] at hv ⊢
      rcases hv with hv | hv | hv | hv | hv | hv | hv | hv
      · simp [hv]
      · simp [hv]
      · simp [hv]
      · simp [hv]
      · simp [hv]
      · simp [hv]
      · simp [hv]
      · rcases List.mem_or_eq_of_mem_set hv with hv | hv <;> simp [hv]
    rcases hv' with hv' | rfl
    · exact .inl ⟨v, hv', hx⟩
    · rcases hb x hx with h1 | h1
      · exact .inl ⟨_, by simp [hmi], h1⟩
      · exact .inr (fun e => h1 e.1)
theorem MachX.slotX2 {b a : Int} {g : Nat} {v v' : Value} {l : List Int} (h : MachX w S K p m F B C L D fs bs) (hv : AtN F B fs bs b a g v) (g1 : Up w w1) (ho : OwnI w1 0 v' l)
    (hb : ∀ x, v'.ownBlock = some x → v.ownBlock = some x ∨ ¬ (S x ∧ x < w.heap.size)) :
    MachX (w1.setCell ⟨g, a.toNat, none⟩ v') (fun x => S x ∨ v'.ownBlock = some x) K p (setM m b a l) F B C L D (setF fs b a v') (setB bs b a v') := by
  have h := h.mono (T := fun x => S x ∧ x < w.heap.size) fun x h1 h2 => ⟨h2, h1⟩
  rcases hv with ⟨rfl, c, hB, hv, hl⟩ | ⟨rfl, c, hF, hv, hl⟩
  · rw [List.getD_eq_getElem?_getD, List.getElem?_eq_getElem hl, Option.getD_some] at hv
    subst hv
    have := h.slotB2 hl (Chg.of_up g1) ho hb hB
    unfold setM setF setB
    rw [if_pos rfl, if_pos rfl, if_pos rfl]
    exact this.mono fun x _ hx => hx.imp And.left id
  · rw [List.getD_eq_getElem?_getD, List.getElem?_eq_getElem hl, Option.getD_some] at hv
    subst hv
    have := h.slotF2 hl (Chg.of_up g1) ho hb hF
    unfold setM setF setB
    rw [if_neg (by decide), if_neg (by decide), if_neg (by decide)]
    exact this.mono fun x _ hx => hx.imp And.left id
end
theorem l07Put_1 (w0 w : World) (k0 : Up w0 w) {S : Nat → Prop} {K p : Nat} {m : MachM} {F B C L D : Value} {fs bs : List Value} (h : MachX w0 S K p m F B C L D fs bs) {a : Int} {g : Nat} {v : Value} {l0 : List Int} (hv : AtN F B fs bs 1 a g v) (hH : Hold w0 p 1 a g v l0) {A' : Option Addr} {c' : Nat} {l' : List Int} (ho : OwnI w 0 (.slice A' l'.length c') l') (hb : ∀ x, (Value.slice A' l'.length c').ownBlock = some x → v.ownBlock = some x ∨ ¬ (S x ∧ x < w0.heap.size)) :
    Calls Try.prog 69 #[.pointer (some ⟨p, 0, none⟩), .agg #[.int .i64 1, .int .i64 a], .slice A' l'.length c'] w fun e w' => e = .returned (.tuple #[]) ∧ MachX w' (fun x => S x ∨ (Value.slice A' l'.length c').ownBlock = some x) K p (setM m 1 a l') F B C L D (setF fs 1 a (.slice A' l'.length c')) (setB bs 1 a (.slice A' l'.length c')) ∧ Chg S w0 w' := by
  obtain ⟨i, rfl⟩ : ∃ i : Nat, a = i := ⟨a.toNat, by have := hH.a0; omega⟩
  have hc := (hH.up k0).cell
  have hh := (hH.up k0).hdr
  have hto : ((i : Int)).toNat = i := by omega
  rw [hto] at hc
  have b0 : (0 : Int) ≤ (i : Int) := by omega
  obtain ⟨n, c, h1, h2, h3, h4⟩ : ∃ n c : Nat, (i : Int) < (n : Int) ∧ n ≤ c ∧ c ≤ 9223372036854775807 ∧ CellU w ⟨p, 2, none⟩ (.slice (some ⟨g, 0, none⟩) n c) := by
    rcases hh with ⟨e, n, c, r⟩ | ⟨e, n, c, r⟩
    · cases e
    · exact ⟨n, c, r⟩
  have b1 : i < n := by omega
  have k1 := Lib.hid (Chg.trans k0 ((Chg.refl Nowhere w).alloc (.cells #[.int .i64 1, .int .i64 i] 74)))
  have HX := Lib.hid (h.slotX2 hv k1.out (ho.up ((Chg.refl Nowhere w).alloc (.cells #[.int .i64 1, .int .i64 i] 74))) hb)
  have HG := Lib.hid (h.slotG (v' := .slice A' l'.length c') hv (Chg.of_up k1.out))
  rw [hto] at HX HG
  have e1 := Chg.cell ((Chg.refl Nowhere w).alloc (.cells #[.int .i64 1, .int .i64 i] 74)) h4.1 id
  have e2 := Chg.cell ((Chg.refl Nowhere w).alloc (.cells #[.int .i64 1, .int .i64 i] 74)) hc.1 id
  have f2 := (hc.up ((Chg.refl Nowhere w).alloc (.cells #[.int .i64 1, .int .i64 i] 74))).2
  clear h hv hH k0 hb hh hc h4 ho
  go_enter Try.func69, Try.ntmps69
  go_wp2_with fail
  refine (l07Bed_1 _ _ _ _ _ e1).mono ?_
  rintro e w' ⟨rfl, rfl⟩
  go_wp2
  go_end0
  exact ⟨rfl, by simpa using HX.out, by simpa using HG.out⟩
theorem l07Put_2 (w0 w : World) (k0 : Up w0 w) {S : Nat → Prop} {K p : Nat} {m : MachM} {F B C L D : Value} {fs bs : List Value} (h : MachX w0 S K p m F B C L D fs bs) {a : Int} {g : Nat} {v : Value} {l0 : List Int} (hv : AtN F B fs bs 2 a g v) (hH : Hold w0 p 2 a g v l0) {A' : Option Addr} {c' : Nat} {l' : List Int} (ho : OwnI w 0 (.slice A' l'.length c') l') (hb : ∀ x, (Value.slice A' l'.length c').ownBlock = some x → v.ownBlock = some x ∨ ¬ (S x ∧ x < w0.heap.size)) :
    Calls Try.prog 69 #[.pointer (some ⟨p, 0, none⟩), .agg #[.int .i64 2, .int .i64 a], .slice A' l'.length c'] w fun e w' => e = .returned (.tuple #[]) ∧ MachX w' (fun x => S x ∨ (Value.slice A' l'.length c').ownBlock = some x) K p (setM m 2 a l') F B C L D (setF fs 2 a (.slice A' l'.length c')) (setB bs 2 a (.slice A' l'.length c')) ∧ Chg S w0 w' := by
  obtain ⟨i, rfl⟩ : ∃ i : Nat, a = i := ⟨a.toNat, by have := hH.a0; omega⟩
  have hc := (hH.up k0).cell
  have hh := (hH.up k0).hdr
  have hto : ((i : Int)).toNat = i := by omega
  rw [hto] at hc
  have b0 : (0 : Int) ≤ (i : Int) := by omega
  obtain ⟨n, c, h1, h2, h3, h4⟩ : ∃ n c : Nat, (i : Int) < (n : Int) ∧ n ≤ c ∧ c ≤ 9223372036854775807 ∧ CellU w ⟨p, 3, none⟩ (.slice (some ⟨g, 0, none⟩) n c) := by
    rcases hh with ⟨e, n, c, r⟩ | ⟨e, n, c, r⟩
    · exact ⟨n, c, r⟩
    · cases e
  have b1 : i < n := by omega
  have k1 := Lib.hid (Chg.trans k0 ((Chg.refl Nowhere w).alloc (.cells #[.int .i64 2, .int .i64 i] 74)))
  have HX := Lib.hid (h.slotX2 hv k1.out (ho.up ((Chg.refl Nowhere w).alloc (.cells #[.int .i64 2, .int .i64 i] 74))) hb)
  have HG := Lib.hid (h.slotG (v' := .slice A' l'.length c') hv (Chg.of_up k1.out))
  rw [hto] at HX HG
  have e1 := Chg.cell ((Chg.refl Nowhere w).alloc (.cells #[.int .i64 2, .int .i64 i] 74)) h4.1 id
  have e2 := Chg.cell ((Chg.refl Nowhere w).alloc (.cells #[.int .i64 2, .int .i64 i] 74)) hc.1 id
  have f2 := (hc.up ((Chg.refl Nowhere w).alloc (.cells #[.int .i64 2, .int .i64 i] 74))).2
  clear h hv hH k0 hb hh hc h4 ho
  go_enter Try.func69, Try.ntmps69
  go_wp2_with fail
  refine (l07Bed_2 _ _ _ _ _ e1).mono ?_
  rintro e w' ⟨rfl, rfl⟩
  go_wp2
  go_end0
  exact ⟨rfl, by simpa using HX.out, by simpa using HG.out⟩
end Go.Proofs.Ytplabnjdhkmmkaa
end
section
set_option linter.unusedSimpArgs false
set_option linter.unusedVariables false
namespace Go.Proofs.Ytplabnjdhkmmkaa
open Go.ChangeShapes Go.WideShapes Go.ChangeAt Go.RowKit
attribute [local go_sem ↓] Go.wp_at_zero Go.wp_at_succ
/-- a carrier passes a needle -/
def rideB (m : MachM) (x : OpM) : Bool := (carAt m x.car).1 && decide ((x.dir = 1 ∧ (carAt m x.car).2 ≤ placeM x.fb x.fa m.rack) ∨ (x.dir = -1 ∧ placeM x.fb x.fa m.rack + 1 ≤ (carAt m x.car).2))
theorem fits_ride {m : MachM} {x : OpM} (hk : x.kind = 1 ∨ x.kind = 2 ∨ x.kind = 3 ∨ x.kind = 5) : fitsM m x = rideB m x := by
  unfold fitsM rideB
  rw [if_neg (by omega), if_neg (by omega), if_neg (by omega)]
theorem ride_in {m : MachM} {x : OpM} (h : rideB m x = true) : (carAt m x.car).1 = true := by
  unfold rideB at h
  rw [Bool.and_eq_true] at h
  exact h.1
theorem carry_any (w : World) {S : Nat → Prop} {K p : Nat} {m : MachM} {F B C L D : Value} {fs bs : List Value} (h : MachX w S K p m F B C L D fs bs) (hi : MInv m) (bo oi : Nat) (x : OpM) (hd : x.dir = 1 ∨ x.dir = -1) (hc : 1 ≤ x.car ∧ x.car ≤ 4) (hO : OpC w bo oi x) (hb : ¬ S bo) (hfa : 0 ≤ x.fa ∧ x.fa ≤ 23) :
    Calls Try.prog 66 #[.pointer (some ⟨p, 0, none⟩), .pointer (some ⟨bo, oi, none⟩)] w fun e w' => e = .returned (.bool (rideB m x)) ∧ (rideB m x = true → MachX w' S K p (ridM m x) F B C L D fs bs) ∧ Chg S w w' := by
  obtain ⟨k, d, fb, fa, tb, ta, car, rk⟩ := x
  dsimp only at hd hc hfa
  obtain ⟨j, rfl⟩ : ∃ j : Nat, car = (j : Int) + 1 := ⟨(car - 1).toNat, by omega⟩
  have hj : j < 4 := by omega
  cases hin : (carAt m ((j : Int) + 1)).1 with
  | false =>
    have hr : rideB m ⟨k, d, fb, fa, tb, ta, (j : Int) + 1, rk⟩ = false := by unfold rideB; simp [hin]
    rw [hr]
    rcases hd with rfl | rfl
    · exact (carry_outR w h hi bo oi k fb fa tb ta rk j hj hO hb hfa hin).mono fun e w' ⟨a, b⟩ => ⟨a, fun h => (Bool.false_ne_true h).elim, Chg.of_up b⟩
    · exact (carry_outL w h hi bo oi k fb fa tb ta rk j hj hO hb hfa hin).mono fun e w' ⟨a, b⟩ => ⟨a, fun h => (Bool.false_ne_true h).elim, Chg.of_up b⟩
  | true =>
    rcases hd with rfl | rfl
    · by_cases hle : (carAt m ((j : Int) + 1)).2 ≤ placeM fb fa m.rack
      · have hr : rideB m ⟨k, 1, fb, fa, tb, ta, (j : Int) + 1, rk⟩ = true := by unfold rideB; simp [hin, hle]
        rw [hr]
        exact (carry_yesR w h hi bo oi k fb fa tb ta rk j hj hO hb hfa hin hle).mono fun e w' ⟨a, b, c⟩ => ⟨a, fun _ => b, c⟩
      · have hr : rideB m ⟨k, 1, fb, fa, tb, ta, (j : Int) + 1, rk⟩ = false := by unfold rideB; simp [hin]; omega
        rw [hr]
        exact (carry_farR w h hi bo oi k fb fa tb ta rk j hj hO hb hfa hin (by omega)).mono fun e w' ⟨a, b⟩ => ⟨a, fun h => (Bool.false_ne_true h).elim, Chg.of_up b⟩
    · by_cases hle : placeM fb fa m.rack + 1 ≤ (carAt m ((j : Int) + 1)).2
      · have hr : rideB m ⟨k, -1, fb, fa, tb, ta, (j : Int) + 1, rk⟩ = true := by unfold rideB; simp [hin, hle]
        rw [hr]
        exact (carry_yesL w h hi bo oi k fb fa tb ta rk j hj hO hb hfa hin hle).mono fun e w' ⟨a, b, c⟩ => ⟨a, fun _ => b, c⟩
      · have hr : rideB m ⟨k, -1, fb, fa, tb, ta, (j : Int) + 1, rk⟩ = false := by unfold rideB; simp [hin]; omega
        rw [hr]
        exact (carry_farL w h hi bo oi k fb fa tb ta rk j hj hO hb hfa hin (by omega)).mono fun e w' ⟨a, b⟩ => ⟨a, fun h => (Bool.false_ne_true h).elim, Chg.of_up b⟩
theorem rid_set (m : MachM) (b a : Int) (l : List Int) (x : OpM) : ridM (setM m b a l) x = setM (ridM m x) b a l := by
  unfold ridM setCar behindM carAt setM
  split <;> rfl
theorem rid_nl (m : MachM) (n : Nat) (x : OpM) : ridM { m with nl := n } x = { ridM m x with nl := n } := rfl
theorem set_nl (m : MachM) (b a : Int) (l : List Int) (n : Nat) : setM { m with nl := n } b a l = { setM m b a l with nl := n } := by
  unfold setM
  split <;> rfl
theorem heap_mk (w : World) (o : Obj) : (w.alloc o).heap[w.heap.size]? = some o := Array.getElem?_push_size
theorem rid_on (m : MachM) (x : OpM) (b a : Int) : onM (ridM m x) b a = onM m b a := rfl
theorem set_set (m : MachM) (b a : Int) (l l' : List Int) : setM (setM m b a l) b a l' = setM m b a l' := by
  unfold setM
  split <;> simp
theorem exec_knit {m : MachM} (hi : MInv m) {x : OpM} (hk : x.kind = 1) (ha : 0 ≤ x.fa ∧ x.fa < m.wd) : execM m x = { setM (ridM m x) x.fb x.fa [(m.nl : Int)] with nl := m.nl + 1 } := by
  unfold execM
  rw [if_pos hk]
  unfold loopM
  rw [onM_setM hi [] ha, set_set, rid_nl, rid_set]
  have := (setM_same (m := m) x.fb x.fa []).2.2.2
  simp [this]
theorem exec_tuck {m : MachM} {x : OpM} (hk : x.kind = 2) : execM m x = { setM (ridM m x) x.fb x.fa (onM m x.fb x.fa ++ [(m.nl : Int)]) with nl := m.nl + 1 } := by
  unfold execM
  rw [if_neg (by omega), if_pos hk]
  unfold loopM
  rw [rid_nl, rid_set]
theorem shift_rid (m : MachM) (x : OpM) : shiftM (ridM m x) x = ridM (shiftM m x) x := by
  unfold shiftM
  rw [rid_set, rid_set]
  rfl
theorem exec_split {m : MachM} (hi : MInv m) {x : OpM} (hk : x.kind = 5) (ha : 0 ≤ x.fa ∧ x.fa < m.wd) (hl : (onM m x.fb x.fa).length + (onM m x.tb x.ta).length ≤ 4) : execM m x = { setM (shiftM (ridM m x) x) x.fb x.fa [(m.nl : Int)] with nl := m.nl + 1 } := by
  unfold execM
  rw [if_neg (by omega), if_neg (by omega), if_neg (by omega), if_neg (by omega), if_pos hk]
  unfold loopM
  have he : onM (shiftM m x) x.fb x.fa = [] := onM_setM (hi.setM_ _ _ (bothM_ok hi hl)) [] ⟨ha.1, by rw [(setM_same _ _ _).1]; exact ha.2⟩
  have hn : (shiftM m x).nl = m.nl := by unfold shiftM; rw [(setM_same _ _ _).2.2.2, (setM_same _ _ _).2.2.2]
  rw [he, hn, rid_nl, rid_set, shift_rid]
  simp
/-- the code of a transfer -/
def moveC (m : MachM) (x : OpM) : Int :=
  if placeM x.fb x.fa m.rack ≠ placeM x.tb x.ta m.rack then 8
  else if (onM m x.fb x.fa).length = 0 then 7
  else if 4 < (onM m x.fb x.fa).length + (onM m x.tb x.ta).length then 5 else 0
theorem move_any (w : World) {S : Nat → Prop} {K p : Nat} {m : MachM} (h : Mach w S K p m) (hS : NewIn S w) (hi : MInv m) (bo oi : Nat) (x : OpM) (hO : OpC w bo oi x) (hb : ¬ S bo) (h1 : (x.fb = 1 ∧ x.tb = 2) ∨ (x.fb = 2 ∧ x.tb = 1)) (hfa : 0 ≤ x.fa ∧ x.fa ≤ 23) (hta : 0 ≤ x.ta ∧ x.ta ≤ 23) (hfw : x.fa < m.wd) (htw : x.ta < m.wd) :
    Calls Try.prog 67 #[.pointer (some ⟨p, 0, none⟩), .pointer (some ⟨bo, oi, none⟩)] w fun e w' => e = .returned (.int .i64 (moveC m x)) ∧ (moveC m x = 0 → Mach w' S K p (shiftM m x)) ∧ Chg S w w' := by
  obtain ⟨F, B, C, L, D, fs, bs, h⟩ := h
  obtain ⟨k, d, fb, fa, tb, ta, car, rk⟩ := x
  dsimp only at h1 hfa hta hfw htw
  unfold moveC
  rcases h1 with ⟨rfl, rfl⟩ | ⟨rfl, rfl⟩
  · by_cases c1 : placeM 1 fa m.rack ≠ placeM 2 ta m.rack
    · rw [if_pos c1]
      exact (move_rack12 w h hS hi bo oi k d fa ta car rk hO hb hfa hta hfw htw c1).mono fun e w' ⟨a, b⟩ => ⟨a, fun h => by omega, Chg.of_up b⟩
    rw [if_neg c1]
    have c1 := Classical.not_not.1 c1
    by_cases c2 : (onM m 1 fa).length = 0
    · rw [if_pos c2]
      exact (move_empty12 w h hS hi bo oi k d fa ta car rk hO hb hfa hta hfw htw c1 c2).mono fun e w' ⟨a, b⟩ => ⟨a, fun h => by omega, Chg.of_up b⟩
    rw [if_neg c2]
    by_cases c3 : 4 < (onM m 1 fa).length + (onM m 2 ta).length
    · rw [if_pos c3]
      exact (move_full12 w h hS hi bo oi k d fa ta car rk hO hb hfa hta hfw htw c1 c2 c3).mono fun e w' ⟨a, b⟩ => ⟨a, fun h => by omega, Chg.of_up b⟩
    rw [if_neg c3]
    exact (move_ok12 w h hS hi bo oi k d fa ta car rk hO hb hfa hta hfw htw c1 c2 (by omega)).mono fun e w' ⟨a, b, c⟩ => ⟨a, fun _ => b, c⟩
  · by_cases c1 : placeM 2 fa m.rack ≠ placeM 1 ta m.rack
    · rw [if_pos c1]
      exact (move_rack21 w h hS hi bo oi k d fa ta car rk hO hb hfa hta hfw htw c1).mono fun e w' ⟨a, b⟩ => ⟨a, fun h => by omega, Chg.of_up b⟩
    rw [if_neg c1]
    have c1 := Classical.not_not.1 c1
    by_cases c2 : (onM m 2 fa).length = 0
    · rw [if_pos c2]
      exact (move_empty21 w h hS hi bo oi k d fa ta car rk hO hb hfa hta hfw htw c1 c2).mono fun e w' ⟨a, b⟩ => ⟨a, fun h => by omega, Chg.of_up b⟩
    rw [if_neg c2]
    by_cases c3 : 4 < (onM m 2 fa).length + (onM m 1 ta).length
    · rw [if_pos c3]
      exact (move_full21 w h hS hi bo oi k d fa ta car rk hO hb hfa hta hfw htw c1 c2 c3).mono fun e w' ⟨a, b⟩ => ⟨a, fun h => by omega, Chg.of_up b⟩
    rw [if_neg c3]
    exact (move_ok21 w h hS hi bo oi k d fa ta car rk hO hb hfa hta hfw htw c1 c2 (by omega)).mono fun e w' ⟨a, b, c⟩ => ⟨a, fun _ => b, c⟩
end Go.Proofs.Ytplabnjdhkmmkaa
end
