/- The program's columns that stitches take and make; RowSources and RowResults on both sides. No condition but room. The laws' own helpers on rows and on slices of slices of numbers. No condition but room. Slices whose elements take m cells each and bear a reading of their own: nested slices, slices of structs with slices. No condition. -/
import Derived.Test.YtchfjglofmphfaaRB3
import Derived.Test.YtchfjglofmphfaaRB1
import Derived.Test.YtchfjglofmphfaaRB2
namespace Go.Proofs.Ytchfjglofmphfaa
open Go.ChangeShapes Go.WideShapes Go.ChangeAt Go.RowKit
theorem openRow {w : World} {S : Nat → Prop} {v : Value} {r : RowM} (h : RowV w S v r) : ∃ A c, v = .agg #[.int .i64 r.d, .int .i64 r.c, .slice A r.xs.length c] ∧ Ints w S (.slice A r.xs.length c) r.xs ∧ r.xs.length ≤ c ∧ c ≤ 9223372036854775807 := by
  obtain ⟨A, c, h1, h2, h3, h4, _⟩ := h.shape
  exact ⟨A, c, h1, h2, h3, h4⟩
def sourcesOut (r : RowM) : List (List Int) := if rowCodeM r.d r.c r.xs = 0 then listsM takenK 0 r.xs else []
theorem laid_st_sources {r : RowM} (h : rowCodeM r.d r.c r.xs = 0) : stB r.xs = true := by
  obtain ⟨_, _, h3, h4, _, _⟩ := laid_of h
  unfold stB
  rw [Bool.and_eq_true]
  exact ⟨List.all_eq_true.2 h4, decide_eq_true h3⟩
def resultsOut (r : RowM) : List (List Int) := if rowCodeM r.d r.c r.xs = 0 then listsM madeK 0 r.xs else []
theorem laid_st_results {r : RowM} (h : rowCodeM r.d r.c r.xs = 0) : stB r.xs = true := by
  obtain ⟨_, _, h3, h4, _, _⟩ := laid_of h
  unfold stB
  rw [Bool.and_eq_true]
  exact ⟨List.all_eq_true.2 h4, decide_eq_true h3⟩
end Go.Proofs.Ytchfjglofmphfaa
namespace Go.Proofs.Ytchfjglofmphfaa
open Go.ChangeShapes Go.WideShapes Go.ChangeAt Go.RowKit
theorem cell_at {w : World} {cs : Array Value} {e : TypeId} {g t : Nat} {u : Value} (h : g = w.heap.size) (hu : cs[t]? = some u) : (w.alloc (.cells cs e)).cell? ⟨g, t, none⟩ = some u := by
  subst h
  rw [cell_new]; exact hu
/-- a cell that may be written -/
def CellF (w : World) (p : Addr) (u : Value) : Prop := w.cell? p = some u ∧ w.frozen? p = false
theorem CellF.up {w w' : World} {p : Addr} {u : Value} (g : Up w w') (h : CellF w p u) : CellF w' p u := ⟨g.cell h.1 id, (g.frozen h.1 id).trans h.2⟩
theorem cellF_at {w : World} {cs : Array Value} {e : TypeId} {g t : Nat} {u : Value} (h : g = w.heap.size) (hu : cs[t]? = some u) : CellF (w.alloc (.cells cs e)) ⟨g, t, none⟩ u := by
  refine ⟨cell_at h hu, ?_⟩
  subst h
  exact frozen_new _ _ _ _
theorem CellF.keep {S : Nat → Prop} {w w' : World} {p : Addr} {u : Value} (g : Chg S w w') (h : CellF w p u) (hp : ¬ S p.block) : CellF w' p u := ⟨g.cell h.1 hp, (g.frozen h.1 hp).trans h.2⟩
theorem up_pre {a b c : World} {S : Nat → Prop} (h : Up a b) (g : Chg S b c) : a.heap.size ≤ b.heap.size ∧ b.heap.size ≤ c.heap.size := ⟨h.size, g.size⟩
theorem szInts_ok (w : World) (S : Nat → Prop) (v : Value) (xs : List Int) (k : Int) (hk : 0 ≤ k ∧ k ≤ 1048576) (hl : (xs.length : Int) ≤ k) (h : Ints w S v xs) :
    Calls Try.prog 45 #[v, .int .i64 k] w fun e w' => e = .returned (.int .i64 (k - xs.length)) ∧ w = w' := by
  obtain ⟨A, c, rfl, hlc, hcm, -⟩ := h.shape
  clear h
  have hd : decide (k - (xs.length : Int) < 0) = false := decide_eq_false (by omega)
  go_enter Try.func45, Try.ntmps45
  go_wp2
  go_ret
  exact ⟨rfl, rfl⟩
theorem szInts_no (w : World) (S : Nat → Prop) (v : Value) (xs : List Int) (k : Int) (hk : 0 ≤ k ∧ k ≤ 1048576) (hl : k < (xs.length : Int)) (h : Ints w S v xs) :
    Calls Try.prog 45 #[v, .int .i64 k] w fun e w' => e = .returned (.int .i64 (-1)) ∧ w = w' := by
  obtain ⟨A, c, rfl, hlc, hcm, -⟩ := h.shape
  clear h
  have hd : decide (k - (xs.length : Int) < 0) = true := decide_eq_true (by omega)
  go_enter Try.func45, Try.ntmps45
  go_wp2
  go_ret
  exact ⟨rfl, rfl⟩
theorem eqRow_same (w : World) (S T : Nat → Prop) (v u : Value) (r : RowM) (h : RowV w S v r) (h2 : RowV w T u r) :
    Calls Try.prog 128 #[v, u] w fun e w' => e = .returned (.bool true) ∧ Up w w' := by
  obtain ⟨A, c, rfl, h4, h5, h6⟩ := openRow h
  obtain ⟨A2, c2, rfl, h24, h25, h26⟩ := openRow h2
  have I0 := Lib.hid h4
  have J0 := Lib.hid h24
  have U0 := Lib.hid (Chg.refl Nowhere w)
  clear h4 h24 h h2
  have e1 : (r.d != r.d) = false := by simp
  have e2 : (r.c != r.c) = false := by simp
  have U_1 := Lib.hid (Chg.trans U0.out ((Chg.refl Nowhere w).alloc (.cells #[.int .i64 r.d, .int .i64 r.c, .slice A r.xs.length c] 180)))
  clear U0
  have I_2 := Lib.hid (I0.out.up ((Chg.refl Nowhere w).alloc (.cells #[.int .i64 r.d, .int .i64 r.c, .slice A r.xs.length c] 180)))
  clear I0
  have J_3 := Lib.hid (J0.out.up ((Chg.refl Nowhere w).alloc (.cells #[.int .i64 r.d, .int .i64 r.c, .slice A r.xs.length c] 180)))
  clear J0
  have q0_4 := (show (w.alloc (.cells #[.int .i64 r.d, .int .i64 r.c, .slice A r.xs.length c] 180)).cell? ⟨w.heap.size, 0, none⟩ = some (.int .i64 r.d) from cell_new _ _ _ _)
  have q1_5 := (show (w.alloc (.cells #[.int .i64 r.d, .int .i64 r.c, .slice A r.xs.length c] 180)).cell? ⟨w.heap.size, 1, none⟩ = some (.int .i64 r.c) from cell_new _ _ _ _)
  have q2_6 := (show (w.alloc (.cells #[.int .i64 r.d, .int .i64 r.c, .slice A r.xs.length c] 180)).cell? ⟨w.heap.size, 2, none⟩ = some (.slice A r.xs.length c) from cell_new _ _ _ _)
  have hbx7 : w.heap.size < (w.alloc (.cells #[.int .i64 r.d, .int .i64 r.c, .slice A r.xs.length c] 180)).heap.size := by simp
  have U_8 := Lib.hid (Chg.trans U_1.out ((Chg.refl Nowhere (w.alloc (.cells #[.int .i64 r.d, .int .i64 r.c, .slice A r.xs.length c] 180))).alloc (.cells #[.int .i64 r.d, .int .i64 r.c, .slice A2 r.xs.length c2] 180)))
  clear U_1
  have I_9 := Lib.hid (I_2.out.up ((Chg.refl Nowhere (w.alloc (.cells #[.int .i64 r.d, .int .i64 r.c, .slice A r.xs.length c] 180))).alloc (.cells #[.int .i64 r.d, .int .i64 r.c, .slice A2 r.xs.length c2] 180)))
  clear I_2
  have J_10 := Lib.hid (J_3.out.up ((Chg.refl Nowhere (w.alloc (.cells #[.int .i64 r.d, .int .i64 r.c, .slice A r.xs.length c] 180))).alloc (.cells #[.int .i64 r.d, .int .i64 r.c, .slice A2 r.xs.length c2] 180)))
  clear J_3
  have q0_11 := Chg.cell ((Chg.refl Nowhere (w.alloc (.cells #[.int .i64 r.d, .int .i64 r.c, .slice A r.xs.length c] 180))).alloc (.cells #[.int .i64 r.d, .int .i64 r.c, .slice A2 r.xs.length c2] 180)) q0_4 id
  clear q0_4
  have q1_12 := Chg.cell ((Chg.refl Nowhere (w.alloc (.cells #[.int .i64 r.d, .int .i64 r.c, .slice A r.xs.length c] 180))).alloc (.cells #[.int .i64 r.d, .int .i64 r.c, .slice A2 r.xs.length c2] 180)) q1_5 id
  clear q1_5
  have q2_13 := Chg.cell ((Chg.refl Nowhere (w.alloc (.cells #[.int .i64 r.d, .int .i64 r.c, .slice A r.xs.length c] 180))).alloc (.cells #[.int .i64 r.d, .int .i64 r.c, .slice A2 r.xs.length c2] 180)) q2_6 id
  clear q2_6
  have p0_14 := (show ((w.alloc (.cells #[.int .i64 r.d, .int .i64 r.c, .slice A r.xs.length c] 180)).alloc (.cells #[.int .i64 r.d, .int .i64 r.c, .slice A2 r.xs.length c2] 180)).cell? ⟨(w.alloc (.cells #[.int .i64 r.d, .int .i64 r.c, .slice A r.xs.length c] 180)).heap.size, 0, none⟩ = some (.int .i64 r.d) from cell_new _ _ _ _)
  have p1_15 := (show ((w.alloc (.cells #[.int .i64 r.d, .int .i64 r.c, .slice A r.xs.length c] 180)).alloc (.cells #[.int .i64 r.d, .int .i64 r.c, .slice A2 r.xs.length c2] 180)).cell? ⟨(w.alloc (.cells #[.int .i64 r.d, .int .i64 r.c, .slice A r.xs.length c] 180)).heap.size, 1, none⟩ = some (.int .i64 r.c) from cell_new _ _ _ _)
  have p2_16 := (show ((w.alloc (.cells #[.int .i64 r.d, .int .i64 r.c, .slice A r.xs.length c] 180)).alloc (.cells #[.int .i64 r.d, .int .i64 r.c, .slice A2 r.xs.length c2] 180)).cell? ⟨(w.alloc (.cells #[.int .i64 r.d, .int .i64 r.c, .slice A r.xs.length c] 180)).heap.size, 2, none⟩ = some (.slice A2 r.xs.length c2) from cell_new _ _ _ _)
  have hbx17 : (w.alloc (.cells #[.int .i64 r.d, .int .i64 r.c, .slice A r.xs.length c] 180)).heap.size < ((w.alloc (.cells #[.int .i64 r.d, .int .i64 r.c, .slice A r.xs.length c] 180)).alloc (.cells #[.int .i64 r.d, .int .i64 r.c, .slice A2 r.xs.length c2] 180)).heap.size := by simp
  go_enter Try.func128, Try.ntmps128
  go_wp2_with fail
  refine (eqInts _ S T _ _ r.xs (I_9.out.up (by repeat (first | exact Chg.refl _ _ | apply Chg.drew | apply Chg.drewN | refine Chg.alloc ?_ _))) (J_10.out.up (by repeat (first | exact Chg.refl _ _ | apply Chg.drew | apply Chg.drewN | refine Chg.alloc ?_ _)))).mono ?_
  rintro e w18 ⟨rfl, g1⟩
  have G1 := Lib.hid g1
  have hz18 := G1.out.size
  clear g1
  have U_19 := Lib.hid (Chg.trans U_8.out (Chg.trans (by repeat (first | exact Chg.refl _ _ | apply Chg.drew | apply Chg.drewN | refine Chg.alloc ?_ _)) G1.out))
  clear U_8
  have I_20 := Lib.hid (I_9.out.up (Chg.trans (by repeat (first | exact Chg.refl _ _ | apply Chg.drew | apply Chg.drewN | refine Chg.alloc ?_ _)) G1.out))
  clear I_9
  have J_21 := Lib.hid (J_10.out.up (Chg.trans (by repeat (first | exact Chg.refl _ _ | apply Chg.drew | apply Chg.drewN | refine Chg.alloc ?_ _)) G1.out))
  clear J_10
  have q0_22 := Chg.cell (Chg.trans (by repeat (first | exact Chg.refl _ _ | apply Chg.drew | apply Chg.drewN | refine Chg.alloc ?_ _)) G1.out) q0_11 id
  clear q0_11
  have q1_23 := Chg.cell (Chg.trans (by repeat (first | exact Chg.refl _ _ | apply Chg.drew | apply Chg.drewN | refine Chg.alloc ?_ _)) G1.out) q1_12 id
  clear q1_12
  have q2_24 := Chg.cell (Chg.trans (by repeat (first | exact Chg.refl _ _ | apply Chg.drew | apply Chg.drewN | refine Chg.alloc ?_ _)) G1.out) q2_13 id
  clear q2_13
  have p0_25 := Chg.cell (Chg.trans (by repeat (first | exact Chg.refl _ _ | apply Chg.drew | apply Chg.drewN | refine Chg.alloc ?_ _)) G1.out) p0_14 id
  clear p0_14
  have p1_26 := Chg.cell (Chg.trans (by repeat (first | exact Chg.refl _ _ | apply Chg.drew | apply Chg.drewN | refine Chg.alloc ?_ _)) G1.out) p1_15 id
  clear p1_15
  have p2_27 := Chg.cell (Chg.trans (by repeat (first | exact Chg.refl _ _ | apply Chg.drew | apply Chg.drewN | refine Chg.alloc ?_ _)) G1.out) p2_16 id
  clear p2_16
  clear G1
  go_wp2
  go_ret
  exact ⟨rfl, (Chg.trans U_19.out (by repeat (first | exact Chg.refl _ _ | apply Chg.drew | apply Chg.drewN | refine Chg.alloc ?_ _)))⟩
set_option maxRecDepth 100000 in
theorem eqIntSS (w : World) (S T : Nat → Prop) (v u : Value) (xss : List (List Int)) (h : IntSS w S v xss) (h2 : IntSS w T u xss) :
    Calls Try.prog 58 #[v, u] w fun e w' => e = .returned (.bool true) ∧ Up w w' := by
  obtain ⟨A, c, rfl, hlc, hcm, -⟩ := h.shape
  obtain ⟨A2, c2, rfl, hlc2, hcm2, -⟩ := h2.shape
  have hz : ((xss.length : Int) != xss.length) = false := by simp
  have H := Lib.hid h
  have H2 := Lib.hid h2
  clear h h2
  go_enter Try.func58, Try.ntmps58
  go_wp2
  go_loopw [5] (fun i wr => ∃ j : Nat, j ≤ xss.length ∧ i = .int .i64 j ∧ Drawn w wr) (fun i _ => xss.length - (intOf i).toNat)
  case atStart => exact ⟨0, by omega, rfl, Drawn.refl _⟩
  case round =>
    obtain ⟨j, hj, rfl, hd⟩ := hrel
    by_cases hlt : j < xss.length
    · obtain ⟨b, o, c', B, ci, he, -, -, f0, k0, h1, h2⟩ := (H.out.up hd.up).at_ hlt
      obtain ⟨b2, o2, c2', B2, ci2, he2, -, -, f1, k1, h3, h4⟩ := (H2.out.up hd.up).at_ hlt
      obtain ⟨rfl, rfl⟩ : A = some ⟨b, o, none⟩ ∧ c = c' := by simpa using he
      obtain ⟨rfl, rfl⟩ : A2 = some ⟨b2, o2, none⟩ ∧ c2 = c2' := by simpa using he2
      have K0 := Lib.hid k0
      have K1 := Lib.hid k1
      clear he he2 k0 k1
      go_wp2
      go_quiet ((go_at_call 61; exact quiet_drawn (eqInt64S_same _ S T _ _ xss[j] (K0.out.up (by repeat (first | exact Chg.refl _ _ | apply Chg.drew | apply Chg.drewN | refine Chg.alloc ?_ _))) (K1.out.up (by repeat (first | exact Chg.refl _ _ | apply Chg.drew | apply Chg.drewN | refine Chg.alloc ?_ _))))))
      go_wp2
      go_roundw
      case rel => exact ⟨j + 1, by omega, by go_num, hd.drewN _⟩
      case measure => simp [intOf]; omega
    · go_wp2
      go_ret
      exact ⟨rfl, hd.up⟩
def cntIntSS (xss : List (List Int)) : Nat := (xss.map List.length).sum
def cntTo (xss : List (List Int)) (j : Nat) : Nat := ((xss.take j).map List.length).sum
theorem cntTo_succ {xss : List (List Int)} {j : Nat} (h : j < xss.length) : cntTo xss (j + 1) = cntTo xss j + xss[j].length := by
  unfold cntTo
  rw [List.take_succ_eq_append_getElem h, List.map_append, List.sum_append]
  simp
theorem cntTo_le (xss : List (List Int)) (j : Nat) : cntTo xss j ≤ cntIntSS xss := by
  unfold cntTo cntIntSS
  conv => rhs; rw [← List.take_append_drop j xss]
  rw [List.map_append, List.sum_append]
  omega
theorem cntTo_all (xss : List (List Int)) : cntTo xss xss.length = cntIntSS xss := by simp [cntTo, cntIntSS]
/-- in the middle of marking: the row reads as before; the first lists bear their marks -/
def MarkSS (w : World) (S : Nat → Prop) (v : Value) (xss : List (List Int)) (k : Int) (j : Nat) : Prop :=
  ∃ (vs : List Value) (R : Nat → Prop) (Q : Nat → Nat → Prop), Raw w R 1 v xss.length vs ∧ (∀ b, R b → S b) ∧ (∀ i b, Q i b → S b ∧ ¬ R b) ∧ (∀ i j b, Q i b → Q j b → i = j) ∧
    ∀ i (h : i < xss.length), ∃ u, vs[i]? = some u ∧ Ints w (Q i) u (if i < j then marks (k + cntTo xss i) xss[i].length else xss[i])
def MIntSS (w : World) (S : Nat → Prop) (v : Value) (xss : List (List Int)) (k : Int) : Prop := MarkSS w S v xss k xss.length
theorem MarkSS.keep {S T : Nat → Prop} {w w' : World} {v : Value} {xss : List (List Int)} {k : Int} {j : Nat} (h : MarkSS w S v xss k j) (g : Chg T w w') (hd : ∀ b, b < w.heap.size → S b → ¬ T b) : MarkSS w' S v xss k j := by
  obtain ⟨vs, R, Q, h1, h2, h3, h4, h5⟩ := h
  exact ⟨vs, R, Q, h1.keep g (fun b hb hr => hd b hb (h2 b hr)), h2, h3, h4, fun i hi => by
    obtain ⟨u, hu, hk⟩ := h5 i hi
    exact ⟨u, hu, hk.keep g (fun b hb hq => hd b hb (h3 i b hq).1)⟩⟩
theorem MIntSS.keep {S T : Nat → Prop} {w w' : World} {v : Value} {xss : List (List Int)} {k : Int} (h : MIntSS w S v xss k) (g : Chg T w w') (hd : ∀ b, b < w.heap.size → S b → ¬ T b) : MIntSS w' S v xss k := MarkSS.keep h g hd
theorem MIntSS.up {S : Nat → Prop} {w w' : World} {v : Value} {xss : List (List Int)} {k : Int} (h : MIntSS w S v xss k) (g : Up w w') : MIntSS w' S v xss k := MarkSS.keep h g fun _ _ _ h => h
theorem MarkSS.shape {S : Nat → Prop} {w : World} {v : Value} {xss : List (List Int)} {k : Int} {j : Nat} (h : MarkSS w S v xss k j) : ∃ A c, v = .slice A xss.length c ∧ xss.length ≤ c ∧ c ≤ 9223372036854775807 ∧ (A = none → c = 0) := by
  obtain ⟨vs, R, Q, h1, _⟩ := h
  exact h1.shape
theorem MarkSS.start {S : Nat → Prop} {w : World} {v : Value} {xss : List (List Int)} {k : Int} (h : IntSS w S v xss) : MarkSS w S v xss k 0 := by
  obtain ⟨vs, R, Q, h1, h2, h3, h4, h5⟩ := h
  exact ⟨vs, R, Q, h1, h2, h3, h4, fun i hi => by rw [if_neg (by omega)]; exact h5 i hi⟩
/-- an element, and what is known when it has been marked -/
theorem MarkSS.at_ {S : Nat → Prop} {w : World} {v : Value} {xss : List (List Int)} {k : Int} {j : Nat} (h : MarkSS w S v xss k j) (hj : j < xss.length) : ∃ b o c A ci, ∃ Qj : Nat → Prop, v = .slice (some ⟨b, o, none⟩) xss.length c ∧ b < w.heap.size ∧ w.cell? ⟨b, o + j, none⟩ = some (.slice A xss[j].length ci) ∧ Ints w Qj (.slice A xss[j].length ci) xss[j] ∧ xss[j].length ≤ ci ∧ ci ≤ 9223372036854775807 ∧ (∀ x, Qj x → S x) ∧
    ∀ w', Chg Qj w w' → MInts w' Qj (.slice A xss[j].length ci) xss[j] (k + cntTo xss j) → MarkSS w' S v xss k (j + 1) := by
  obtain ⟨vs, R, Q, h1, hR, hQ, hD, h5⟩ := h
  obtain ⟨h0, A, c, rfl, h2, h3, h4, _⟩ := h1
  obtain ⟨b, o, rfl, hs, hb, hc⟩ := h4 (by omega)
  obtain ⟨u, hu, hk⟩ := h5 j hj
  rw [if_neg (by omega)] at hk
  obtain ⟨Ai, ci, rfl, h6, h7, _⟩ := hk.shape
  obtain ⟨hlt, he⟩ := List.getElem?_eq_some_iff.1 hu
  refine ⟨b, o, c, Ai, ci, Q j, rfl, hb, ?_, hk, h6, h7, fun x hx => (hQ j x hx).1, fun w' g hm => ?_⟩
  · rw [← he]
    exact (hc j hlt).1
  · refine ⟨vs, R, Q, ⟨h0, _, c, rfl, h2, h3, fun hp => ?_, by simp⟩, hR, hQ, hD, fun i hi => ?_⟩
    · refine ⟨b, o, rfl, hs, Nat.lt_of_lt_of_le hb g.size, fun t ht => ?_⟩
      have hn : ¬ Q j b := fun hq => (hQ j b hq).2 hs
      exact ⟨g.cell (hc t ht).1 hn, (g.frozen (hc t ht).1 hn).trans (hc t ht).2⟩
    · by_cases e : i = j
      · subst e
        refine ⟨_, hu, ?_⟩
        rw [if_pos (by omega)]
        exact hm
      · obtain ⟨ui, hui, hki⟩ := h5 i hi
        refine ⟨ui, hui, ?_⟩
        have e2 : (i < j + 1) = (i < j) := by rw [eq_iff_iff]; omega
        simp only [e2]
        exact hki.keep g (fun x _ h1 h2 => e (hD i j x h1 h2))
theorem MIntSS.at_ {S : Nat → Prop} {w : World} {v : Value} {xss : List (List Int)} {k : Int} (h : MIntSS w S v xss k) {j : Nat} (hj : j < xss.length) : ∃ b o c A ci, ∃ Qj : Nat → Prop, v = .slice (some ⟨b, o, none⟩) xss.length c ∧ w.cell? ⟨b, o + j, none⟩ = some (.slice A xss[j].length ci) ∧ MInts w Qj (.slice A xss[j].length ci) xss[j] (k + cntTo xss j) ∧ xss[j].length ≤ ci ∧ ci ≤ 9223372036854775807 := by
  obtain ⟨vs, R, Q, h1, hR, hQ, hD, h5⟩ := h
  obtain ⟨h0, A, c, rfl, h2, h3, h4, _⟩ := h1
  obtain ⟨b, o, rfl, hs, hb, hc⟩ := h4 (by omega)
  obtain ⟨u, hu, hk⟩ := h5 j hj
  rw [if_pos hj] at hk
  obtain ⟨Ai, ci, rfl, h6, h7, _⟩ := hk.shape
  rw [marks_length] at hu hk h6
  obtain ⟨hlt, he⟩ := List.getElem?_eq_some_iff.1 hu
  refine ⟨b, o, c, Ai, ci, Q j, rfl, ?_, hk, h6, h7⟩
  rw [← he]
  exact (hc j hlt).1
set_option maxHeartbeats 2000000 in
theorem markIntSS (w : World) (S : Nat → Prop) (v : Value) (xss : List (List Int)) (k : Int) (hk : 0 ≤ k) (hb : k + cntIntSS xss ≤ 4611686018427387904) (h : IntSS w S v xss) :
    Calls Try.prog 62 #[v, .int .i64 k] w fun e w' => e = .returned (.int .i64 (k + cntIntSS xss)) ∧ Chg S w w' ∧ MIntSS w' S v xss k := by
  obtain ⟨A, c, rfl, hlc, hcm, -⟩ := h.shape
  have H := Lib.hid (MarkSS.start (k := k) h)
  have HA := Lib.hid (cntTo_all xss)
  clear h
  go_enter Try.func62, Try.ntmps62
  go_wp2
  go_loopw [1, 5] (fun q i wr => ∃ j : Nat, j ≤ xss.length ∧ i = .int .i64 j ∧ q = .int .i64 (k + cntTo xss j) ∧ Hid (Chg S w wr) ∧ Hid (MarkSS wr S (.slice A xss.length c) xss k j)) (fun _ i _ => xss.length - (intOf i).toNat)
  case atStart => exact ⟨0, by omega, rfl, by simp [cntTo], Chg.refl _ _, H.out⟩
  clear H
  case round =>
    obtain ⟨j, hj, rfl, rfl, hg, hm⟩ := hrel
    by_cases hlt : j < xss.length
    · obtain ⟨b, o, c', B, ci, Qj, he, hbz, f0, k0, h1, h2, h3, h4⟩ := hm.out.at_ hlt
      obtain ⟨rfl, rfl⟩ : A = some ⟨b, o, none⟩ ∧ c = c' := by simpa using he
      have K0 := Lib.hid k0
      have HS := Lib.hid h3
      have HN := Lib.hid h4
      have hle1 := cntTo_le xss (j + 1)
      have HC := Lib.hid (cntTo_succ hlt)
      have hle2 : cntTo xss j + xss[j].length ≤ cntIntSS xss := by rw [← HC.out]; exact hle1
      have hk2 : (0 : Int) ≤ k + cntTo xss j := by omega
      clear he k0 h3 h4 hm hle1
      go_wp2_with fail
      refine (markInts _ Qj _ xss[j] (k + cntTo xss j) hk2 (by unfold cntInts; omega) K0.out).mono ?_
      rintro e w1 ⟨rfl, g1, k1⟩
      have HX := Lib.hid (HN.out _ g1 k1)
      have HG := Lib.hid (Chg.trans hg.out (g1.mono (fun x _ hx => HS.out x hx)))
      clear g1 k1 f0
      go_wp2
      go_roundw
      case rel => exact ⟨j + 1, by omega, by go_num, by rw [HC.out]; unfold cntInts; simp only [Value.int.injEq, true_and]; omega, HG.out, HX.out⟩
      case measure => simp [intOf]; omega
    · obtain rfl : j = xss.length := by omega
      go_wp2
      go_ret
      exact ⟨ret_int (by rw [HA.out]), hg.out, hm.out⟩
set_option maxHeartbeats 2000000 in
theorem heldIntSS (w : World) (S : Nat → Prop) (v : Value) (xss : List (List Int)) (k : Int) (hk : 0 ≤ k) (hb : k + cntIntSS xss ≤ 4611686018427387904) (h : MIntSS w S v xss k) :
    Calls Try.prog 157 #[v, .int .i64 k] w fun e w' => e = .returned (.int .i64 (k + cntIntSS xss)) ∧ Up w w' := by
  obtain ⟨A, c, rfl, hlc, hcm, -⟩ := MarkSS.shape h
  have H := Lib.hid h
  have HA := Lib.hid (cntTo_all xss)
  clear h
  go_enter Try.func157, Try.ntmps157
  go_wp2
  go_loopw [1, 5] (fun q i wr => ∃ j : Nat, j ≤ xss.length ∧ i = .int .i64 j ∧ q = .int .i64 (k + cntTo xss j) ∧ Hid (Up w wr)) (fun _ i _ => xss.length - (intOf i).toNat)
  case atStart => exact ⟨0, by omega, rfl, by simp [cntTo], Chg.refl _ _⟩
  case round =>
    obtain ⟨j, hj, rfl, rfl, hg⟩ := hrel
    by_cases hlt : j < xss.length
    · obtain ⟨b, o, c', B, ci, Qj, he, f0, k0, h1, h2⟩ := (H.out.up hg.out).at_ hlt
      obtain ⟨rfl, rfl⟩ : A = some ⟨b, o, none⟩ ∧ c = c' := by simpa using he
      have K0 := Lib.hid k0
      have hle1 := cntTo_le xss (j + 1)
      have HC := Lib.hid (cntTo_succ hlt)
      have hle2 : cntTo xss j + xss[j].length ≤ cntIntSS xss := by rw [← HC.out]; exact hle1
      have hk2 : (0 : Int) ≤ k + cntTo xss j := by omega
      have hneg : decide (k + (cntTo xss j : Int) + (cntInts xss[j] : Int) < 0) = false := decide_eq_false (by omega)
      clear he k0 hle1
      go_wp2_with fail
      refine (heldInts _ Qj _ xss[j] (k + cntTo xss j) hk2 (by unfold cntInts; omega) K0.out).mono ?_
      rintro e w1 ⟨rfl, g1⟩
      have HG := Lib.hid (Chg.trans hg.out g1)
      clear g1 f0
      go_wp2
      go_roundw
      case rel => exact ⟨j + 1, by omega, by go_num, by rw [HC.out]; unfold cntInts; simp only [Value.int.injEq, true_and]; omega, HG.out⟩
      case measure => simp [intOf]; omega
    · obtain rfl : j = xss.length := by omega
      go_wp2
      go_ret
      exact ⟨ret_int (by rw [HA.out]), hg.out⟩
end Go.Proofs.Ytchfjglofmphfaa
section
set_option linter.unusedSimpArgs false
set_option linter.unusedVariables false
namespace Go.Proofs.Ytchfjglofmphfaa
open Go.ChangeShapes Go.WideShapes Go.ChangeAt Go.RowKit
def Nst {α : Type} (m : Nat) (E : World → List Value → α → Prop) (w : World) (R : Nat → Prop) (v : Value) (xs : List α) : Prop :=
  ∃ cs, Raw w R m v xs.length cs ∧ ∀ i (hi : i < xs.length), E w ((cs.drop (i * m)).take m) xs[i]
section
variable {α : Type} {m : Nat} {E E' : World → List Value → α → Prop} {w w' : World} {R S T : Nat → Prop} {v : Value} {xs : List α}
theorem Nst.keep (h : Nst m E w R v xs) (hE : ∀ vs x, E w vs x → E' w' vs x) (g : Chg T w w') (hd : ∀ b, b < w.heap.size → R b → ¬ T b) : Nst m E' w' R v xs :=
  let ⟨cs, h1, h2⟩ := h; ⟨cs, h1.keep g hd, fun i hi => hE _ _ (h2 i hi)⟩
theorem Nst.up (h : Nst m E w R v xs) (hE : ∀ vs x, E w vs x → E w' vs x) (g : Up w w') : Nst m E w' R v xs := h.keep hE g fun _ _ _ h => h
theorem Nst.mono (h : Nst m E w R v xs) (hE : ∀ vs x, E w vs x → E' w vs x) (hs : ∀ b, b < w.heap.size → R b → S b) : Nst m E' w S v xs :=
  let ⟨cs, h1, h2⟩ := h; ⟨cs, h1.mono hs, fun i hi => hE _ _ (h2 i hi)⟩
theorem Nst.shape (h : Nst m E w R v xs) : ∃ A c, v = .slice A xs.length c ∧ xs.length ≤ c ∧ c ≤ 9223372036854775807 ∧ (A = none → c = 0) :=
  let ⟨_, h1, _⟩ := h; h1.shape
theorem Nst.nil (w : World) (R : Nat → Prop) (A : Option Addr) (c : Nat) (hc : c ≤ 9223372036854775807) (hA : A = none → c = 0 := by simp) : Nst m E w R (.slice A 0 c) ([] : List α) :=
  ⟨[], Raw.nil w R m c A hc hA, fun i hi => absurd hi (by simp)⟩
theorem chunk_lt {i n m j : Nat} (hi : i < n) (hj : j < m) : i * m + j < n * m := by
  have : (i + 1) * m ≤ n * m := Nat.mul_le_mul_right m hi
  rw [Nat.add_mul] at this
  omega
theorem Nst.at_ (h : Nst m E w R v xs) {i : Nat} (hi : i < xs.length) : ∃ b o c vs, v = .slice (some ⟨b, o, none⟩) xs.length c ∧ R b ∧ b < w.heap.size ∧ vs.length = m ∧ E w vs xs[i] ∧
    ∀ j u, vs[j]? = some u → w.cell? ⟨b, o + i * m + j, none⟩ = some u ∧ w.frozen? ⟨b, o + i * m + j, none⟩ = false := by
  obtain ⟨cs, ⟨h0, A, c, hv, h1, h2, h4, _⟩, h5⟩ := h
  obtain ⟨b, o, rfl, hs, hb, hc⟩ := h4 (by omega)
  have hlen : ((cs.drop (i * m)).take m).length = m := by
    have : (i + 1) * m ≤ xs.length * m := Nat.mul_le_mul_right m hi
    rw [Nat.add_mul] at this
    simp
    omega
  refine ⟨b, o, c, _, hv, hs, hb, hlen, h5 i hi, fun j u hu => ?_⟩
  have hj : j < m := by
    obtain ⟨hj, _⟩ := List.getElem?_eq_some_iff.1 hu
    omega
  have hlt := chunk_lt hi hj
  have hcc := hc (i * m + j) (by omega)
  rw [← Nat.add_assoc] at hcc
  rw [List.getElem?_take_of_lt hj, List.getElem?_drop] at hu
  obtain ⟨hj2, he⟩ := List.getElem?_eq_some_iff.1 hu
  rw [he] at hcc
  exact hcc
/-- the elements that were copied so far -/
def ChunkIn (m : Nat) (E : World → List Value → α → Prop) (w : World) (cs : List Value) (xs : List α) (j : Nat) : Prop :=
  cs.length = j * m ∧ ∀ i (hi : i < xs.length), i < j → E w ((cs.drop (i * m)).take m) xs[i]
theorem ChunkIn.start : ChunkIn m E w [] xs 0 := ⟨by simp, fun i _ h => by omega⟩
theorem ChunkIn.keep {cs : List Value} {j : Nat} (h : ChunkIn m E w cs xs j) (hE : ∀ vs x, E w vs x → E' w' vs x) : ChunkIn m E' w' cs xs j :=
  ⟨h.1, fun i hi hij => hE _ _ (h.2 i hi hij)⟩
theorem ChunkIn.next {cs vs : List Value} {j : Nat} (h : ChunkIn m E w cs xs j) (hj : j < xs.length) (hl : vs.length = m) (hv : E w vs xs[j]) : ChunkIn m E w (cs ++ vs) xs (j + 1) := by
  refine ⟨by rw [List.length_append, h.1, hl, Nat.add_mul]; omega, fun i hi hij => ?_⟩
  by_cases he : i < j
  · have hle : (i + 1) * m ≤ j * m := Nat.mul_le_mul_right m he
    rw [Nat.add_mul] at hle
    have h1 := h.1
    have e : ((cs ++ vs).drop (i * m)).take m = (cs.drop (i * m)).take m := by
      rw [List.drop_append_of_le_length (by omega), List.take_append_of_le_length (by simp; omega)]
    rw [e]
    exact h.2 i hi he
  · obtain rfl : i = j := by omega
    have e : ((cs ++ vs).drop (i * m)).take m = vs := by
      rw [← h.1, List.drop_left, ← hl, List.take_length]
    rw [e]
    exact hv
theorem Nst.done {cs : List Value} {b : Nat} (h : Copying w b m xs.length xs.length cs) (k : ChunkIn m E w cs xs xs.length) (hS : R b) (hb : b < w.heap.size) (hm : xs.length ≤ 9223372036854775807) : Nst m E w R (.slice (some ⟨b, 0, none⟩) xs.length xs.length) xs :=
  ⟨cs, Copying.done h hS hb k.1 hm, fun i hi => k.2 i hi hi⟩
theorem Copying.grows {b n j : Nat} {cs : List Value} (h : Copying w b m n j cs) (hl : cs.length = j * m) (vs : List Value) : Copying w b m n j (cs ++ vs) := fun t ht => by
  obtain ⟨h1, h2, h3⟩ := h t ht
  refine ⟨h1, h2, fun hlt => ?_⟩
  rw [h3 hlt, List.getElem?_append_left (by omega)]
/-- one element more is laid -/
theorem Copying.nextm {b n j : Nat} {cs vs : List Value} (h : Copying w b m n j cs) (hj : j < n) (hc : cs.length = j * m) (hl : vs.length = m) : Copying (w.setCells b (j * m) vs) b m n (j + 1) (cs ++ vs) :=
  Copying.next (Copying.grows h hc vs) hj hl fun i hi => by
    rw [List.getElem?_append_right (by omega), hc, Nat.add_sub_cancel_left]
    exact List.getElem?_eq_getElem hi
theorem Copying.next1 {b n j : Nat} {cs : List Value} (h : Copying w b 1 n j cs) (hj : j < n) (hc : cs.length = j * 1) (u : Value) : Copying (w.setCell ⟨b, j, none⟩ u) b 1 n (j + 1) (cs ++ [u]) := by
  have h1 := Copying.nextm h hj hc (vs := [u]) rfl
  rw [Nat.mul_one] at h1
  exact h1
/-- the sums of what the first elements are worth -/
def cntF (f : α → Nat) (xs : List α) (j : Nat) : Nat := ((xs.take j).map f).sum
theorem cntF_succ {f : α → Nat} {j : Nat} (h : j < xs.length) : cntF f xs (j + 1) = cntF f xs j + f xs[j] := by
  unfold cntF
  rw [List.take_succ_eq_append_getElem h, List.map_append, List.sum_append]
  simp
theorem cntF_le {f : α → Nat} {i j : Nat} (h : i ≤ j) : cntF f xs i ≤ cntF f xs j := by
  unfold cntF
  have e : (xs.take j) = (xs.take j).take i ++ (xs.take j).drop i := (List.take_append_drop i _).symm
  rw [List.take_take, Nat.min_eq_left h] at e
  rw [e]
  simp
def szF (f : α → Nat) (xs : List α) : Nat := xs.length + cntF f xs xs.length
theorem szF_at {f : α → Nat} {j : Nat} (h : j < xs.length) : f xs[j] + xs.length ≤ szF f xs := by
  have h1 := cntF_succ (f := f) h
  have h2 := cntF_le (f := f) (xs := xs) (show j + 1 ≤ xs.length by omega)
  unfold szF
  omega
end
theorem Up.of_eq {w w' : World} (h : w = w') : Up w w' := h ▸ Chg.refl _ _
theorem CellF.set {w : World} {p : Addr} {u u' : Value} (h : CellF w p u') : CellF (w.setCell p u) p u := ⟨World.cell?_setCell_same _ _ _ h.1, by simpa using h.2⟩
theorem CellF.set_ne {w : World} {p q : Addr} {u x : Value} (h : CellF w p u) (hn : p ≠ q) : CellF (w.setCell q x) p u := ⟨(World.cell?_setCell_other _ _ _ _ (Ne.symm hn)).trans h.1, by simpa using h.2⟩
/-- blocks between lo and hi, of three kinds: rows of structs, rows of slices, rows of numbers -/
def ApartN (lo hi : Nat) (M H L : Nat → Prop) : Prop :=
  (∀ b, M b ∨ H b ∨ L b → lo ≤ b ∧ b < hi) ∧ (∀ b, M b → ¬ H b) ∧ (∀ b, M b → ¬ L b) ∧ (∀ b, H b → ¬ L b)
def Un (A B : Nat → Prop) : Nat → Prop := fun b => A b ∨ B b
theorem ApartN.none (lo hi : Nat) : ApartN lo hi Nowhere Nowhere Nowhere := ⟨fun b h => h.elim (fun h => h.elim) fun h => h.elim (fun h => h.elim) fun h => h.elim, fun b h => h.elim, fun b h => h.elim, fun b h => h.elim⟩
theorem ApartN.row {lo hi g : Nat} (h1 : lo ≤ g) (h2 : g < hi) : ApartN lo hi Nowhere (fun b => b = g) (New (g + 1) hi) :=
  ⟨fun b h => by
    rcases h with h | h | h
    · exact h.elim
    · have h : b = g := h
      omega
    · have := h.1
      exact ⟨by omega, h.2⟩, fun b h => h.elim, fun b h => h.elim, fun b h k => by
    have h : b = g := h
    have := k.1
    omega⟩
theorem ApartN.leaf {lo hi g : Nat} (h1 : lo ≤ g) : ApartN lo hi Nowhere Nowhere (New g hi) :=
  ⟨fun b h => by
    rcases h with h | h | h
    · exact h.elim
    · exact h.elim
    · exact ⟨Nat.le_trans h1 h.1, h.2⟩, fun b h => h.elim, fun b h => h.elim, fun b h => h.elim⟩
theorem ApartN.widen {lo lo' hi hi' : Nat} {M H L : Nat → Prop} (h : ApartN lo hi M H L) (h1 : lo' ≤ lo) (h2 : hi ≤ hi') : ApartN lo' hi' M H L :=
  ⟨fun b hb => by
    have := h.1 b hb
    omega, h.2⟩
theorem ApartN.un {lo mid hi : Nat} {M H L M' H' L' : Nat → Prop} (h : ApartN lo mid M H L) (k : ApartN mid hi M' H' L') (h1 : lo ≤ mid) (h2 : mid ≤ hi) : ApartN lo hi (Un M M') (Un H H') (Un L L') := by
  have a1 : ∀ b, M b → b < mid := fun b x => (h.1 b (.inl x)).2
  have a2 : ∀ b, H b → b < mid := fun b x => (h.1 b (.inr (.inl x))).2
  have a3 : ∀ b, L b → b < mid := fun b x => (h.1 b (.inr (.inr x))).2
  have c1 : ∀ b, M' b → mid ≤ b := fun b x => (k.1 b (.inl x)).1
  have c2 : ∀ b, H' b → mid ≤ b := fun b x => (k.1 b (.inr (.inl x))).1
  have c3 : ∀ b, L' b → mid ≤ b := fun b x => (k.1 b (.inr (.inr x))).1
  refine ⟨fun b x => ?_, fun b x y => ?_, fun b x y => ?_, fun b x y => ?_⟩
  · rcases x with (x | x) | (x | x) | (x | x)
    · have := h.1 b (.inl x); omega
    · have := k.1 b (.inl x); omega
    · have := h.1 b (.inr (.inl x)); omega
    · have := k.1 b (.inr (.inl x)); omega
    · have := h.1 b (.inr (.inr x)); omega
    · have := k.1 b (.inr (.inr x)); omega
  · rcases x with x | x <;> rcases y with y | y
    · exact h.2.1 b x y
    · have := a1 b x; have := c2 b y; omega
    · have := c1 b x; have := a2 b y; omega
    · exact k.2.1 b x y
  · rcases x with x | x <;> rcases y with y | y
    · exact h.2.2.1 b x y
    · have := a1 b x; have := c3 b y; omega
    · have := c1 b x; have := a3 b y; omega
    · exact k.2.2.1 b x y
  · rcases x with x | x <;> rcases y with y | y
    · exact h.2.2.2 b x y
    · have := a2 b x; have := c3 b y; omega
    · have := c2 b x; have := a3 b y; omega
    · exact k.2.2.2 b x y
theorem ApartN.addRow {lo g hi : Nat} {M H L : Nat → Prop} (h : ApartN (g + 1) hi M H L) (h1 : lo ≤ g) (h2 : g < hi) : ApartN lo hi (Un (fun b => b = g) M) H L := by
  have a : ∀ b, M b ∨ H b ∨ L b → g < b := fun b x => (h.1 b x).1
  refine ⟨fun b x => ?_, fun b x y => ?_, fun b x y => ?_, h.2.2.2⟩
  · rcases x with (x | x) | x
    · have x : b = g := x
      omega
    · have := h.1 b (.inl x); omega
    · have := h.1 b (.inr x); omega
  · rcases x with x | x
    · have x : b = g := x
      have := a b (.inr (.inl y))
      omega
    · exact h.2.1 b x y
  · rcases x with x | x
    · have x : b = g := x
      have := a b (.inr (.inr y))
      omega
    · exact h.2.2.1 b x y
end Go.Proofs.Ytchfjglofmphfaa
end
