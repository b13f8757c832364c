/- The program's columns that stitches take and make; RowSources and RowResults on both sides. No condition but room. The laws' own helpers on rows and on slices of slices of numbers. No condition but room. Where the columns of a row are put together and moved: plain data. No condition. -/
import Derived.Test.YtgdcffbakjfacaaDoorFC5
import Derived.Test.YtgdcffbakjfacaaDoorFC1
namespace Go.Proofs.YtgdcffbakjfacaaDoor
open Go.ChangeShapes Go.WideShapes Go.ChangeAt Go.RowKit
theorem openRow {w : World} {S : Nat → Prop} {v : Value} {r : RowM} (h : RowV w S v r) : ∃ A c, v = .agg #[.int .i64 r.d, .int .i64 r.c, .slice A r.xs.length c] ∧ Ints w S (.slice A r.xs.length c) r.xs ∧ r.xs.length ≤ c ∧ c ≤ 9223372036854775807 := by
  obtain ⟨A, c, h1, h2, h3, h4, _⟩ := h.shape
  exact ⟨A, c, h1, h2, h3, h4⟩
def sourcesOut (r : RowM) : List (List Int) := if rowCodeM r.d r.c r.xs = 0 then listsM takenK 0 r.xs else []
theorem laid_st_sources {r : RowM} (h : rowCodeM r.d r.c r.xs = 0) : stB r.xs = true := by
  obtain ⟨_, _, h3, h4, _, _⟩ := laid_of h
  unfold stB
  rw [Bool.and_eq_true]
  exact ⟨List.all_eq_true.2 h4, decide_eq_true h3⟩
def resultsOut (r : RowM) : List (List Int) := if rowCodeM r.d r.c r.xs = 0 then listsM madeK 0 r.xs else []
theorem laid_st_results {r : RowM} (h : rowCodeM r.d r.c r.xs = 0) : stB r.xs = true := by
  obtain ⟨_, _, h3, h4, _, _⟩ := laid_of h
  unfold stB
  rw [Bool.and_eq_true]
  exact ⟨List.all_eq_true.2 h4, decide_eq_true h3⟩
end Go.Proofs.YtgdcffbakjfacaaDoor
namespace Go.Proofs.YtgdcffbakjfacaaDoor
open Go.ChangeShapes Go.WideShapes Go.ChangeAt Go.RowKit
theorem cell_at {w : World} {cs : Array Value} {e : TypeId} {g t : Nat} {u : Value} (h : g = w.heap.size) (hu : cs[t]? = some u) : (w.alloc (.cells cs e)).cell? ⟨g, t, none⟩ = some u := by
  subst h
  rw [cell_new]; exact hu
/-- a cell that may be written -/
def CellF (w : World) (p : Addr) (u : Value) : Prop := w.cell? p = some u ∧ w.frozen? p = false
theorem CellF.up {w w' : World} {p : Addr} {u : Value} (g : Up w w') (h : CellF w p u) : CellF w' p u := ⟨g.cell h.1 id, (g.frozen h.1 id).trans h.2⟩
theorem cellF_at {w : World} {cs : Array Value} {e : TypeId} {g t : Nat} {u : Value} (h : g = w.heap.size) (hu : cs[t]? = some u) : CellF (w.alloc (.cells cs e)) ⟨g, t, none⟩ u := by
  refine ⟨cell_at h hu, ?_⟩
  subst h
  exact frozen_new _ _ _ _
theorem CellF.keep {S : Nat → Prop} {w w' : World} {p : Addr} {u : Value} (g : Chg S w w') (h : CellF w p u) (hp : ¬ S p.block) : CellF w' p u := ⟨g.cell h.1 hp, (g.frozen h.1 hp).trans h.2⟩
theorem up_pre {a b c : World} {S : Nat → Prop} (h : Up a b) (g : Chg S b c) : a.heap.size ≤ b.heap.size ∧ b.heap.size ≤ c.heap.size := ⟨h.size, g.size⟩
def cntIntSS (xss : List (List Int)) : Nat := (xss.map List.length).sum
def cntTo (xss : List (List Int)) (j : Nat) : Nat := ((xss.take j).map List.length).sum
theorem cntTo_succ {xss : List (List Int)} {j : Nat} (h : j < xss.length) : cntTo xss (j + 1) = cntTo xss j + xss[j].length := by
  unfold cntTo
  rw [List.take_succ_eq_append_getElem h, List.map_append, List.sum_append]
  simp
theorem cntTo_le (xss : List (List Int)) (j : Nat) : cntTo xss j ≤ cntIntSS xss := by
  unfold cntTo cntIntSS
  conv => rhs; rw [← List.take_append_drop j xss]
  rw [List.map_append, List.sum_append]
  omega
theorem cntTo_all (xss : List (List Int)) : cntTo xss xss.length = cntIntSS xss := by simp [cntTo, cntIntSS]
/-- in the middle of marking: the row reads as before; the first lists bear their marks -/
def MarkSS (w : World) (S : Nat → Prop) (v : Value) (xss : List (List Int)) (k : Int) (j : Nat) : Prop :=
  ∃ (vs : List Value) (R : Nat → Prop) (Q : Nat → Nat → Prop), Raw w R 1 v xss.length vs ∧ (∀ b, R b → S b) ∧ (∀ i b, Q i b → S b ∧ ¬ R b) ∧ (∀ i j b, Q i b → Q j b → i = j) ∧
    ∀ i (h : i < xss.length), ∃ u, vs[i]? = some u ∧ Ints w (Q i) u (if i < j then marks (k + cntTo xss i) xss[i].length else xss[i])
def MIntSS (w : World) (S : Nat → Prop) (v : Value) (xss : List (List Int)) (k : Int) : Prop := MarkSS w S v xss k xss.length
theorem MarkSS.keep {S T : Nat → Prop} {w w' : World} {v : Value} {xss : List (List Int)} {k : Int} {j : Nat} (h : MarkSS w S v xss k j) (g : Chg T w w') (hd : ∀ b, b < w.heap.size → S b → ¬ T b) : MarkSS w' S v xss k j := by
  obtain ⟨vs, R, Q, h1, h2, h3, h4, h5⟩ := h
  exact ⟨vs, R, Q, h1.keep g (fun b hb hr => hd b hb (h2 b hr)), h2, h3, h4, fun i hi => by
    obtain ⟨u, hu, hk⟩ := h5 i hi
    exact ⟨u, hu, hk.keep g (fun b hb hq => hd b hb (h3 i b hq).1)⟩⟩
theorem MIntSS.keep {S T : Nat → Prop} {w w' : World} {v : Value} {xss : List (List Int)} {k : Int} (h : MIntSS w S v xss k) (g : Chg T w w') (hd : ∀ b, b < w.heap.size → S b → ¬ T b) : MIntSS w' S v xss k := MarkSS.keep h g hd
theorem MIntSS.up {S : Nat → Prop} {w w' : World} {v : Value} {xss : List (List Int)} {k : Int} (h : MIntSS w S v xss k) (g : Up w w') : MIntSS w' S v xss k := MarkSS.keep h g fun _ _ _ h => h
theorem MarkSS.shape {S : Nat → Prop} {w : World} {v : Value} {xss : List (List Int)} {k : Int} {j : Nat} (h : MarkSS w S v xss k j) : ∃ A c, v = .slice A xss.length c ∧ xss.length ≤ c ∧ c ≤ 9223372036854775807 ∧ (A = none → c = 0) := by
  obtain ⟨vs, R, Q, h1, _⟩ := h
  exact h1.shape
theorem MarkSS.start {S : Nat → Prop} {w : World} {v : Value} {xss : List (List Int)} {k : Int} (h : IntSS w S v xss) : MarkSS w S v xss k 0 := by
  obtain ⟨vs, R, Q, h1, h2, h3, h4, h5⟩ := h
  exact ⟨vs, R, Q, h1, h2, h3, h4, fun i hi => by rw [if_neg (by omega)]; exact h5 i hi⟩
/-- an element, and what is known when it has been marked -/
theorem MarkSS.at_ {S : Nat → Prop} {w : World} {v : Value} {xss : List (List Int)} {k : Int} {j : Nat} (h : MarkSS w S v xss k j) (hj : j < xss.length) : ∃ b o c A ci, ∃ Qj : Nat → Prop, v = .slice (some ⟨b, o, none⟩) xss.length c ∧ b < w.heap.size ∧ w.cell? ⟨b, o + j, none⟩ = some (.slice A xss[j].length ci) ∧ Ints w Qj (.slice A xss[j].length ci) xss[j] ∧ xss[j].length ≤ ci ∧ ci ≤ 9223372036854775807 ∧ (∀ x, Qj x → S x) ∧
    ∀ w', Chg Qj w w' → MInts w' Qj (.slice A xss[j].length ci) xss[j] (k + cntTo xss j) → MarkSS w' S v xss k (j + 1) := by
  obtain ⟨vs, R, Q, h1, hR, hQ, hD, h5⟩ := h
  obtain ⟨h0, A, c, rfl, h2, h3, h4, _⟩ := h1
  obtain ⟨b, o, rfl, hs, hb, hc⟩ := h4 (by omega)
  obtain ⟨u, hu, hk⟩ := h5 j hj
  rw [if_neg (by omega)] at hk
  obtain ⟨Ai, ci, rfl, h6, h7, _⟩ := hk.shape
  obtain ⟨hlt, he⟩ := List.getElem?_eq_some_iff.1 hu
  refine ⟨b, o, c, Ai, ci, Q j, rfl, hb, ?_, hk, h6, h7, fun x hx => (hQ j x hx).1, fun w' g hm => ?_⟩
  · rw [← he]
    exact (hc j hlt).1
  · refine ⟨vs, R, Q, ⟨h0, _, c, rfl, h2, h3, fun hp => ?_, by simp⟩, hR, hQ, hD, fun i hi => ?_⟩
    · refine ⟨b, o, rfl, hs, Nat.lt_of_lt_of_le hb g.size, fun t ht => ?_⟩
      have hn : ¬ Q j b := fun hq => (hQ j b hq).2 hs
      exact ⟨g.cell (hc t ht).1 hn, (g.frozen (hc t ht).1 hn).trans (hc t ht).2⟩
    · by_cases e : i = j
      · subst e
        refine ⟨_, hu, ?_⟩
        rw [if_pos (by omega)]
        exact hm
      · obtain ⟨ui, hui, hki⟩ := h5 i hi
        refine ⟨ui, hui, ?_⟩
        have e2 : (i < j + 1) = (i < j) := by rw [eq_iff_iff]; omega
        simp only [e2]
        exact hki.keep g (fun x _ h1 h2 => e (hD i j x h1 h2))
theorem MIntSS.at_ {S : Nat → Prop} {w : World} {v : Value} {xss : List (List Int)} {k : Int} (h : MIntSS w S v xss k) {j : Nat} (hj : j < xss.length) : ∃ b o c A ci, ∃ Qj : Nat → Prop, v = .slice (some ⟨b, o, none⟩) xss.length c ∧ w.cell? ⟨b, o + j, none⟩ = some (.slice A xss[j].length ci) ∧ MInts w Qj (.slice A xss[j].length ci) xss[j] (k + cntTo xss j) ∧ xss[j].length ≤ ci ∧ ci ≤ 9223372036854775807 := by
  obtain ⟨vs, R, Q, h1, hR, hQ, hD, h5⟩ := h
  obtain ⟨h0, A, c, rfl, h2, h3, h4, _⟩ := h1
  obtain ⟨b, o, rfl, hs, hb, hc⟩ := h4 (by omega)
  obtain ⟨u, hu, hk⟩ := h5 j hj
  rw [if_pos hj] at hk
  obtain ⟨Ai, ci, rfl, h6, h7, _⟩ := hk.shape
  rw [marks_length] at hu hk h6
  obtain ⟨hlt, he⟩ := List.getElem?_eq_some_iff.1 hu
  refine ⟨b, o, c, Ai, ci, Q j, rfl, ?_, hk, h6, h7⟩
  rw [← he]
  exact (hc j hlt).1
end Go.Proofs.YtgdcffbakjfacaaDoor
namespace Go.Proofs.YtgdcffbakjfacaaDoor
/-- a column's needle, the one on which it is put together with its neighbours, the one to which it is moved -/
structure Tr where
  o : Int
  t : Int
  m : Int
def trOne (k s r : Int) (i : Nat) : Tr := if madeK k = 1 then ⟨2 * (s + i) + 1, 2 * s + 1, 2 * r + 1⟩ else ⟨2 * (s + i) + 1, 2 * (s + i) + 1, 2 * (r + i) + 1⟩
def trAt (k s r : Int) : List Tr := (List.range (takenK k).toNat).map (trOne k s r)
def trL : Int → Int → List Int → List Tr
  | _, _, [] => []
  | s, r, k :: ks => trAt k s r ++ trL (s + takenK k) (r + madeK k) ks
def Tr.R (x y : Tr) : Prop := x.o < y.o ∧ x.t ≤ y.t ∧ x.m ≤ y.m ∧ (x.t = y.t ↔ x.m = y.m)
def Tr.within (s r s' r' : Int) (x : Tr) : Prop := 2 * s + 1 ≤ x.t ∧ x.t ≤ x.o ∧ x.o ≤ 2 * s' - 1 ∧ 2 * r + 1 ≤ x.m ∧ x.m ≤ 2 * r' - 1
theorem taken_made {k : Int} (h : madeK k ≠ 1) : takenK k = madeK k := by
  unfold madeK at h ⊢
  unfold takenK
  split at h
  · rename_i h1
    rw [if_neg (by omega), if_pos (by omega), if_pos h1]
  · rename_i h1
    split at h
    · rename_i h2
      rw [if_neg (by omega), if_neg (by omega), if_pos h2, if_neg h1]
    · omega
theorem trAt_length (k s r : Int) : (trAt k s r).length = (takenK k).toNat := by simp [trAt]
theorem trAt_in (k s r : Int) : ∀ x ∈ trAt k s r, x.within s r (s + takenK k) (r + madeK k) := by
  intro x hx
  obtain ⟨i, hi, rfl⟩ := List.mem_map.1 hx
  have hi := List.mem_range.1 hi
  have hb := takenK_bd k
  have hm := madeK_bd k
  unfold Tr.within trOne
  by_cases h : madeK k = 1
  · rw [if_pos h]; simp only []; omega
  · rw [if_neg h]; simp only []; have := taken_made h; omega
theorem trAt_R (k s r : Int) : (trAt k s r).Pairwise Tr.R := by
  unfold trAt
  rw [List.pairwise_map]
  refine List.Pairwise.imp ?_ List.pairwise_lt_range
  intro i j hij
  have hij' : (i : Int) < j := by omega
  unfold trOne Tr.R
  by_cases h : madeK k = 1
  · rw [if_pos h, if_pos h]
    refine ⟨?_, ?_, ?_, ?_⟩ <;> dsimp only <;> omega
  · rw [if_neg h, if_neg h]
    refine ⟨?_, ?_, ?_, ?_⟩ <;> dsimp only <;> omega
theorem trL_ok : ∀ (ks : List Int) (s r : Int), (∀ x ∈ trL s r ks, x.within s r (s + sumF takenK ks) (r + sumF madeK ks)) ∧ (trL s r ks).Pairwise Tr.R ∧ 0 ≤ sumF takenK ks ∧ 0 ≤ sumF madeK ks
  | [], s, r => by simp [trL, sumF]
  | k :: ks, s, r => by
    obtain ⟨h1, h2, h3, h4⟩ := trL_ok ks (s + takenK k) (r + madeK k)
    have hb := takenK_bd k
    have hm := madeK_bd k
    have h0 := trAt_in k s r
    refine ⟨?_, ?_, by simp only [sumF]; omega, by simp only [sumF]; omega⟩
    · intro x hx
      simp only [sumF]
      rcases List.mem_append.1 hx with hx | hx
      · have := h0 x hx
        unfold Tr.within at *
        omega
      · have := h1 x hx
        unfold Tr.within at *
        omega
    · refine List.pairwise_append.2 ⟨trAt_R k s r, h2, fun x hx y hy => ?_⟩
      have hx := h0 x hx
      have hy := h1 y hy
      unfold Tr.within at hx hy
      unfold Tr.R
      have hle : x.o < y.t := by omega
      omega
theorem trL_length : ∀ (ks : List Int) (s r : Int), ((trL s r ks).length : Int) = sumF takenK ks
  | [], _, _ => by simp [trL, sumF]
  | k :: ks, s, r => by
    have := trL_length ks (s + takenK k) (r + madeK k)
    have hb := takenK_bd k
    simp only [trL, List.length_append, trAt_length, sumF]
    omega
theorem trL_append : ∀ (ks ls : List Int) (s r : Int), trL s r (ks ++ ls) = trL s r ks ++ trL (s + sumF takenK ks) (r + sumF madeK ks) ls
  | [], ls, s, r => by simp [trL, sumF]
  | k :: ks, ls, s, r => by
    simp only [List.cons_append, trL, trL_append ks ls, sumF, List.append_assoc]
    rw [Int.add_assoc, Int.add_assoc]
theorem trL_take {xs : List Int} {j : Nat} (h : j < xs.length) : trL 0 0 (xs.take (j + 1)) = trL 0 0 (xs.take j) ++ trAt xs[j] (sumF takenK (xs.take j)) (sumF madeK (xs.take j)) := by
  rw [List.take_succ_eq_append_getElem h, trL_append]
  simp [trL]
/-- what holds of the columns of a row that is laid out -/
structure TrOk (ts : List Tr) : Prop where
  len : ts.length ≤ 8
  pair : ts.Pairwise Tr.R
  bd : ∀ x ∈ ts, 1 ≤ x.t ∧ x.t ≤ x.o ∧ x.o ≤ 15 ∧ 1 ≤ x.m ∧ x.m ≤ 15
theorem LaidRow.tr {d c : Int} {xs : List Int} (h : LaidRow d c xs) : TrOk (trL 0 0 xs) := by
  obtain ⟨h1, h2, _, _⟩ := trL_ok xs 0 0
  have hl := trL_length xs 0 0
  have ht := h.taken
  have hm := h.made
  refine ⟨by omega, h2, fun x hx => ?_⟩
  have := h1 x hx
  unfold Tr.within at this
  omega
def ownsL (ts : List Tr) : List Int := ts.map Tr.o
def togL (ts : List Tr) : List Int := ts.map Tr.t
def movL (ts : List Tr) : List Int := ts.map Tr.m
theorem pair_get {ts : List Tr} (h : ts.Pairwise Tr.R) {i j : Nat} (hj : j < ts.length) (hij : i < j) : Tr.R (ts[i]'(by omega)) ts[j] := List.pairwise_iff_getElem.1 h i j (by omega) hj hij
theorem plan1_ok {ts : List Tr} (h : TrOk ts) : planCode (ownsL ts) (togL ts) = 0 := by
  obtain ⟨h1, h2, h3⟩ := h
  refine planCode_ok ?_ ?_ (by simp [ownsL, togL]) ?_
  · refine decide_eq_true ⟨fun i hi _ => ?_, by simpa [ownsL] using h1⟩
    have hi' : i < ts.length := by simpa [ownsL] using hi
    have hb := h3 _ (List.getElem_mem hi')
    simp only [ownsL, List.getElem_map]
    refine ⟨by omega, by omega, fun h0 => .inl ?_⟩
    exact (pair_get h2 (i := i - 1) hi' (by omega)).1
  · refine decide_eq_true ⟨fun i hi _ => ?_, by simpa [togL] using h1⟩
    have hi' : i < ts.length := by simpa [togL] using hi
    have hb := h3 _ (List.getElem_mem hi')
    simp only [togL, List.getElem_map]
    refine ⟨by omega, by omega, fun h0 => ?_⟩
    have := (pair_get h2 (i := i - 1) hi' (by omega)).2.1
    rcases Int.lt_or_eq_of_le this with h | h
    · exact .inl h
    · exact .inr ⟨by first | rfl | trivial, h⟩
  · refine decide_eq_true fun i hi h0 hl => ?_
    have hi' : i < ts.length := by simpa [togL] using hl
    have hR := pair_get h2 (i := i - 1) hi' (by omega)
    have hb := h3 _ (List.getElem_mem (show i - 1 < ts.length by omega))
    rw [ix_eq hl, ix_eq (show i - 1 < (togL ts).length by simp [togL]; omega), ix_eq (show i < (ownsL ts).length by simpa [ownsL] using hi')]
    simp only [togL, ownsL, List.getElem_map]
    rintro ⟨ha, hb2⟩
    have := hR.1
    omega
/-- the first of each run of equal numbers -/
def keepB (xs : List Int) (i : Nat) : Bool := decide (i = 0) || ix xs i != ix xs (i - 1)
def keepTo (xs : List Int) (j : Nat) : List Nat := (List.range j).filter (keepB xs)
def onceL (xs ys : List Int) (j : Nat) : List Int := (keepTo xs j).map (ix ys)
theorem onceL_yes {xs ys : List Int} {j : Nat} (h : keepB xs j = true) : onceL xs ys (j + 1) = onceL xs ys j ++ [ix ys j] := by
  simp [onceL, keepTo, List.range_succ, List.filter_append, h]
theorem onceL_no {xs ys : List Int} {j : Nat} (h : keepB xs j = false) : onceL xs ys (j + 1) = onceL xs ys j := by
  simp [onceL, keepTo, List.range_succ, List.filter_append, h]
theorem onceL_length (xs ys : List Int) (j : Nat) : (onceL xs ys j).length ≤ j := by
  unfold onceL keepTo
  rw [List.length_map]
  exact Nat.le_trans (List.length_filter_le _ _) (by simp)
theorem onceL_len2 (xs ys zs : List Int) (j : Nat) : (onceL xs ys j).length = (onceL xs zs j).length := by simp [onceL]
theorem keepTo_pair {ts : List Tr} (h : ts.Pairwise Tr.R) : (keepTo (togL ts) ts.length).Pairwise (fun i j => i < j ∧ j < ts.length ∧ ix (togL ts) i < ix (togL ts) j ∧ ix (movL ts) i < ix (movL ts) j) := by
  unfold keepTo
  have h1 : (List.range ts.length).Pairwise (fun i j => i < j ∧ j < ts.length) := by
    rw [List.pairwise_iff_getElem]
    intro i j hi hj hij
    simp at hi hj ⊢
    omega
  rw [List.pairwise_filter]
  refine List.Pairwise.imp ?_ h1
  intro i j hij _ hk
  obtain ⟨h2, h3⟩ := hij
  have hk0 : ix (togL ts) j ≠ ix (togL ts) (j - 1) := by
    unfold keepB at hk
    rw [Bool.or_eq_true] at hk
    rcases hk with hk | hk
    · have := of_decide_eq_true hk; omega
    · exact bne_iff_ne.1 hk
  have e : ∀ q (hq : q < ts.length), ix (togL ts) q = ts[q].t ∧ ix (movL ts) q = ts[q].m := fun q hq => by
    rw [ix_eq (by simpa [togL] using hq), ix_eq (by simpa [movL] using hq)]
    simp [togL, movL]
  have hR := pair_get h (i := j - 1) h3 (by omega)
  rw [(e j h3).1, (e (j - 1) (by omega)).1] at hk0
  rw [(e j h3).1, (e j h3).2, (e i (by omega)).1, (e i (by omega)).2]
  have hle : ts[i].t ≤ (ts[j - 1]'(by omega)).t ∧ ts[i].m ≤ (ts[j - 1]'(by omega)).m := by
    by_cases he : i = j - 1
    · subst he; omega
    · have := pair_get h (i := i) (j := j - 1) (by omega) (by omega)
      exact ⟨this.2.1, this.2.2.1⟩
  obtain ⟨r1, r2, r3, r4⟩ := hR
  refine ⟨h2, h3, by omega, ?_⟩
  have : (ts[j - 1]'(by omega)).m ≠ ts[j].m := fun hh => hk0 (r4.2 hh).symm
  omega
theorem keepTo_mem {xs : List Int} {n i : Nat} (h : i ∈ keepTo xs n) : i < n := by
  unfold keepTo at h
  exact List.mem_range.1 (List.mem_filter.1 h).1
theorem onceL_places {xs ys : List Int} {n : Nat} (tw : Bool) (hn : n ≤ 8) (hp : (keepTo xs n).Pairwise (fun i j => ix ys i < ix ys j)) (hb : ∀ i, i < n → 0 ≤ ix ys i ∧ ix ys i ≤ 23) : placesB tw (onceL xs ys n) = true := by
  refine decide_eq_true ⟨fun i hi _ => ?_, Nat.le_trans (onceL_length xs ys n) hn⟩
  have hi' : i < (keepTo xs n).length := by simpa [onceL] using hi
  have hm := keepTo_mem (List.getElem_mem hi')
  have := hb _ hm
  simp only [onceL, List.getElem_map]
  refine ⟨this.1, this.2, fun h0 => .inl ?_⟩
  exact List.pairwise_iff_getElem.1 hp (i - 1) i (by omega) hi' (by omega)
theorem plan2_ok {ts : List Tr} (h : TrOk ts) : planCode (onceL (togL ts) (togL ts) ts.length) (onceL (togL ts) (movL ts) ts.length) = 0 := by
  obtain ⟨h1, h2, h3⟩ := h
  have hp := keepTo_pair h2
  have e : ∀ q (hq : q < ts.length), ix (togL ts) q = ts[q].t ∧ ix (movL ts) q = ts[q].m := fun q hq => by
    rw [ix_eq (by simpa [togL] using hq), ix_eq (by simpa [movL] using hq)]
    simp [togL, movL]
  refine planCode_ok (onceL_places false h1 (hp.imp fun hh => hh.2.2.1) ?_) (onceL_places true h1 (hp.imp fun hh => hh.2.2.2) ?_) (onceL_len2 _ _ _ _) ?_
  · intro i hi
    have := h3 _ (List.getElem_mem hi)
    rw [(e i hi).1]
    omega
  · intro i hi
    have := h3 _ (List.getElem_mem hi)
    rw [(e i hi).2]
    omega
  · refine decide_eq_true fun i hi h0 hl => ?_
    have hk : i < (keepTo (togL ts) ts.length).length := by simpa [onceL] using hl
    have := (List.pairwise_iff_getElem.1 hp (i - 1) i (by omega) hk (by omega)).2.2.2
    rw [ix_eq hl, ix_eq (show i - 1 < (onceL (togL ts) (movL ts) ts.length).length by omega)]
    simp only [onceL, List.getElem_map]
    omega
end Go.Proofs.YtgdcffbakjfacaaDoor
