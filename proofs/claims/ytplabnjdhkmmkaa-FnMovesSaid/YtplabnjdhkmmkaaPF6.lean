/- The stacks that one stitch makes. No condition. Parts of slices of int64. No condition. Stacks of columns behind a row of stitches, as plain data; parts of a slice of numbers. No condition. Rows by value and behind a pointer: their tests and their codes. No condition. The columns that the stitches of a row take and make. No condition but room. The program's columns that stitches take and make; RowSources and RowResults on both sides. No condition but room. The laws' own helpers on rows and on slices of slices of numbers. No condition but room. Where the columns of a row are put together and moved: plain data. No condition. New columns and the targets of columns, on both sides. No condition but room. StacksAfter, the program's. No condition. StacksAfter, the reference's. No condition. StacksAfter of the reference: too thick or not; the whole. No condition. StacksAfter of the reference: the whole. No condition. Appending numbers to a row of one's own, as a step of a region that draws. No condition. The letters of a row of stitches, and their bounds: plain data. No condition. Rows under construction: slices of operations to which the call appends. No condition but room. -/
import Derived.Test.YtplabnjdhkmmkaaPF5
import Derived.Test.YtplabnjdhkmmkaaRep
import Derived.RegionTactic
import Derived.Test.YtplabnjdhkmmkaaPF2
import Derived.Laws.AppendOwnNone
import Derived.Deep.QuietTactic
section
set_option maxRecDepth 100000
set_option maxHeartbeats 1000000
set_option linter.unusedSimpArgs false
set_option linter.unusedVariables false
namespace Go.Proofs.Ytplabnjdhkmmkaa
open Go.ChangeShapes Go.WideShapes Go.ChangeAt Go.RowKit
/-- what a stitch makes of the stacks a, b that it takes first -/
def stepS (k a b : Int) : List Int := if k = 6 then [a + 1] else if k = 7 then [a] else List.replicate (madeK k).toNat 1
end Go.Proofs.Ytplabnjdhkmmkaa
end
section
set_option linter.unusedSimpArgs false
set_option linter.unusedVariables false
namespace Go.Proofs.Ytplabnjdhkmmkaa
open Go.ChangeShapes Go.WideShapes Go.ChangeAt Go.RowKit
theorem Ints.part {w : World} {S : Nat → Prop} {A A' : Option Addr} {c c' k : Nat} {xs : List Int} (h : Ints w S (.slice A xs.length c) xs) (i : Nat) (hik : i + k ≤ xs.length) (hc : k ≤ c') (hc2 : c' ≤ 9223372036854775807)
    (hA : ∀ b o, A = some ⟨b, o, none⟩ → 0 < k → A' = some ⟨b, o + i, none⟩) (hn : A' = none → c' = 0) : Ints w S (.slice A' k c') ((xs.drop i).take k) := by
  obtain ⟨A0, c0, he, h1, h2, h3, h4, h5⟩ := h
  obtain ⟨rfl, rfl⟩ : A = A0 ∧ c = c0 := by simpa using he
  have hlen : ((xs.drop i).take k).length = k := by rw [List.length_take, List.length_drop]; omega
  refine ⟨A', c', by rw [hlen], by rw [hlen]; exact hc, hc2, fun x hx => h3 x (List.mem_of_mem_drop (List.mem_of_mem_take hx)), fun hp => ?_, hn⟩
  rw [hlen] at hp
  obtain ⟨b, o, hA0, hS, hb, hcell⟩ := h4 (by omega)
  refine ⟨b, o + i, hA b o hA0 hp, hS, hb, fun t ht => ?_⟩
  rw [hlen] at ht
  have h9 := hcell (i + t) (by omega)
  rw [← Nat.add_assoc] at h9
  have e3 : ((xs.drop i).take k)[t]'(by omega) = xs[i + t]'(by omega) := by simp
  rw [e3]
  exact h9
end Go.Proofs.Ytplabnjdhkmmkaa
end
section
set_option linter.unusedSimpArgs false
set_option linter.unusedVariables false
namespace Go.Proofs.Ytplabnjdhkmmkaa
open Go.ChangeShapes Go.WideShapes Go.ChangeAt Go.RowKit
/-- how many columns are taken ahead of a stitch -/
def posS (ks : List Int) (j : Nat) : Nat := (sumF takenK (ks.take j)).toNat
theorem sumF_nonneg (ks : List Int) : 0 ≤ sumF takenK ks := by
  have := sumF_bd takenK 0 4 (by omega) (fun x => by have := takenK_bd x; omega) ks
  omega
theorem posS_int (ks : List Int) (j : Nat) : (posS ks j : Int) = sumF takenK (ks.take j) := by
  unfold posS
  have := sumF_nonneg (ks.take j)
  omega
theorem posS_succ {ks : List Int} {j : Nat} (h : j < ks.length) : posS ks (j + 1) = posS ks j + (takenK ks[j]).toNat := by
  have h1 := posS_int ks j
  have h2 := posS_int ks (j + 1)
  rw [sumF_take takenK h] at h2
  have := takenK_bd ks[j]
  omega
theorem posS_le (ks : List Int) (j : Nat) : (posS ks j : Int) ≤ sumF takenK ks := by
  rw [posS_int]
  have h : sumF takenK ks = sumF takenK (ks.take j) + sumF takenK (ks.drop j) := by rw [← sumF_append, List.take_append_drop]
  have := sumF_nonneg (ks.drop j)
  omega
def stepAt (st ks : List Int) (i : Nat) : List Int := stepS (ix ks i) (ix st (posS ks i)) (ix st (posS ks i + 1))
def aftTo (st ks : List Int) (j : Nat) : List Int := (List.range j).flatMap (stepAt st ks)
theorem aftTo_succ (st ks : List Int) (j : Nat) : aftTo st ks (j + 1) = aftTo st ks j ++ stepAt st ks j := by
  unfold aftTo; rw [List.range_succ, List.flatMap_append]; simp
theorem stepS_length (k a b : Int) : (stepS k a b).length ≤ 4 := by
  unfold stepS
  have := madeK_bd k
  split
  · simp
  · split
    · simp
    · rw [List.length_replicate]; omega
end Go.Proofs.Ytplabnjdhkmmkaa
end
section
set_option linter.unusedSimpArgs false
set_option linter.unusedVariables false
namespace Go.Proofs.Ytplabnjdhkmmkaa
open Go.ChangeShapes Go.WideShapes Go.ChangeAt Go.RowKit
structure RowM where
  d : Int
  c : Int
  xs : List Int
/-- a row by value -/
def RowV (w : World) (S : Nat → Prop) (v : Value) (r : RowM) : Prop := ∃ s, v = .agg #[.int .i64 r.d, .int .i64 r.c, s] ∧ Ints w S s r.xs ∧ I64 r.d ∧ I64 r.c
theorem RowV.keep {S T : Nat → Prop} {w w' : World} {v : Value} {r : RowM} (h : RowV w S v r) (g : Chg T w w') (hd : ∀ b, b < w.heap.size → S b → ¬ T b) : RowV w' S v r :=
  let ⟨s, h1, h2, h3⟩ := h; ⟨s, h1, h2.keep g hd, h3⟩
theorem RowV.up {S : Nat → Prop} {w w' : World} {v : Value} {r : RowM} (h : RowV w S v r) (g : Up w w') : RowV w' S v r := h.keep g fun _ _ _ h => h
theorem RowV.shape {w : World} {S : Nat → Prop} {v : Value} {r : RowM} (h : RowV w S v r) : ∃ A c, v = .agg #[.int .i64 r.d, .int .i64 r.c, .slice A r.xs.length c] ∧ Ints w S (.slice A r.xs.length c) r.xs ∧ r.xs.length ≤ c ∧ c ≤ 9223372036854775807 ∧ (I64 r.d ∧ I64 r.c) ∧ (A = none → c = 0) := by
  obtain ⟨s, h1, h2, h3, h4⟩ := h
  obtain ⟨A, c, rfl, h5, h6, h7⟩ := h2.shape
  exact ⟨A, c, h1, h2, h5, h6, ⟨h3, h4⟩, h7⟩
/-- a row behind a pointer -/
def RowAt (w : World) (S : Nat → Prop) (b o : Nat) (r : RowM) : Prop :=
  ∃ A c, w.cell? ⟨b, o, none⟩ = some (.int .i64 r.d) ∧ w.cell? ⟨b, o + 1, none⟩ = some (.int .i64 r.c) ∧ w.cell? ⟨b, o + 2, none⟩ = some (.slice A r.xs.length c) ∧ Ints w S (.slice A r.xs.length c) r.xs ∧ r.xs.length ≤ c ∧ c ≤ 9223372036854775807 ∧ (I64 r.d ∧ I64 r.c) ∧ b < w.heap.size
theorem RowAt.keep {S T : Nat → Prop} {w w' : World} {b o : Nat} {r : RowM} (h : RowAt w S b o r) (g : Chg T w w') (hd : ∀ b, b < w.heap.size → S b → ¬ T b) (hb : ¬ T b) : RowAt w' S b o r := by
  obtain ⟨A, c, h1, h2, h3, h4, h5, h6, h7, h8⟩ := h
  exact ⟨A, c, g.cell h1 hb, g.cell h2 hb, g.cell h3 hb, h4.keep g hd, h5, h6, h7, Nat.lt_of_lt_of_le h8 g.size⟩
theorem RowAt.up {S : Nat → Prop} {w w' : World} {b o : Nat} {r : RowM} (h : RowAt w S b o r) (g : Up w w') : RowAt w' S b o r := h.keep g (fun _ _ _ h => h) id
theorem RowAt.box {w : World} {S : Nat → Prop} {v : Value} {r : RowM} (h : RowV w S v r) (t : TypeId) : ∃ cs, v = .agg cs ∧ RowAt (w.alloc (.cells cs t)) S w.heap.size 0 r := by
  obtain ⟨A, c, rfl, h2, h3, h4, h5, _⟩ := h.shape
  exact ⟨_, rfl, A, c, cell_new _ _ _ _, cell_new _ _ _ _, cell_new _ _ _ _, h2.up ((Chg.refl _ _).alloc _), h3, h4, h5, by simp⟩
end Go.Proofs.Ytplabnjdhkmmkaa
end
section
set_option linter.unusedSimpArgs false
set_option linter.unusedVariables false
namespace Go.Proofs.Ytplabnjdhkmmkaa
open Go.ChangeShapes Go.WideShapes Go.ChangeAt Go.RowKit
end Go.Proofs.Ytplabnjdhkmmkaa
end
section
set_option linter.unusedSimpArgs false
set_option linter.unusedVariables false
namespace Go.Proofs.Ytplabnjdhkmmkaa
open Go.ChangeShapes Go.WideShapes Go.ChangeAt Go.RowKit
end Go.Proofs.Ytplabnjdhkmmkaa
end
section
set_option linter.unusedSimpArgs false
set_option linter.unusedVariables false
namespace Go.Proofs.Ytplabnjdhkmmkaa
open Go.ChangeShapes Go.WideShapes Go.ChangeAt Go.RowKit
theorem cell_at {w : World} {cs : Array Value} {e : TypeId} {g t : Nat} {u : Value} (h : g = w.heap.size) (hu : cs[t]? = some u) : (w.alloc (.cells cs e)).cell? ⟨g, t, none⟩ = some u := by
  subst h
  rw [cell_new]; exact hu
/-- a cell that may be written -/
def CellF (w : World) (p : Addr) (u : Value) : Prop := w.cell? p = some u ∧ w.frozen? p = false
theorem CellF.up {w w' : World} {p : Addr} {u : Value} (g : Up w w') (h : CellF w p u) : CellF w' p u := ⟨g.cell h.1 id, (g.frozen h.1 id).trans h.2⟩
theorem CellF.keep {S : Nat → Prop} {w w' : World} {p : Addr} {u : Value} (g : Chg S w w') (h : CellF w p u) (hp : ¬ S p.block) : CellF w' p u := ⟨g.cell h.1 hp, (g.frozen h.1 hp).trans h.2⟩
def cntTo (xss : List (List Int)) (j : Nat) : Nat := ((xss.take j).map List.length).sum
/-- in the middle of marking: the row reads as before; the first lists bear their marks -/
def MarkSS (w : World) (S : Nat → Prop) (v : Value) (xss : List (List Int)) (k : Int) (j : Nat) : Prop :=
  ∃ (vs : List Value) (R : Nat → Prop) (Q : Nat → Nat → Prop), Raw w R 1 v xss.length vs ∧ (∀ b, R b → S b) ∧ (∀ i b, Q i b → S b ∧ ¬ R b) ∧ (∀ i j b, Q i b → Q j b → i = j) ∧
    ∀ i (h : i < xss.length), ∃ u, vs[i]? = some u ∧ Ints w (Q i) u (if i < j then marks (k + cntTo xss i) xss[i].length else xss[i])
def MIntSS (w : World) (S : Nat → Prop) (v : Value) (xss : List (List Int)) (k : Int) : Prop := MarkSS w S v xss k xss.length
theorem MarkSS.keep {S T : Nat → Prop} {w w' : World} {v : Value} {xss : List (List Int)} {k : Int} {j : Nat} (h : MarkSS w S v xss k j) (g : Chg T w w') (hd : ∀ b, b < w.heap.size → S b → ¬ T b) : MarkSS w' S v xss k j := by
  obtain ⟨vs, R, Q, h1, h2, h3, h4, h5⟩ := h
  exact ⟨vs, R, Q, h1.keep g (fun b hb hr => hd b hb (h2 b hr)), h2, h3, h4, fun i hi => by
    obtain ⟨u, hu, hk⟩ := h5 i hi
    exact ⟨u, hu, hk.keep g (fun b hb hq => hd b hb (h3 i b hq).1)⟩⟩
theorem MIntSS.keep {S T : Nat → Prop} {w w' : World} {v : Value} {xss : List (List Int)} {k : Int} (h : MIntSS w S v xss k) (g : Chg T w w') (hd : ∀ b, b < w.heap.size → S b → ¬ T b) : MIntSS w' S v xss k := MarkSS.keep h g hd
theorem MIntSS.up {S : Nat → Prop} {w w' : World} {v : Value} {xss : List (List Int)} {k : Int} (h : MIntSS w S v xss k) (g : Up w w') : MIntSS w' S v xss k := MarkSS.keep h g fun _ _ _ h => h
theorem MarkSS.shape {S : Nat → Prop} {w : World} {v : Value} {xss : List (List Int)} {k : Int} {j : Nat} (h : MarkSS w S v xss k j) : ∃ A c, v = .slice A xss.length c ∧ xss.length ≤ c ∧ c ≤ 9223372036854775807 ∧ (A = none → c = 0) := by
  obtain ⟨vs, R, Q, h1, _⟩ := h
  exact h1.shape
theorem MarkSS.start {S : Nat → Prop} {w : World} {v : Value} {xss : List (List Int)} {k : Int} (h : IntSS w S v xss) : MarkSS w S v xss k 0 := by
  obtain ⟨vs, R, Q, h1, h2, h3, h4, h5⟩ := h
  exact ⟨vs, R, Q, h1, h2, h3, h4, fun i hi => by rw [if_neg (by omega)]; exact h5 i hi⟩
/-- an element, and what is known when it has been marked -/
theorem MarkSS.at_ {S : Nat → Prop} {w : World} {v : Value} {xss : List (List Int)} {k : Int} {j : Nat} (h : MarkSS w S v xss k j) (hj : j < xss.length) : ∃ b o c A ci, ∃ Qj : Nat → Prop, v = .slice (some ⟨b, o, none⟩) xss.length c ∧ b < w.heap.size ∧ w.cell? ⟨b, o + j, none⟩ = some (.slice A xss[j].length ci) ∧ Ints w Qj (.slice A xss[j].length ci) xss[j] ∧ xss[j].length ≤ ci ∧ ci ≤ 9223372036854775807 ∧ (∀ x, Qj x → S x) ∧
    ∀ w', Chg Qj w w' → MInts w' Qj (.slice A xss[j].length ci) xss[j] (k + cntTo xss j) → MarkSS w' S v xss k (j + 1) := by
  obtain ⟨vs, R, Q, h1, hR, hQ, hD, h5⟩ := h
  obtain ⟨h0, A, c, rfl, h2, h3, h4, _⟩ := h1
  obtain ⟨b, o, rfl, hs, hb, hc⟩ := h4 (by omega)
  obtain ⟨u, hu, hk⟩ := h5 j hj
  rw [if_neg (by omega)] at hk
  obtain ⟨Ai, ci, rfl, h6, h7, _⟩ := hk.shape
  obtain ⟨hlt, he⟩ := List.getElem?_eq_some_iff.1 hu
  refine ⟨b, o, c, Ai, ci, Q j, rfl, hb, ?_, hk, h6, h7, fun x hx => (hQ j x hx).1, fun w' g hm => ?_⟩
  · rw [← he]
    exact (hc j hlt).1
  · refine ⟨vs, R, Q, ⟨h0, _, c, rfl, h2, h3, fun hp => ?_, by simp⟩, hR, hQ, hD, fun i hi => ?_⟩
    · refine ⟨b, o, rfl, hs, Nat.lt_of_lt_of_le hb g.size, fun t ht => ?_⟩
      have hn : ¬ Q j b := fun hq => (hQ j b hq).2 hs
      exact ⟨g.cell (hc t ht).1 hn, (g.frozen (hc t ht).1 hn).trans (hc t ht).2⟩
    · by_cases e : i = j
      · subst e
        refine ⟨_, hu, ?_⟩
        rw [if_pos (by omega)]
        exact hm
      · obtain ⟨ui, hui, hki⟩ := h5 i hi
        refine ⟨ui, hui, ?_⟩
        have e2 : (i < j + 1) = (i < j) := by rw [eq_iff_iff]; omega
        simp only [e2]
        exact hki.keep g (fun x _ h1 h2 => e (hD i j x h1 h2))
theorem MIntSS.at_ {S : Nat → Prop} {w : World} {v : Value} {xss : List (List Int)} {k : Int} (h : MIntSS w S v xss k) {j : Nat} (hj : j < xss.length) : ∃ b o c A ci, ∃ Qj : Nat → Prop, v = .slice (some ⟨b, o, none⟩) xss.length c ∧ w.cell? ⟨b, o + j, none⟩ = some (.slice A xss[j].length ci) ∧ MInts w Qj (.slice A xss[j].length ci) xss[j] (k + cntTo xss j) ∧ xss[j].length ≤ ci ∧ ci ≤ 9223372036854775807 := by
  obtain ⟨vs, R, Q, h1, hR, hQ, hD, h5⟩ := h
  obtain ⟨h0, A, c, rfl, h2, h3, h4, _⟩ := h1
  obtain ⟨b, o, rfl, hs, hb, hc⟩ := h4 (by omega)
  obtain ⟨u, hu, hk⟩ := h5 j hj
  rw [if_pos hj] at hk
  obtain ⟨Ai, ci, rfl, h6, h7, _⟩ := hk.shape
  rw [marks_length] at hu hk h6
  obtain ⟨hlt, he⟩ := List.getElem?_eq_some_iff.1 hu
  refine ⟨b, o, c, Ai, ci, Q j, rfl, ?_, hk, h6, h7⟩
  rw [← he]
  exact (hc j hlt).1
end Go.Proofs.Ytplabnjdhkmmkaa
end
section
set_option linter.unusedSimpArgs false
set_option linter.unusedVariables false
namespace Go.Proofs.Ytplabnjdhkmmkaa
/-- a column's needle, the one on which it is put together with its neighbours, the one to which it is moved -/
structure Tr where
  o : Int
  t : Int
  m : Int
def Tr.R (x y : Tr) : Prop := x.o < y.o ∧ x.t ≤ y.t ∧ x.m ≤ y.m ∧ (x.t = y.t ↔ x.m = y.m)
def Tr.within (s r s' r' : Int) (x : Tr) : Prop := 2 * s + 1 ≤ x.t ∧ x.t ≤ x.o ∧ x.o ≤ 2 * s' - 1 ∧ 2 * r + 1 ≤ x.m ∧ x.m ≤ 2 * r' - 1
/-- what holds of the columns of a row that is laid out -/
structure TrOk (ts : List Tr) : Prop where
  len : ts.length ≤ 8
  pair : ts.Pairwise Tr.R
  bd : ∀ x ∈ ts, 1 ≤ x.t ∧ x.t ≤ x.o ∧ x.o ≤ 15 ∧ 1 ≤ x.m ∧ x.m ≤ 15
/-- the first of each run of equal numbers -/
def keepB (xs : List Int) (i : Nat) : Bool := decide (i = 0) || ix xs i != ix xs (i - 1)
def keepTo (xs : List Int) (j : Nat) : List Nat := (List.range j).filter (keepB xs)
def onceL (xs ys : List Int) (j : Nat) : List Int := (keepTo xs j).map (ix ys)
theorem onceL_yes {xs ys : List Int} {j : Nat} (h : keepB xs j = true) : onceL xs ys (j + 1) = onceL xs ys j ++ [ix ys j] := by
  simp [onceL, keepTo, List.range_succ, List.filter_append, h]
theorem onceL_no {xs ys : List Int} {j : Nat} (h : keepB xs j = false) : onceL xs ys (j + 1) = onceL xs ys j := by
  simp [onceL, keepTo, List.range_succ, List.filter_append, h]
theorem onceL_length (xs ys : List Int) (j : Nat) : (onceL xs ys j).length ≤ j := by
  unfold onceL keepTo
  rw [List.length_map]
  exact Nat.le_trans (List.length_filter_le _ _) (by simp)
theorem keepTo_mem {xs : List Int} {n i : Nat} (h : i ∈ keepTo xs n) : i < n := by
  unfold keepTo at h
  exact List.mem_range.1 (List.mem_filter.1 h).1
end Go.Proofs.Ytplabnjdhkmmkaa
end
section
set_option linter.unusedSimpArgs false
set_option linter.unusedVariables false
namespace Go.Proofs.Ytplabnjdhkmmkaa
open Go.ChangeShapes Go.WideShapes Go.ChangeAt Go.RowKit
def Off (lo hi : Nat) (v : Value) : Prop := ∀ g, v.ownBlock = some g → g < lo ∨ hi ≤ g
end Go.Proofs.Ytplabnjdhkmmkaa
end
section
set_option maxRecDepth 100000
set_option maxHeartbeats 1000000
set_option linter.unusedSimpArgs false
set_option linter.unusedVariables false
namespace Go.Proofs.Ytplabnjdhkmmkaa
open Go.ChangeShapes Go.WideShapes Go.ChangeAt Go.RowKit
end Go.Proofs.Ytplabnjdhkmmkaa
end
section
set_option maxRecDepth 100000
set_option maxHeartbeats 1000000
set_option linter.unusedSimpArgs false
set_option linter.unusedVariables false
namespace Go.Proofs.Ytplabnjdhkmmkaa
open Go.ChangeShapes Go.WideShapes Go.ChangeAt Go.RowKit
theorem aftTo_bd {st ks : List Int} (hs : stkB st = true) (hsum : sumF takenK ks = st.length) (hk : stB ks = true) : ∀ j, j ≤ ks.length → ∀ x ∈ aftTo st ks j, 1 ≤ x ∧ x ≤ 5 := by
  intro j
  induction j with
  | zero => intro _ x hx; simp [aftTo] at hx
  | succ j ih =>
    intro hj x hx
    rw [aftTo_succ] at hx
    rcases List.mem_append.1 hx with hx | hx
    · exact ih (by omega) x hx
    · have hp := posS_succ (ks := ks) (j := j) (by omega)
      have hl := posS_le ks (j + 1)
      have hkj := stB_kind hk _ (List.getElem_mem (show j < ks.length by omega))
      unfold stepAt stepS at hx
      rw [ix_eq (show j < ks.length by omega)] at hx
      have ha : takenK ks[j] ≥ 1 → 1 ≤ ix st (posS ks j) ∧ ix st (posS ks j) ≤ 4 := fun h1 => by
        have : posS ks j < st.length := by omega
        rw [ix_eq this]
        exact stkB_bd hs _ (List.getElem_mem this)
      split at hx
      · rename_i h6
        have := ha (by rw [h6]; decide)
        simp at hx; omega
      · split at hx
        · rename_i h7
          have := ha (by rw [h7]; decide)
          simp at hx; omega
        · have := List.eq_of_mem_replicate hx; omega
end Go.Proofs.Ytplabnjdhkmmkaa
end
section
set_option maxRecDepth 100000
set_option maxHeartbeats 1000000
set_option linter.unusedSimpArgs false
set_option linter.unusedVariables false
namespace Go.Proofs.Ytplabnjdhkmmkaa
open Go.ChangeShapes Go.WideShapes Go.ChangeAt Go.RowKit
end Go.Proofs.Ytplabnjdhkmmkaa
end
section
set_option maxRecDepth 100000
set_option maxHeartbeats 1000000
set_option linter.unusedSimpArgs false
set_option linter.unusedVariables false
namespace Go.Proofs.Ytplabnjdhkmmkaa
open Go.ChangeShapes Go.WideShapes Go.ChangeAt Go.RowKit
end Go.Proofs.Ytplabnjdhkmmkaa
end
section
set_option linter.unusedSimpArgs false
set_option linter.unusedVariables false
namespace Go.Proofs.Ytplabnjdhkmmkaa
open Go.ChangeShapes Go.WideShapes Go.ChangeAt Go.RowKit
end Go.Proofs.Ytplabnjdhkmmkaa
end
section
set_option linter.unusedSimpArgs false
set_option linter.unusedVariables false
namespace Go.Proofs.Ytplabnjdhkmmkaa
def letAt (k c : Int) : List Int :=
  if k = 8 then [c + 1] else if k = 9 ∨ k = 5 then [-c - 1] else if k = 10 then [c + 2, c + 1, c + 3, c + 2] else if k = 11 then [-c - 2, -c - 1, -c - 3, -c - 2] else []
def letL : Int → List Int → List Int
  | _, [] => []
  | s, k :: ks => letAt k s ++ letL (s + takenK k) ks
/-- a letter on columns from s to e -/
def letP (s e x : Int) : Prop := (s + 1 ≤ x ∧ x ≤ e - 1) ∨ (s + 1 ≤ -x ∧ -x ≤ e - 1)
theorem letAt_in (k c : Int) : ∀ x ∈ letAt k c, letP c (c + takenK k) x := by
  unfold letAt letP
  by_cases h1 : k = 8
  · rw [if_pos h1]; have : takenK k = 2 := by unfold takenK; rw [if_neg (by omega), if_pos (by omega)]
    intro x hx; simp at hx; omega
  · rw [if_neg h1]
    by_cases h2 : k = 9 ∨ k = 5
    · rw [if_pos h2]; have : takenK k = 2 := by unfold takenK; rw [if_neg (by omega), if_pos (by omega)]
      intro x hx; simp at hx; omega
    · rw [if_neg h2]
      by_cases h3 : k = 10
      · rw [if_pos h3]; have : takenK k = 4 := by unfold takenK; rw [if_neg (by omega), if_neg (by omega), if_pos (by omega)]
        intro x hx; simp at hx; omega
      · rw [if_neg h3]
        by_cases h4 : k = 11
        · rw [if_pos h4]; have : takenK k = 4 := by unfold takenK; rw [if_neg (by omega), if_neg (by omega), if_pos (by omega)]
          intro x hx; simp at hx; omega
        · rw [if_neg h4]; simp
theorem letL_in : ∀ (ks : List Int) (s : Int), (∀ x ∈ letL s ks, letP s (s + sumF takenK ks) x) ∧ 0 ≤ sumF takenK ks
  | [], s => by simp [letL, sumF]
  | k :: ks, s => by
    obtain ⟨h1, h2⟩ := letL_in ks (s + takenK k)
    have hb := takenK_bd k
    refine ⟨fun x hx => ?_, by simp only [sumF]; omega⟩
    simp only [sumF]
    rcases List.mem_append.1 hx with hx | hx
    · have := letAt_in k s x hx; unfold letP at *; omega
    · have := h1 x hx; unfold letP at *; omega
theorem LaidRow.letters {d c : Int} {xs : List Int} (h : LaidRow d c xs) : ∀ x ∈ letL 0 xs, letP 0 8 x := fun x hx => by
  have h1 := (letL_in xs 0).1 x hx
  have := h.taken
  unfold letP at *
  omega
end Go.Proofs.Ytplabnjdhkmmkaa
end
section
set_option linter.unusedSimpArgs false
set_option linter.unusedVariables false
set_option maxRecDepth 100000
namespace Go.Proofs.Ytplabnjdhkmmkaa
open Go.ChangeShapes Go.WideShapes Go.ChangeAt Go.RowKit
/-- a slice of operations of the call's own, from block base on -/
def OwnO (w : World) (base : Nat) (v : Value) (xs : List OpM) : Prop :=
  w.ownsRow base 76 8 v xs.length (xs.flatMap OpM.cells) ∧ ∀ x ∈ xs, x.ok
theorem OwnO.nil (w : World) (base : Nat) : OwnO w base (.slice none 0 0) [] := ⟨World.ownsRow_nil _ _ _ _, by simp⟩
theorem OwnO.made (w : World) (base : Nat) (hb : base ≤ w.heap.size) : OwnO (w.alloc (.cells #[] 76)) base (.slice (some ⟨w.heap.size, 0, none⟩) 0 0) [] :=
  ⟨World.ownsRow_made w _ 0 hb (by unfold Go.maxLen; omega) (by simp), by simp⟩
/-- a literal of some elements -/
theorem OwnO.lit {w : World} {base g : Nat} {arr : Array Value} {xs : List OpM} (hh : w.heap[g]? = some (.cells arr 76 (0, 0))) (ha : arr.toList = xs.flatMap OpM.cells) (hb : base ≤ g) (hl : xs.length ≤ 1000) (hok : ∀ x ∈ xs, x.ok) :
    OwnO w base (.slice (some ⟨g, 0, none⟩) xs.length xs.length) xs := by
  have hf := flat_length OpM.cells 8 OpM.cells_length xs
  refine ⟨⟨hf, .inr ⟨g, xs.length, arr, rfl, hb, hh, Nat.le_refl _, by unfold Go.maxLen; omega, ?_, ?_⟩⟩, hok⟩
  · rw [← hf, ← ha, Array.length_toList]
  · rw [← hf, ← ha, List.take_of_length_le (Nat.le_refl _)]
theorem OwnO.alloc {w : World} {base : Nat} {v : Value} {xs : List OpM} (h : OwnO w base v xs) (o : Obj) : OwnO (w.alloc o) base v xs := ⟨h.1.alloc o, h.2⟩
theorem OwnO.kept {w w' : World} {base : Nat} {v : Value} {xs : List OpM} {S : Nat → Prop} (h : OwnO w base v xs) (k : Chg S w w') (hS : ∀ g, v.ownBlock = some g → ¬ S g) : OwnO w' base v xs := by
  refine ⟨⟨h.1.1, ?_⟩, h.2⟩
  rcases h.1.2 with h2 | ⟨g, cap, cur, rfl, hg, hh, r⟩
  · exact Or.inl h2
  · exact Or.inr ⟨g, cap, cur, rfl, hg, (k.block g (Array.getElem?_eq_some_iff.1 hh).1 (hS g rfl)).trans hh, r⟩
theorem OwnO.up {w w' : World} {base : Nat} {v : Value} {xs : List OpM} (h : OwnO w base v xs) (k : Up w w') : OwnO w' base v xs := h.kept k fun _ _ h => h
theorem OwnO.ops {w : World} {base : Nat} {v : Value} {xs : List OpM} (h : OwnO w base v xs) : Ops w (New base w.heap.size) v xs := ⟨Raw.of_own h.1, h.2⟩
theorem OwnO.lt {w : World} {base : Nat} {v : Value} {xs : List OpM} (h : OwnO w base v xs) {g : Nat} (hg : v.ownBlock = some g) : base ≤ g ∧ g < w.heap.size := h.1.lt g hg
theorem infoOp : (Try.prog.info? 76).map (fun i => (i.zero, i.size, i.bytes)) = some (some (OpM.mk 0 0 0 0 0 0 0 0).val, 8, 64) := by kernel_rfl
theorem cells_one (x : OpM) : ∀ u ∈ x.cells, u.oneCell' = true := by
  intro u hu
  simp only [OpM.cells, List.mem_cons, List.not_mem_nil, or_false] at hu
  rcases hu with rfl | rfl | rfl | rfl | rfl | rfl | rfl | rfl <;> rfl
/-- 'out = append(out, list...)': the source reads as a list of operations -/
theorem wp_append_ops {w : World} {ops : Array Oper} {rest : List Oper} {o : Oper} {a : Act} {Q : Exit → Act → World → Prop} (hgd : o.guard = none) (s x : Operand)
    (ho : o.op = .call { callee := .builtin .append, args := #[s, x], argTypes := #[26, 26] })
    (base : Nat) (v : Value) (xs : List OpM) (hs : a.eval s = v) (hown : OwnO w base v xs)
    (S : Nat → Prop) (u : Value) (ys : List OpM) (hx : a.eval x = u) (hsrc : Ops w S u ys) (hlen : xs.length + ys.length ≤ 1099511627776) (hbase : base ≤ w.heap.size)
    (h : ∀ v' w', OwnO w' base v' (xs ++ ys) → w.grownBy w' v.ownBlock → Chg (fun k => base ≤ k) w w' → wpList Try.prog ops Q rest (a.put o.dst v') w') : wpList Try.prog ops Q (o :: rest) a w := by
  obtain ⟨i0, hi, hz0, hz1, hz2⟩ := info_parts infoOp
  obtain ⟨⟨hl, A, c, rfl, hlc, hcm, hr, hnn⟩, hok⟩ := hsrc
  have hok' : ∀ y ∈ xs ++ ys, y.ok := fun y hy => (List.mem_append.1 hy).elim (hown.2 y) (hok y)
  cases A with
  | none =>
    have hy : ys = [] := by
      rcases Nat.eq_zero_or_pos ys.length with h0 | h0
      · exact List.eq_nil_of_length_eq_zero h0
      · obtain ⟨b, oo, h1, _⟩ := hr h0
        cases h1
    subst hy
    obtain rfl := hnn rfl
    refine wpList_append_own_none hgd s x 26 ho base 76 i0 8 Try.underlying26 hi v xs.length _ hs hown.1 hx ?_
    exact h v w (by simpa using hown) (World.grownBy.refl w _) (Chg.refl _ _)
  | some ad =>
    have hnews : ∀ j q, (ys.flatMap OpM.cells)[j]? = some q → w.cell? (ad.add j) = some q := by
      intro j q hq
      obtain ⟨hj, he⟩ := List.getElem?_eq_some_iff.1 hq
      have hp : 0 < ys.length := by
        rcases Nat.eq_zero_or_pos ys.length with h0 | h0
        · rw [List.eq_nil_of_length_eq_zero h0] at hj; simp at hj
        · exact h0
      obtain ⟨b, oo, h1, _, _, hc⟩ := hr hp
      injection h1 with h1
      subst h1
      have := (hc j hj).1
      rw [he] at this
      rw [← this]
      unfold Addr.add
      by_cases h0 : j = 0 <;> simp [h0]
    refine wpList_append_own (P := Try.prog) w hgd s x 26 ho base 76 i0 _ 8 64 Try.underlying26 hi hz0 hz1 hz2 rfl (by decide) v xs.length _ hs hown.1 ad ys.length c (ys.flatMap OpM.cells) hx hl hnews ?_ ?_ ?_ hbase ?_
    · intro q hq
      obtain ⟨y, _, hy⟩ := List.mem_flatMap.1 hq
      exact cells_one y q hy
    · unfold Go.maxLen; omega
    · omega
    · intro v' w' h2 h3 _
      exact h v' w' ⟨by simpa using h2, hok'⟩ h3 ((Chg.refl _ _).grown h3 fun k hk => .inl (hown.1.lt k hk).1)
/-- 'out = append(out, x)' -/
theorem wp_append_op {w : World} {ops : Array Oper} {rest : List Oper} {o : Oper} {a : Act} {Q : Exit → Act → World → Prop} (hgd : o.guard = none) (s x : Operand)
    (ho : o.op = .call { callee := .builtin .append, args := #[s, x], argTypes := #[26, 26] })
    (base : Nat) (v : Value) (xs : List OpM) (hs : a.eval s = v) (hown : OwnO w base v xs)
    (g : Nat) (y : OpM) (hx : a.eval x = .slice (some ⟨g, 0, none⟩) 1 1) (hh : w.heap[g]? = some (.cells y.cells.toArray 76 (0, 0))) (hy : y.ok) (hlen : xs.length ≤ 1099511627775) (hbase : base ≤ w.heap.size)
    (h : ∀ v' w', OwnO w' base v' (xs ++ [y]) → w.grownBy w' v.ownBlock → Chg (fun k => base ≤ k) w w' → wpList Try.prog ops Q rest (a.put o.dst v') w') : wpList Try.prog ops Q (o :: rest) a w :=
  wp_append_ops hgd s x ho base v xs hs hown (fun _ => True) _ [y] hx ⟨Raw.of_block hh (by simp) trivial rfl (by simp) (by omega), by simpa using hy⟩ (by simp; omega) hbase h
end Go.Proofs.Ytplabnjdhkmmkaa
end
