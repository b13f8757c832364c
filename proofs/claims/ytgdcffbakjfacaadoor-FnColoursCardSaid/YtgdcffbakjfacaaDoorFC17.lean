/- The laws' helpers on charts: copies. No condition. The laws' helpers on charts. No condition. The laws' helpers on charts: equality. No condition. The laws' helpers on charts: copies whose rows' numbers lie in blocks apart, and marks. No condition. Rows of a chart under construction: each row's numbers in blocks of their own. No condition. -/
import Derived.Test.YtgdcffbakjfacaaDoorFC16
import Derived.Test.YtgdcffbakjfacaaDoorFC9
import Derived.Test.YtgdcffbakjfacaaDoorFC12
import Derived.Test.YtgdcffbakjfacaaDoorFC5
section
set_option linter.unusedSimpArgs false
set_option linter.unusedVariables false
set_option maxRecDepth 100000
set_option maxHeartbeats 1000000
namespace Go.Proofs.YtgdcffbakjfacaaDoor
open Go.ChangeShapes Go.WideShapes Go.ChangeAt Go.RowKit
theorem Copying.grow {w : World} {b m n j : Nat} {cs : List Value} (h : Copying w b m n j cs) (hl : cs.length = j * m) (vs : List Value) : Copying w b m n j (cs ++ vs) := fun t ht => by
  obtain ⟨h1, h2, h3⟩ := h t ht
  refine ⟨h1, h2, fun hlt => ?_⟩
  rw [h3 hlt, List.getElem?_append_left (by omega)]
theorem Chg.setCellsAt {S : Nat → Prop} {a : World} {b : Nat} (hb : S b) : ∀ (vs : List Value) (o : Nat) {w : World}, Chg S a w → Chg S a (w.setCells b o vs)
  | [], _, _, h => h
  | v :: r, o, _, h => Chg.setCellsAt hb r (o + 1) (h.setCell (.inl hb) v)
/-- the rows that were copied so far -/
def RowsIn (w : World) (g : Nat) (cs : List Value) (rs : List RowM) (j : Nat) : Prop :=
  ∀ i (hi : i < rs.length), i < j → ∃ A c, cs[i * 3]? = some (.int .i64 rs[i].d) ∧ cs[i * 3 + 1]? = some (.int .i64 rs[i].c) ∧ cs[i * 3 + 2]? = some (.slice A rs[i].xs.length c) ∧ Ints w (fun b => g < b) (.slice A rs[i].xs.length c) rs[i].xs ∧ rs[i].xs.length ≤ c ∧ c ≤ 9223372036854775807
theorem RowsIn.keep {S : Nat → Prop} {w w' : World} {g : Nat} {cs : List Value} {rs : List RowM} {j : Nat} (h : RowsIn w g cs rs j) (k : Chg S w w') (hS : ∀ b, b < w.heap.size → g < b → ¬ S b) : RowsIn w' g cs rs j := fun i hi hij =>
  let ⟨A, c, h1, h2, h3, h4, h5⟩ := h i hi hij; ⟨A, c, h1, h2, h3, h4.keep k hS, h5⟩
theorem RowsIn.next {w : World} {g : Nat} {cs : List Value} {rs : List RowM} {j : Nat} (h : RowsIn w g cs rs j) (hl : cs.length = j * 3) (hj : j < rs.length) {A : Option Addr} {c : Nat} (hi : Ints w (fun b => g < b) (.slice A rs[j].xs.length c) rs[j].xs) (h1 : rs[j].xs.length ≤ c) (h2 : c ≤ 9223372036854775807) :
    RowsIn w g (cs ++ [.int .i64 rs[j].d, .int .i64 rs[j].c, .slice A rs[j].xs.length c]) rs (j + 1) := fun i hi' hij => by
  by_cases he : i < j
  · obtain ⟨A', c', k1, k2, k3, k4⟩ := h i hi' he
    exact ⟨A', c', by rw [List.getElem?_append_left (by omega)]; exact k1, by rw [List.getElem?_append_left (by omega)]; exact k2, by rw [List.getElem?_append_left (by omega)]; exact k3, k4⟩
  · obtain rfl : i = j := by omega
    exact ⟨A, c, by rw [List.getElem?_append_right (by omega), hl]; simp, by rw [List.getElem?_append_right (by omega), hl]; simp, by rw [List.getElem?_append_right (by omega), hl]; simp, hi, h1, h2⟩
theorem infoRows : (Tryd.prog.info? 40).map (fun i => (i.zero, i.size, i.bytes)) = some (some (.agg #[.int .i64 0, .int .i64 0, .slice none 0 0]), 3, 40) := by kernel_rfl
end Go.Proofs.YtgdcffbakjfacaaDoor
end
section
set_option linter.unusedSimpArgs false
set_option linter.unusedVariables false
set_option maxRecDepth 100000
set_option maxHeartbeats 1000000
namespace Go.Proofs.YtgdcffbakjfacaaDoor
open Go.ChangeShapes Go.WideShapes Go.ChangeAt Go.RowKit
theorem openChart {w : World} {S : Nat → Prop} {v : Value} {b : ChartM} (h : ChartV w S v b) : ∃ A c, v = .agg #[.int .i64 b.n, .slice A b.rs.length c] ∧ RowsV w S (.slice A b.rs.length c) b.rs ∧ b.rs.length ≤ c ∧ c ≤ 9223372036854775807 := by
  obtain ⟨s, h1, h2, h3⟩ := h
  obtain ⟨A, c, rfl, h5, h6, h7⟩ := h2.shape
  exact ⟨A, c, h1, h2, h5, h6⟩
end Go.Proofs.YtgdcffbakjfacaaDoor
end
section
set_option linter.unusedSimpArgs false
set_option linter.unusedVariables false
set_option maxRecDepth 100000
set_option maxHeartbeats 400000
namespace Go.Proofs.YtgdcffbakjfacaaDoor
open Go.ChangeShapes Go.WideShapes Go.ChangeAt Go.RowKit
end Go.Proofs.YtgdcffbakjfacaaDoor
end
section
set_option linter.unusedSimpArgs false
set_option linter.unusedVariables false
set_option maxRecDepth 100000
set_option maxHeartbeats 1000000
namespace Go.Proofs.YtgdcffbakjfacaaDoor
open Go.ChangeShapes Go.WideShapes Go.ChangeAt Go.RowKit
/-- rows in one block; the numbers of each in blocks of their own -/
def RowsX (w : World) (S : Nat → Prop) (v : Value) (rs : List RowM) : Prop :=
  ∃ (A : Option Addr) (c : Nat) (Q : Nat → Nat → Prop), v = .slice A rs.length c ∧ rs.length ≤ c ∧ c ≤ 9223372036854775807 ∧ (A = none → c = 0) ∧ (∀ i j x, Q i x → Q j x → i = j) ∧
    (0 < rs.length → ∃ b o, A = some ⟨b, o, none⟩ ∧ S b ∧ (∀ i x, Q i x → S x ∧ x ≠ b) ∧ ∀ i (hi : i < rs.length), RowAt w (Q i) b (o + i * 3) rs[i] ∧ w.frozen? ⟨b, o + i * 3, none⟩ = false ∧ w.frozen? ⟨b, o + i * 3 + 1, none⟩ = false)
section
variable {S T : Nat → Prop} {w w' : World} {v : Value} {rs : List RowM}
theorem RowsX.rv (h : RowsX w S v rs) : RowsV w S v rs := by
  obtain ⟨A, c, Q, hv, h1, h2, h3, h4, h5⟩ := h
  refine ⟨A, c, hv, h1, h2, fun hp => ?_, h3⟩
  obtain ⟨b, o, ha, hs, hq, hc⟩ := h5 hp
  exact ⟨b, o, ha, hs, fun i hi => (hc i hi).1.mono fun x _ hx => (hq i x hx).1⟩
theorem RowsX.keep (h : RowsX w S v rs) (g : Chg T w w') (hd : ∀ b, b < w.heap.size → S b → ¬ T b) : RowsX w' S v rs := by
  obtain ⟨A, c, Q, hv, h1, h2, h3, h4, h5⟩ := h
  refine ⟨A, c, Q, hv, h1, h2, h3, h4, fun hp => ?_⟩
  obtain ⟨b, o, ha, hs, hq, hc⟩ := h5 hp
  refine ⟨b, o, ha, hs, hq, fun i hi => ?_⟩
  obtain ⟨k1, k2, k3⟩ := hc i hi
  have hn : ¬ T b := hd b k1.lt hs
  refine ⟨k1.keep g (fun x hx hqx => hd x hx (hq i x hqx).1) hn, ?_, ?_⟩
  · obtain ⟨A', c', e1, -⟩ := k1
    exact (g.frozen e1 hn).trans k2
  · obtain ⟨A', c', -, e2, -⟩ := k1
    exact (g.frozen e2 hn).trans k3
theorem RowsX.up (h : RowsX w S v rs) (g : Up w w') : RowsX w' S v rs := h.keep g fun _ _ _ h => h
theorem RowsX.mono (h : RowsX w S v rs) (hs : ∀ b, b < w.heap.size → S b → T b) : RowsX w T v rs := by
  obtain ⟨A, c, Q, hv, h1, h2, h3, h4, h5⟩ := h
  refine ⟨A, c, fun i x => Q i x ∧ x < w.heap.size, hv, h1, h2, h3, fun i j x a b => h4 i j x a.1 b.1, fun hp => ?_⟩
  obtain ⟨b, o, ha, hS, hq, hc⟩ := h5 hp
  exact ⟨b, o, ha, hs b (hc 0 hp).1.lt hS, fun i x hx => ⟨hs x hx.2 (hq i x hx.1).1, (hq i x hx.1).2⟩, fun i hi => ⟨(hc i hi).1.mono fun x hx hq => ⟨hq, hx⟩, (hc i hi).2⟩⟩
theorem RowsX.shape (h : RowsX w S v rs) : ∃ A c, v = .slice A rs.length c ∧ rs.length ≤ c ∧ c ≤ 9223372036854775807 ∧ (A = none → c = 0) :=
  let ⟨A, c, _, h1, h2, h3, h4, _⟩ := h; ⟨A, c, h1, h2, h3, h4⟩
/-- a row, and what is known when it has been marked -/
theorem RowsX.at_ {A : Option Addr} {c : Nat} (h : RowsX w S (.slice A rs.length c) rs) {j : Nat} (hj : j < rs.length) : ∃ b o A3 c3, ∃ Qj : Nat → Prop, A = some ⟨b, o, none⟩ ∧ w.cell? ⟨b, o + j * 3, none⟩ = some (.int .i64 rs[j].d) ∧ w.cell? ⟨b, o + j * 3 + 1, none⟩ = some (.int .i64 rs[j].c) ∧ w.cell? ⟨b, o + j * 3 + 2, none⟩ = some (.slice A3 rs[j].xs.length c3) ∧
    w.frozen? ⟨b, o + j * 3, none⟩ = false ∧ w.frozen? ⟨b, o + j * 3 + 1, none⟩ = false ∧ Ints w Qj (.slice A3 rs[j].xs.length c3) rs[j].xs ∧ rs[j].xs.length ≤ c3 ∧ c3 ≤ 9223372036854775807 ∧ (∀ x, Qj x → S x) ∧ S b ∧ ¬ Qj b ∧
    ∀ (a a' : Int) (ys : List Int) (w3 : World), I64 a → I64 a' → ys.length = rs[j].xs.length → Chg Qj ((w.setCell ⟨b, o + j * 3, none⟩ (.int .i64 a)).setCell ⟨b, o + j * 3 + 1, none⟩ (.int .i64 a')) w3 → Ints w3 Qj (.slice A3 rs[j].xs.length c3) ys → RowsX w3 S (.slice A rs.length c) (rs.set j ⟨a, a', ys⟩) := by
  obtain ⟨A', c', Q, hv, h1, h2, h3, h4, h5⟩ := h
  obtain ⟨rfl, rfl⟩ : A = A' ∧ c = c' := by simpa using hv
  obtain ⟨b, o, ha, hs, hq, hc⟩ := h5 (by omega)
  obtain ⟨k1, k2, k3⟩ := hc j hj
  obtain ⟨A3, c3, e1, e2, e3, e4, e5, e6, e7, e8⟩ := k1
  refine ⟨b, o, A3, c3, Q j, ha, e1, e2, e3, k2, k3, e4, e5, e6, fun x hx => (hq j x hx).1, hs, fun hx => (hq j b hx).2 rfl, ?_⟩
  intro a a' ys w3 ia ia' hl hg hi
  have g0 : Chg (fun x => x = b) w ((w.setCell ⟨b, o + j * 3, none⟩ (.int .i64 a)).setCell ⟨b, o + j * 3 + 1, none⟩ (.int .i64 a')) := Chg.setCell (Chg.setCell (Chg.refl (fun x => x = b) w) (p := ⟨b, o + j * 3, none⟩) (.inl rfl) _) (p := ⟨b, o + j * 3 + 1, none⟩) (.inl rfl) _
  refine ⟨A, c, Q, by rw [List.length_set], by rw [List.length_set]; exact h1, h2, h3, h4, fun _ => ⟨b, o, ha, hs, hq, fun i hi2 => ?_⟩⟩
  rw [List.length_set] at hi2
  have hnb : ¬ Q j b := fun hx => (hq j b hx).2 rfl
  have fr : ∀ t, (((w.setCell ⟨b, o + j * 3, none⟩ (.int .i64 a)).setCell ⟨b, o + j * 3 + 1, none⟩ (.int .i64 a')).cell? ⟨b, t, none⟩).isSome = true → w.frozen? ⟨b, t, none⟩ = false → w3.frozen? ⟨b, t, none⟩ = false := fun t ht hf => by
    obtain ⟨u, hu⟩ := Option.isSome_iff_exists.1 ht
    rw [hg.frozen hu hnb]
    simpa using hf
  by_cases hij : i = j
  · subst hij
    have c1 : ((w.setCell ⟨b, o + i * 3, none⟩ (.int .i64 a)).setCell ⟨b, o + i * 3 + 1, none⟩ (.int .i64 a')).cell? ⟨b, o + i * 3, none⟩ = some (.int .i64 a) := by
      rw [World.cell?_setCell_other _ _ _ _ (fun h => by injection h with _ h _; omega)]
      exact World.cell?_setCell_same _ _ _ e1
    have c2 : ((w.setCell ⟨b, o + i * 3, none⟩ (.int .i64 a)).setCell ⟨b, o + i * 3 + 1, none⟩ (.int .i64 a')).cell? ⟨b, o + i * 3 + 1, none⟩ = some (.int .i64 a') :=
      World.cell?_setCell_same _ _ _ ((World.cell?_setCell_other _ _ _ _ (fun h => by injection h with _ h _; omega)).trans e2)
    have c3' : ((w.setCell ⟨b, o + i * 3, none⟩ (.int .i64 a)).setCell ⟨b, o + i * 3 + 1, none⟩ (.int .i64 a')).cell? ⟨b, o + i * 3 + 2, none⟩ = some (.slice A3 rs[i].xs.length c3) := by
      rw [World.cell?_setCell_other _ _ _ _ (fun h => by injection h with _ h _; omega), World.cell?_setCell_other _ _ _ _ (fun h => by injection h with _ h _; omega)]
      exact e3
    have c5 := hg.cell c1 hnb
    have c6 := hg.cell c2 hnb
    have c7 := hg.cell c3' hnb
    refine ⟨?_, fr _ (by rw [c1]; rfl) k2, fr _ (by rw [c2]; rfl) k3⟩
    rw [List.getElem_set_self]
    refine ⟨A3, c3, c5, c6, by rw [hl]; exact c7, by rw [hl]; exact hi, by rw [hl]; exact e5, e6, ⟨ia, ia'⟩, World.block_lt_of_cell? _ _ c5⟩
  · obtain ⟨m1, m2, m3⟩ := hc i hi2
    obtain ⟨A4, c4, d1, d2, d3, d4, d5, d6, d7, d8⟩ := m1
    have st : ∀ t, t < 3 → ∀ u, w.cell? ⟨b, o + i * 3 + t, none⟩ = some u → ((w.setCell ⟨b, o + j * 3, none⟩ (.int .i64 a)).setCell ⟨b, o + j * 3 + 1, none⟩ (.int .i64 a')).cell? ⟨b, o + i * 3 + t, none⟩ = some u := fun t ht u hu => by
      rw [World.cell?_setCell_other _ _ _ _ (fun h => by injection h with _ h _; omega), World.cell?_setCell_other _ _ _ _ (fun h => by injection h with _ h _; omega)]
      exact hu
    have c1 := st 0 (by omega) _ d1
    have c2 := st 1 (by omega) _ d2
    have c3' := st 2 (by omega) _ d3
    have c5 := hg.cell c1 hnb
    have c6 := hg.cell c2 hnb
    have c7 := hg.cell c3' hnb
    refine ⟨?_, fr _ (by rw [show o + i * 3 = o + i * 3 + 0 from rfl, c1]; rfl) m2, fr _ (by rw [c2]; rfl) m3⟩
    rw [List.getElem_set_ne (fun h => hij h.symm)]
    have hI : Ints w3 (Q i) (.slice A4 rs[i].xs.length c4) rs[i].xs := ((d4.keep g0 (fun x _ hx hb => (hq i x hx).2 hb)).keep hg (fun x _ hx hx2 => hij (h4 i j x hx hx2)))
    exact ⟨A4, c4, c5, c6, c7, hI, d5, d6, d7, World.block_lt_of_cell? _ _ c5⟩
end
/-- the rows that were copied so far -/
def RowsIn2 (w : World) (g B : Nat) (cs : List Value) (rs : List RowM) (j : Nat) : Prop :=
  ∃ Q : Nat → Nat → Prop, (∀ i x, Q i x → g < x ∧ x < B) ∧ (∀ i k x, Q i x → Q k x → i = k) ∧
    ∀ i (hi : i < rs.length), i < j → ∃ A c, cs[i * 3]? = some (.int .i64 rs[i].d) ∧ cs[i * 3 + 1]? = some (.int .i64 rs[i].c) ∧ cs[i * 3 + 2]? = some (.slice A rs[i].xs.length c) ∧ Ints w (Q i) (.slice A rs[i].xs.length c) rs[i].xs ∧ rs[i].xs.length ≤ c ∧ c ≤ 9223372036854775807
theorem RowsIn2.keep {S : Nat → Prop} {w w' : World} {g B : Nat} {cs : List Value} {rs : List RowM} {j : Nat} (h : RowsIn2 w g B cs rs j) (k : Chg S w w') (hS : ∀ b, b < w.heap.size → g < b → ¬ S b) : RowsIn2 w' g B cs rs j := by
  obtain ⟨Q, h1, h2, h3⟩ := h
  refine ⟨Q, h1, h2, fun i hi hij => ?_⟩
  obtain ⟨A, c, k1, k2, k3, k4, k5⟩ := h3 i hi hij
  exact ⟨A, c, k1, k2, k3, k4.keep k (fun b hb hq => hS b hb (h1 i b hq).1), k5⟩
theorem RowsIn2.le {w : World} {g B B' : Nat} {cs : List Value} {rs : List RowM} {j : Nat} (h : RowsIn2 w g B cs rs j) (hB : B ≤ B') : RowsIn2 w g B' cs rs j := by
  obtain ⟨Q, h1, h2, h3⟩ := h
  exact ⟨Q, fun i x hx => ⟨(h1 i x hx).1, by have := (h1 i x hx).2; omega⟩, h2, h3⟩
theorem RowsIn2.next {w : World} {g B : Nat} {cs : List Value} {rs : List RowM} {j : Nat} (h : RowsIn2 w g B cs rs j) (hgB : g < B) (hl : cs.length = j * 3) (hj : j < rs.length) {A : Option Addr} {c : Nat} (hB : B ≤ w.heap.size) (hi : Ints w (fun b => B ≤ b) (.slice A rs[j].xs.length c) rs[j].xs) (h1 : rs[j].xs.length ≤ c) (h2 : c ≤ 9223372036854775807) :
    RowsIn2 w g w.heap.size (cs ++ [.int .i64 rs[j].d, .int .i64 rs[j].c, .slice A rs[j].xs.length c]) rs (j + 1) := by
  obtain ⟨Q, q1, q2, q3⟩ := h
  refine ⟨fun i x => (i < j ∧ Q i x) ∨ (i = j ∧ B ≤ x ∧ x < w.heap.size), ?_, ?_, fun i hi' hij => ?_⟩
  · rintro i x (⟨_, hq⟩ | ⟨_, hq⟩)
    · have := q1 i x hq; omega
    · omega
  · rintro i k x (⟨_, hq⟩ | ⟨e1, hq⟩) (⟨_, hq'⟩ | ⟨e2, hq'⟩)
    · exact q2 i k x hq hq'
    · have := (q1 i x hq).2; omega
    · have := (q1 k x hq').2; omega
    · omega
  by_cases he : i < j
  · obtain ⟨A', c', k1, k2, k3, k4, k5⟩ := q3 i hi' he
    exact ⟨A', c', by rw [List.getElem?_append_left (by omega)]; exact k1, by rw [List.getElem?_append_left (by omega)]; exact k2, by rw [List.getElem?_append_left (by omega)]; exact k3, k4.mono (fun b _ hb => .inl ⟨he, hb⟩), k5⟩
  · obtain rfl : i = j := by omega
    exact ⟨A, c, by rw [List.getElem?_append_right (by omega), hl]; simp, by rw [List.getElem?_append_right (by omega), hl]; simp, by rw [List.getElem?_append_right (by omega), hl]; simp, hi.mono (fun b hb hq => .inr ⟨rfl, hq, hb⟩), h1, h2⟩
/-- what marks a slice of rows bears -/
def cntM (rs : List RowM) (j : Nat) : Nat := 2 * j + cntR rs j
def cntC (rs : List RowM) : Nat := cntM rs rs.length
theorem cntC_le (rs : List RowM) : cntC rs ≤ 2 * cntRs rs := by unfold cntC cntM cntRs; omega
def SameLen (rs rs' : List RowM) : Prop := rs'.length = rs.length ∧ ∀ i (h : i < rs.length) (h' : i < rs'.length), rs'[i].xs.length = rs[i].xs.length
theorem SameLen.set {rs rs' : List RowM} (h : SameLen rs rs') {j : Nat} (r : RowM) (hr : ∀ (h : j < rs.length), r.xs.length = rs[j].xs.length) : SameLen rs (rs'.set j r) := by
  refine ⟨by rw [List.length_set]; exact h.1, fun i hi hi' => ?_⟩
  by_cases e : i = j
  · subst e; rw [List.getElem_set_self]; exact hr hi
  · rw [List.getElem_set_ne (fun h => e h.symm)]; exact h.2 i hi _
/-- a chart whose rows' numbers lie in blocks apart -/
def ChartX (w : World) (S : Nat → Prop) (v : Value) (c : ChartM) : Prop := ∃ s, v = .agg #[.int .i64 c.n, s] ∧ RowsX w S s c.rs ∧ I64 c.n
theorem ChartX.cv {w : World} {S : Nat → Prop} {v : Value} {c : ChartM} (h : ChartX w S v c) : ChartV w S v c := let ⟨s, h1, h2, h3⟩ := h; ⟨s, h1, h2.rv, h3⟩
theorem ChartX.keep {S T : Nat → Prop} {w w' : World} {v : Value} {c : ChartM} (h : ChartX w S v c) (g : Chg T w w') (hd : ∀ b, b < w.heap.size → S b → ¬ T b) : ChartX w' S v c := let ⟨s, h1, h2, h3⟩ := h; ⟨s, h1, h2.keep g hd, h3⟩
theorem ChartX.up {S : Nat → Prop} {w w' : World} {v : Value} {c : ChartM} (h : ChartX w S v c) (g : Up w w') : ChartX w' S v c := let ⟨s, h1, h2, h3⟩ := h; ⟨s, h1, h2.up g, h3⟩
theorem ChartV.keep {S T : Nat → Prop} {w w' : World} {v : Value} {c : ChartM} (h : ChartV w S v c) (g : Chg T w w') (hd : ∀ b, b < w.heap.size → S b → ¬ T b) : ChartV w' S v c := let ⟨s, h1, h2, h3⟩ := h; ⟨s, h1, h2.keep g hd, h3⟩
theorem openChartX {w : World} {S : Nat → Prop} {v : Value} {b : ChartM} (h : ChartX w S v b) : ∃ A c, v = .agg #[.int .i64 b.n, .slice A b.rs.length c] ∧ RowsX w S (.slice A b.rs.length c) b.rs ∧ b.rs.length ≤ c ∧ c ≤ 9223372036854775807 := by
  obtain ⟨s, h1, h2, h3⟩ := h
  obtain ⟨A, c, rfl, h5, h6, h7⟩ := h2.shape
  exact ⟨A, c, h1, h2, h5, h6⟩
end Go.Proofs.YtgdcffbakjfacaaDoor
end
section
set_option linter.unusedSimpArgs false
set_option linter.unusedVariables false
set_option maxRecDepth 100000
namespace Go.Proofs.YtgdcffbakjfacaaDoor
open Go.ChangeShapes Go.WideShapes Go.ChangeAt Go.RowKit
def RowIn (w : World) (Q : Nat → Prop) (cs : List Value) (i : Nat) (r : RowM) : Prop :=
  ∃ A c, cs[i * 3]? = some (.int .i64 r.d) ∧ cs[i * 3 + 1]? = some (.int .i64 r.c) ∧ cs[i * 3 + 2]? = some (.slice A r.xs.length c) ∧ Ints w Q (.slice A r.xs.length c) r.xs ∧ r.xs.length ≤ c ∧ c ≤ 9223372036854775807 ∧ (I64 r.d ∧ I64 r.c)
/-- such a row of the call's own, with its cells and the blocks of its rows -/
def OwnRp (w : World) (base : Nat) (v : Value) (rs : List RowM) (cs : List Value) (Q : Nat → Nat → Prop) : Prop :=
  w.ownsRow base 40 3 v rs.length cs ∧ (∀ i b, Q i b → base ≤ b ∧ b < w.heap.size ∧ v.ownBlock ≠ some b) ∧ (∀ i j b, Q i b → Q j b → i = j) ∧ ∀ i (h : i < rs.length), RowIn w (Q i) cs i rs[i]
def OwnR (w : World) (base : Nat) (v : Value) (rs : List RowM) : Prop := ∃ cs Q, OwnRp w base v rs cs Q
theorem RowIn.keep {S : Nat → Prop} {w w' : World} {Q : Nat → Prop} {cs : List Value} {i : Nat} {r : RowM} (h : RowIn w Q cs i r) (g : Chg S w w') (hS : ∀ b, b < w.heap.size → Q b → ¬ S b) : RowIn w' Q cs i r := by
  obtain ⟨A, c, h1, h2, h3, h4, h5⟩ := h
  exact ⟨A, c, h1, h2, h3, h4.keep g hS, h5⟩
theorem OwnR.nil (w : World) (base : Nat) : OwnR w base (.slice none 0 0) [] :=
  ⟨[], fun _ _ => False, World.ownsRow_nil _ _ _ _, fun _ _ h => h.elim, fun _ _ _ h => h.elim, fun i h => by simp at h⟩
theorem OwnR.kept {S : Nat → Prop} {w w' : World} {base : Nat} {v : Value} {rs : List RowM} (h : OwnR w base v rs) (g : Chg S w w') (hS : ∀ b, base ≤ b → b < w.heap.size → ¬ S b) : OwnR w' base v rs := by
  obtain ⟨cs, Q, h1, h2, h3, h4⟩ := h
  refine ⟨cs, Q, ownsRow_kept h1 g (fun b hb => hS b (h1.lt b hb).1 (h1.lt b hb).2), fun i b hq => ?_, h3, fun i hi => (h4 i hi).keep g (fun b hb hq => hS b (h2 i b hq).1 hb)⟩
  obtain ⟨a1, a2, a3⟩ := h2 i b hq
  exact ⟨a1, Nat.lt_of_lt_of_le a2 g.size, a3⟩
theorem OwnR.up {w w' : World} {base : Nat} {v : Value} {rs : List RowM} (h : OwnR w base v rs) (g : Up w w') : OwnR w' base v rs := h.kept g (fun _ _ _ h => h)
theorem OwnR.val {w : World} {base : Nat} {v : Value} {rs : List RowM} (h : OwnR w base v rs) : ∃ A c, v = .slice A rs.length c ∧ rs.length ≤ c ∧ c ≤ 9223372036854775807 ∧ (A = none → c = 0) := by
  obtain ⟨cs, Q, h1, -⟩ := h
  obtain ⟨-, A, c, h3, h4, h5, -, h6⟩ := Raw.of_own h1
  exact ⟨A, c, h3, h4, h5, h6⟩
theorem OwnR.lt {w : World} {base : Nat} {v : Value} {rs : List RowM} (h : OwnR w base v rs) {g : Nat} (hg : v.ownBlock = some g) : base ≤ g ∧ g < w.heap.size := let ⟨_, _, h1, _⟩ := h; h1.lt g hg
theorem OwnR.rd {w : World} {base : Nat} {v : Value} {rs : List RowM} (h : OwnR w base v rs) : RowsX w (New base w.heap.size) v rs := by
  obtain ⟨cs, Q, h1, h2, h3, h4⟩ := h
  obtain ⟨hl, A, c, rfl, a1, a2, a4, a5⟩ := Raw.of_own h1
  refine ⟨A, c, Q, rfl, a1, a2, a5, h3, fun hp => ?_⟩
  obtain ⟨b, o, rfl, hs, hb, hc⟩ := a4 hp
  have hob : Value.ownBlock (.slice (some ⟨b, o, none⟩) rs.length c) = some b := rfl
  refine ⟨b, o, rfl, hs, fun i x hx => ?_, fun i hi => ?_⟩
  · obtain ⟨q1, q2, q3⟩ := h2 i x hx
    exact ⟨⟨q1, q2⟩, fun e => q3 (by rw [hob, e])⟩
  · obtain ⟨A3, c3, e1, e2, e3, e4, e5, e6, e7⟩ := h4 i hi
    have hlt : i * 3 + 2 < cs.length := by omega
    have at_ : ∀ t u, cs[i * 3 + t]? = some u → t < 3 → w.cell? ⟨b, o + i * 3 + t, none⟩ = some u ∧ w.frozen? ⟨b, o + i * 3 + t, none⟩ = false := fun t u hu ht => by
      have := hc (i * 3 + t) (by omega)
      rw [← Nat.add_assoc] at this
      obtain ⟨_, he⟩ := List.getElem?_eq_some_iff.1 hu
      rw [he] at this
      exact this
    have f0 := at_ 0 _ e1 (by omega)
    have f1 := at_ 1 _ e2 (by omega)
    have f2 := at_ 2 _ e3 (by omega)
    exact ⟨⟨A3, c3, f0.1, f1.1, f2.1, e4, e5, e6, e7, hb⟩, f0.2, f1.2⟩
/-- one row more -/
theorem OwnRp.next {w wr w' : World} {base : Nat} {v v' : Value} {rs : List RowM} {cs : List Value} {Q : Nat → Nat → Prop} {S : Nat → Prop} (h : OwnRp wr base v rs cs Q) (hup : Chg S wr w) (hS : ∀ b, base ≤ b → b < wr.heap.size → ¬ S b) (hbase : base ≤ wr.heap.size)
    {r : RowM} {A : Option Addr} {c : Nat} (hi : Ints w (New wr.heap.size w.heap.size) (.slice A r.xs.length c) r.xs) (h1 : r.xs.length ≤ c) (h2 : c ≤ 9223372036854775807) (h64 : I64 r.d ∧ I64 r.c)
    (k1 : w'.ownsRow base 40 3 v' (rs.length + 1) (cs ++ [.int .i64 r.d, .int .i64 r.c, .slice A r.xs.length c])) (k2 : w.grownBy w' v.ownBlock) (k3 : ∀ g, v'.ownBlock = some g → v.ownBlock = some g ∨ w.heap.size ≤ g) :
    OwnR w' base v' (rs ++ [r]) := by
  obtain ⟨a1, a2, a3, a4⟩ := h
  have hsz := hup.size
  have hown2 : ∀ b, v.ownBlock = some b → b < wr.heap.size := fun b hb => (a1.lt b hb).2
  have hcl : cs.length = rs.length * 3 := a1.1
  have hC := Chg.of_grown k2
  refine ⟨_, fun i b => (i < rs.length ∧ Q i b) ∨ (i = rs.length ∧ New wr.heap.size w.heap.size b), by simpa using k1, ?_, ?_, ?_⟩
  · rintro i b (⟨hi', hq⟩ | ⟨rfl, hq⟩)
    · obtain ⟨b1, b2, b3⟩ := a2 i b hq
      refine ⟨b1, by have := k2.size; omega, fun hh => ?_⟩
      rcases k3 b hh with k4 | k4
      · exact b3 k4
      · omega
    · refine ⟨by have := hq.1; omega, by have := k2.size; have := hq.2; omega, fun hh => ?_⟩
      rcases k3 b hh with k4 | k4
      · have := hown2 b k4; have := hq.1; omega
      · have := hq.2; omega
  · rintro i j b (⟨hi', hq⟩ | ⟨rfl, hq⟩) (⟨hj', hq'⟩ | ⟨rfl, hq'⟩)
    · exact a3 i j b hq hq'
    · have := (a2 i b hq).2.1; have := hq'.1; omega
    · have := (a2 j b hq').2.1; have := hq.1; omega
    · rfl
  · intro i hi'
    by_cases he : i < rs.length
    · obtain ⟨A3, c3, e1, e2, e3, e4, e5⟩ := a4 i he
      rw [List.getElem_append_left he]
      exact ⟨A3, c3, by rw [List.getElem?_append_left (by omega)]; exact e1, by rw [List.getElem?_append_left (by omega)]; exact e2, by rw [List.getElem?_append_left (by omega)]; exact e3, ((e4.keep hup (fun b hb hq => hS b (a2 i b hq).1 hb)).keep hC (fun b _ hq hb => (a2 i b hq).2.2 hb)).mono (fun b _ hq => .inl ⟨he, hq⟩), e5⟩
    · have hi2 : i = rs.length := by simp at hi'; omega
      subst hi2
      rw [List.getElem_append_right (by omega)]
      simp only [Nat.sub_self, List.getElem_cons_zero]
      exact ⟨A, c, by rw [List.getElem?_append_right (by omega), hcl]; simp, by rw [List.getElem?_append_right (by omega), hcl]; simp, by rw [List.getElem?_append_right (by omega), hcl]; simp,
        (hi.keep hC (fun b _ hq hb => by have := hown2 b hb; have := hq.1; omega)).mono (fun b _ hq => .inr ⟨by first | rfl | trivial, hq⟩), h1, h2, h64⟩
theorem infoRowB : (Tryd.prog.info? 40).map (fun i => (i.zero, i.size, i.bytes)) = some (some (.agg #[.int .i64 0, .int .i64 0, .slice none 0 0]), 3, 40) := by kernel_rfl
theorem step_append_ownC {P : Program} {w : World} {ops : Array Oper} {o : Oper} {a : Act} {K : Act → World → Prop} {Q : Exit → Act → World → Prop} {E : Prop} (hgd : o.guard = none) (s x : Operand) (t : TypeId)
    (ho : o.op = .call { callee := .builtin .append, args := #[s, x], argTypes := #[t, t] })
    (base : Nat) (e : TypeId) (i : TypeInfo) (z : Value) (size bytes : Nat) (ht : P.underlying t = some (.slice e)) (hi : P.info? e = some i) (hz : i.zero = some z)
    (hsize : i.size = size) (hby : i.bytes = bytes) (hzs : z.cells.size = size) (hsz : 0 < size)
    (v : Value) (n : Nat) (xs : List Value) (hs : a.eval s = v) (hown : w.ownsRow base e size v n xs)
    (ad : Addr) (m c : Nat) (news : List Value) (hx : a.eval x = .slice (some ad) m c) (hl : news.length = m * size) (hnews : ∀ j u, news[j]? = some u → w.cell? (ad.add j) = some u) (h1 : ∀ u ∈ news, u.oneCell' = true)
    (h63 : n + m ≤ maxLen) (hbytes : (n + m) * bytes ≤ 140737488355328) (hbase : base ≤ w.heap.size)
    (h : ∀ v' w', w'.ownsRow base e size v' (n + m) (xs ++ news) → w.grownBy w' v.ownBlock → (∀ g, v'.ownBlock = some g → v.ownBlock = some g ∨ w.heap.size ≤ g) → K (a.put o.dst v') w') :
    if Region.wanted o (yielded ops a.tmps) = true then Oper.wp P o a w K Q else E := by
  have hw : Region.wanted o (yielded ops a.tmps) = true := by simp [Region.wanted, hgd]
  rw [if_pos hw]
  obtain ⟨v', w', hr, h2, h3, h4⟩ := run_append_own (P := P) w base t o.type e i z size bytes ht hi hz hsize hby hzs hsz v n xs hown ad m c news hl hnews h1 h63 hbytes hbase
  have h5 := append_block (P := P) base t o.type e i z size bytes ht hi hz hsize hby hzs hsz v n xs hown ad m c news hl hnews h1 h63 hbytes hr
  unfold Oper.wp execOp
  simp only [ho, resolve, invoke, builtin, Sem.run_bind, Sem.run_pure, Result.andThen_ok, List.map_toArray, List.map_cons, List.map_nil, hs, hx, hr]
  exact h v' w' h2 h3 h5

theorem row_news {w : World} {g : Nat} {x y z : Value} (h0 : w.cell? ⟨g, 0, none⟩ = some x) (h1 : w.cell? ⟨g, 1, none⟩ = some y) (h2 : w.cell? ⟨g, 2, none⟩ = some z) : ∀ j u, [x, y, z][j]? = some u → w.cell? ((⟨g, 0, none⟩ : Addr).add j) = some u := by
  intro j u hu
  rw [add_zero]
  match j, hu with
  | 0, hu => simp at hu; subst hu; exact h0
  | 1, hu => simp at hu; subst hu; exact h1
  | 2, hu => simp at hu; subst hu; exact h2
  | j + 3, hu => simp at hu
set_option maxRecDepth 100000 in
/-- 'out.Rows = append(out.Rows, r)' -/
theorem wp_append_row {w : World} {ops : Array Oper} {rest : List Oper} {o : Oper} {a : Act} {R : Exit → Act → World → Prop} (hgd : o.guard = none) (s x : Operand)
    (ho : o.op = .call { callee := .builtin .append, args := #[s, x], argTypes := #[34, 34] })
    (base : Nat) (wr : World) (v : Value) (rs : List RowM) (hs : a.eval s = v) (hown : OwnR wr base v rs) {S : Nat → Prop} (hup : Chg S wr w) (hS : ∀ b, base ≤ b → b < wr.heap.size → ¬ S b)
    (g : Nat) (r : RowM) (A : Option Addr) (c : Nat) (hx : a.eval x = .slice (some ⟨g, 0, none⟩) 1 1) (hc0 : w.cell? ⟨g, 0, none⟩ = some (.int .i64 r.d)) (hc1 : w.cell? ⟨g, 1, none⟩ = some (.int .i64 r.c)) (hc2 : w.cell? ⟨g, 2, none⟩ = some (.slice A r.xs.length c))
    (hi : Ints w (New wr.heap.size w.heap.size) (.slice A r.xs.length c) r.xs) (hb : r.xs.length ≤ c ∧ c ≤ 9223372036854775807) (h64 : I64 r.d ∧ I64 r.c) (hlen : rs.length ≤ 1000000) (hbase : base ≤ wr.heap.size)
    (h : ∀ v' w', OwnR w' base v' (rs ++ [r]) → Chg (fun b => v.ownBlock = some b) w w' → (∀ b, v'.ownBlock = some b → v.ownBlock = some b ∨ w.heap.size ≤ b) → wpList Tryd.prog ops R rest (a.put o.dst v') w') : wpList Tryd.prog ops R (o :: rest) a w := by
  obtain ⟨i0, hi0, hz0, hz1, hz2⟩ := info_parts infoRowB
  obtain ⟨cs, Q, h1, h2⟩ := hown
  have hsz := hup.size
  refine wpList_append_own2 (P := Tryd.prog) hgd s x 34 ho base 40 i0 _ 3 40 Tryd.underlying34 hi0 hz0 hz1 hz2 rfl (by decide) v rs.length cs hs (ownsRow_kept h1 hup (fun b hb => hS b (h1.lt b hb).1 (h1.lt b hb).2)) ⟨g, 0, none⟩ 1 1 [.int .i64 r.d, .int .i64 r.c, .slice A r.xs.length c] hx rfl (row_news hc0 hc1 hc2) ?_ ?_ ?_ (by omega) ?_
  · intro u hu
    simp at hu
    rcases hu with rfl | rfl | rfl <;> rfl
  · unfold Go.maxLen; omega
  · omega
  · intro v' w' k1 k2 k3
    exact h v' w' (OwnRp.next ⟨h1, h2⟩ hup hS hbase hi hb.1 hb.2 h64 k1 k2 k3) (Chg.of_grown k2) k3
set_option maxRecDepth 100000 in
theorem step_append_row {w : World} {ops : Array Oper} {o : Oper} {a : Act} {K : Act → World → Prop} {R : Exit → Act → World → Prop} {F : Prop} (hgd : o.guard = none) (s x : Operand)
    (ho : o.op = .call { callee := .builtin .append, args := #[s, x], argTypes := #[34, 34] })
    (base : Nat) (wr : World) (v : Value) (rs : List RowM) (hs : a.eval s = v) (hown : OwnR wr base v rs) {S : Nat → Prop} (hup : Chg S wr w) (hS : ∀ b, base ≤ b → b < wr.heap.size → ¬ S b)
    (g : Nat) (r : RowM) (A : Option Addr) (c : Nat) (hx : a.eval x = .slice (some ⟨g, 0, none⟩) 1 1) (hc0 : w.cell? ⟨g, 0, none⟩ = some (.int .i64 r.d)) (hc1 : w.cell? ⟨g, 1, none⟩ = some (.int .i64 r.c)) (hc2 : w.cell? ⟨g, 2, none⟩ = some (.slice A r.xs.length c))
    (hi : Ints w (New wr.heap.size w.heap.size) (.slice A r.xs.length c) r.xs) (hb : r.xs.length ≤ c ∧ c ≤ 9223372036854775807) (h64 : I64 r.d ∧ I64 r.c) (hlen : rs.length ≤ 1000000) (hbase : base ≤ wr.heap.size)
    (h : ∀ v' w', OwnR w' base v' (rs ++ [r]) → Chg (fun b => v.ownBlock = some b) w w' → (∀ b, v'.ownBlock = some b → v.ownBlock = some b ∨ w.heap.size ≤ b) → K (a.put o.dst v') w') : if Region.wanted o (yielded ops a.tmps) = true then Oper.wp Tryd.prog o a w K R else F := by
  obtain ⟨i0, hi0, hz0, hz1, hz2⟩ := info_parts infoRowB
  obtain ⟨cs, Q, h1, h2⟩ := hown
  have hsz := hup.size
  refine step_append_ownC (P := Tryd.prog) hgd s x 34 ho base 40 i0 _ 3 40 Tryd.underlying34 hi0 hz0 hz1 hz2 rfl (by decide) v rs.length cs hs (ownsRow_kept h1 hup (fun b hb => hS b (h1.lt b hb).1 (h1.lt b hb).2)) ⟨g, 0, none⟩ 1 1 [.int .i64 r.d, .int .i64 r.c, .slice A r.xs.length c] hx rfl (row_news hc0 hc1 hc2) ?_ ?_ ?_ (by omega) ?_
  · intro u hu
    simp at hu
    rcases hu with rfl | rfl | rfl <;> rfl
  · unfold Go.maxLen; omega
  · omega
  · intro v' w' k1 k2 k3
    exact h v' w' (OwnRp.next ⟨h1, h2⟩ hup hS hbase hi hb.1 hb.2 h64 k1 k2 k3) (Chg.of_grown k2) k3
end Go.Proofs.YtgdcffbakjfacaaDoor
end
