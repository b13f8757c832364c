/- The laws' helpers on charts: copies whose rows' numbers lie in blocks apart, and marks. No condition. A number put into a rising list; whole lists. No condition. Contracts of the library's sort, laid at this program by the kit's own tool, in plain words. No condition. slices.Sort at a row of numbers of one's own. Condition: room. Sorted, then each number once: the rising list of the members. No condition. Contracts of slices.Contains and slices.Compact at lists of whole numbers, in this proof's own words. No condition but room. The carriers of a chart's rows, as plain data. No condition. The carriers of a chart's rows on both sides: rising, each once. No condition but room. All moves' operations. No condition. Contracts of the small functions that hand back a needle or an operation. No condition. The operations of a stitch. Conditions: a kind, a needle, a direction, a carrier. What brings a carrier to the side of a needle. Conditions: a place, a needle, a direction, a carrier. The program's operations of a row. No condition but room. -/
import Derived.Test.YtnjfhpgmogopnaaGreatPG7
import Derived.Test.YtnjfhpgmogopnaaGreatPG4
import Derived.Shelf.SortG.Plain
import Derived.Shelf.SortG.SortNone
import Derived.Ground.SlgnProg
import Derived.Test.YtnjfhpgmogopnaaGreatProg
import Derived.Test.YtnjfhpgmogopnaaGreatPG3
import Derived.Test.YtnjfhpgmogopnaaGreatPG2
import Derived.Test.YtnjfhpgmogopnaaGreatPG5
import Derived.Test.YtnjfhpgmogopnaaGreatPG1
import Derived.StillTailTactics
import Derived.Deep.RegionHeld3
import Derived.Test.YtnjfhpgmogopnaaGreatPG6
section
set_option linter.unusedSimpArgs false
set_option linter.unusedVariables false
set_option maxRecDepth 100000
set_option maxHeartbeats 1000000
namespace Go.Proofs.YtnjfhpgmogopnaaGreat
open Go.ChangeShapes Go.WideShapes Go.ChangeAt Go.RowKit
/-- rows in one block; the numbers of each in blocks of their own -/
def RowsX (w : World) (S : Nat → Prop) (v : Value) (rs : List RowM) : Prop :=
  ∃ (A : Option Addr) (c : Nat) (Q : Nat → Nat → Prop), v = .slice A rs.length c ∧ rs.length ≤ c ∧ c ≤ 9223372036854775807 ∧ (A = none → c = 0) ∧ (∀ i j x, Q i x → Q j x → i = j) ∧
    (0 < rs.length → ∃ b o, A = some ⟨b, o, none⟩ ∧ S b ∧ (∀ i x, Q i x → S x ∧ x ≠ b) ∧ ∀ i (hi : i < rs.length), RowAt w (Q i) b (o + i * 3) rs[i] ∧ w.frozen? ⟨b, o + i * 3, none⟩ = false ∧ w.frozen? ⟨b, o + i * 3 + 1, none⟩ = false)
section
variable {S T : Nat → Prop} {w w' : World} {v : Value} {rs : List RowM}
theorem RowsX.rv (h : RowsX w S v rs) : RowsV w S v rs := by
  obtain ⟨A, c, Q, hv, h1, h2, h3, h4, h5⟩ := h
  refine ⟨A, c, hv, h1, h2, fun hp => ?_, h3⟩
  obtain ⟨b, o, ha, hs, hq, hc⟩ := h5 hp
  exact ⟨b, o, ha, hs, fun i hi => (hc i hi).1.mono fun x _ hx => (hq i x hx).1⟩
theorem RowsX.keep (h : RowsX w S v rs) (g : Chg T w w') (hd : ∀ b, b < w.heap.size → S b → ¬ T b) : RowsX w' S v rs := by
  obtain ⟨A, c, Q, hv, h1, h2, h3, h4, h5⟩ := h
  refine ⟨A, c, Q, hv, h1, h2, h3, h4, fun hp => ?_⟩
  obtain ⟨b, o, ha, hs, hq, hc⟩ := h5 hp
  refine ⟨b, o, ha, hs, hq, fun i hi => ?_⟩
  obtain ⟨k1, k2, k3⟩ := hc i hi
  have hn : ¬ T b := hd b k1.lt hs
  refine ⟨k1.keep g (fun x hx hqx => hd x hx (hq i x hqx).1) hn, ?_, ?_⟩
  · obtain ⟨A', c', e1, -⟩ := k1
    exact (g.frozen e1 hn).trans k2
  · obtain ⟨A', c', -, e2, -⟩ := k1
    exact (g.frozen e2 hn).trans k3
theorem RowsX.up (h : RowsX w S v rs) (g : Up w w') : RowsX w' S v rs := h.keep g fun _ _ _ h => h
theorem RowsX.mono (h : RowsX w S v rs) (hs : ∀ b, b < w.heap.size → S b → T b) : RowsX w T v rs := by
  obtain ⟨A, c, Q, hv, h1, h2, h3, h4, h5⟩ := h
  refine ⟨A, c, fun i x => Q i x ∧ x < w.heap.size, hv, h1, h2, h3, fun i j x a b => h4 i j x a.1 b.1, fun hp => ?_⟩
  obtain ⟨b, o, ha, hS, hq, hc⟩ := h5 hp
  exact ⟨b, o, ha, hs b (hc 0 hp).1.lt hS, fun i x hx => ⟨hs x hx.2 (hq i x hx.1).1, (hq i x hx.1).2⟩, fun i hi => ⟨(hc i hi).1.mono fun x hx hq => ⟨hq, hx⟩, (hc i hi).2⟩⟩
theorem RowsX.shape (h : RowsX w S v rs) : ∃ A c, v = .slice A rs.length c ∧ rs.length ≤ c ∧ c ≤ 9223372036854775807 ∧ (A = none → c = 0) :=
  let ⟨A, c, _, h1, h2, h3, h4, _⟩ := h; ⟨A, c, h1, h2, h3, h4⟩
/-- a row, and what is known when it has been marked -/
theorem RowsX.at_ {A : Option Addr} {c : Nat} (h : RowsX w S (.slice A rs.length c) rs) {j : Nat} (hj : j < rs.length) : ∃ b o A3 c3, ∃ Qj : Nat → Prop, A = some ⟨b, o, none⟩ ∧ w.cell? ⟨b, o + j * 3, none⟩ = some (.int .i64 rs[j].d) ∧ w.cell? ⟨b, o + j * 3 + 1, none⟩ = some (.int .i64 rs[j].c) ∧ w.cell? ⟨b, o + j * 3 + 2, none⟩ = some (.slice A3 rs[j].xs.length c3) ∧
    w.frozen? ⟨b, o + j * 3, none⟩ = false ∧ w.frozen? ⟨b, o + j * 3 + 1, none⟩ = false ∧ Ints w Qj (.slice A3 rs[j].xs.length c3) rs[j].xs ∧ rs[j].xs.length ≤ c3 ∧ c3 ≤ 9223372036854775807 ∧ (∀ x, Qj x → S x) ∧ S b ∧ ¬ Qj b ∧
    ∀ (a a' : Int) (ys : List Int) (w3 : World), I64 a → I64 a' → ys.length = rs[j].xs.length → Chg Qj ((w.setCell ⟨b, o + j * 3, none⟩ (.int .i64 a)).setCell ⟨b, o + j * 3 + 1, none⟩ (.int .i64 a')) w3 → Ints w3 Qj (.slice A3 rs[j].xs.length c3) ys → RowsX w3 S (.slice A rs.length c) (rs.set j ⟨a, a', ys⟩) := by
  obtain ⟨A', c', Q, hv, h1, h2, h3, h4, h5⟩ := h
  obtain ⟨rfl, rfl⟩ : A = A' ∧ c = c' := by simpa using hv
  obtain ⟨b, o, ha, hs, hq, hc⟩ := h5 (by omega)
  obtain ⟨k1, k2, k3⟩ := hc j hj
  obtain ⟨A3, c3, e1, e2, e3, e4, e5, e6, e7, e8⟩ := k1
  refine ⟨b, o, A3, c3, Q j, ha, e1, e2, e3, k2, k3, e4, e5, e6, fun x hx => (hq j x hx).1, hs, fun hx => (hq j b hx).2 rfl, ?_⟩
  intro a a' ys w3 ia ia' hl hg hi
  have g0 : Chg (fun x => x = b) w ((w.setCell ⟨b, o + j * 3, none⟩ (.int .i64 a)).setCell ⟨b, o + j * 3 + 1, none⟩ (.int .i64 a')) := Chg.setCell (Chg.setCell (Chg.refl (fun x => x = b) w) (p := ⟨b, o + j * 3, none⟩) (.inl rfl) _) (p := ⟨b, o + j * 3 + 1, none⟩) (.inl rfl) _
  refine ⟨A, c, Q, by rw [List.length_set], by rw [List.length_set]; exact h1, h2, h3, h4, fun _ => ⟨b, o, ha, hs, hq, fun i hi2 => ?_⟩⟩
  rw [List.length_set] at hi2
  have hnb : ¬ Q j b := fun hx => (hq j b hx).2 rfl
  have fr : ∀ t, (((w.setCell ⟨b, o + j * 3, none⟩ (.int .i64 a)).setCell ⟨b, o + j * 3 + 1, none⟩ (.int .i64 a')).cell? ⟨b, t, none⟩).isSome = true → w.frozen? ⟨b, t, none⟩ = false → w3.frozen? ⟨b, t, none⟩ = false := fun t ht hf => by
    obtain ⟨u, hu⟩ := Option.isSome_iff_exists.1 ht
    rw [hg.frozen hu hnb]
    simpa using hf
  by_cases hij : i = j
  · subst hij
    have c1 : ((w.setCell ⟨b, o + i * 3, none⟩ (.int .i64 a)).setCell ⟨b, o + i * 3 + 1, none⟩ (.int .i64 a')).cell? ⟨b, o + i * 3, none⟩ = some (.int .i64 a) := by
      rw [World.cell?_setCell_other _ _ _ _ (fun h => by injection h with _ h _; omega)]
      exact World.cell?_setCell_same _ _ _ e1
    have c2 : ((w.setCell ⟨b, o + i * 3, none⟩ (.int .i64 a)).setCell ⟨b, o + i * 3 + 1, none⟩ (.int .i64 a')).cell? ⟨b, o + i * 3 + 1, none⟩ = some (.int .i64 a') :=
      World.cell?_setCell_same _ _ _ ((World.cell?_setCell_other _ _ _ _ (fun h => by injection h with _ h _; omega)).trans e2)
    have c3' : ((w.setCell ⟨b, o + i * 3, none⟩ (.int .i64 a)).setCell ⟨b, o + i * 3 + 1, none⟩ (.int .i64 a')).cell? ⟨b, o + i * 3 + 2, none⟩ = some (.slice A3 rs[i].xs.length c3) := by
      rw [World.cell?_setCell_other _ _ _ _ (fun h => by injection h with _ h _; omega), World.cell?_setCell_other _ _ _ _ (fun h => by injection h with _ h _; omega)]
      exact e3
    have c5 := hg.cell c1 hnb
    have c6 := hg.cell c2 hnb
    have c7 := hg.cell c3' hnb
    refine ⟨?_, fr _ (by rw [c1]; rfl) k2, fr _ (by rw [c2]; rfl) k3⟩
    rw [List.getElem_set_self]
    refine ⟨A3, c3, c5, c6, by rw [hl]; exact c7, by rw [hl]; exact hi, by rw [hl]; exact e5, e6, ⟨ia, ia'⟩, World.block_lt_of_cell? _ _ c5⟩
  · obtain ⟨m1, m2, m3⟩ := hc i hi2
    obtain ⟨A4, c4, d1, d2, d3, d4, d5, d6, d7, d8⟩ := m1
    have st : ∀ t, t < 3 → ∀ u, w.cell? ⟨b, o + i * 3 + t, none⟩ = some u → ((w.setCell ⟨b, o + j * 3, none⟩ (.int .i64 a)).setCell ⟨b, o + j * 3 + 1, none⟩ (.int .i64 a')).cell? ⟨b, o + i * 3 + t, none⟩ = some u := fun t ht u hu => by
      rw [World.cell?_setCell_other _ _ _ _ (fun h => by injection h with _ h _; omega), World.cell?_setCell_other _ _ _ _ (fun h => by injection h with _ h _; omega)]
      exact hu
    have c1 := st 0 (by omega) _ d1
    have c2 := st 1 (by omega) _ d2
    have c3' := st 2 (by omega) _ d3
    have c5 := hg.cell c1 hnb
    have c6 := hg.cell c2 hnb
    have c7 := hg.cell c3' hnb
    refine ⟨?_, fr _ (by rw [show o + i * 3 = o + i * 3 + 0 from rfl, c1]; rfl) m2, fr _ (by rw [c2]; rfl) m3⟩
    rw [List.getElem_set_ne (fun h => hij h.symm)]
    have hI : Ints w3 (Q i) (.slice A4 rs[i].xs.length c4) rs[i].xs := ((d4.keep g0 (fun x _ hx hb => (hq i x hx).2 hb)).keep hg (fun x _ hx hx2 => hij (h4 i j x hx hx2)))
    exact ⟨A4, c4, c5, c6, c7, hI, d5, d6, d7, World.block_lt_of_cell? _ _ c5⟩
end
/-- the rows that were copied so far -/
def RowsIn2 (w : World) (g B : Nat) (cs : List Value) (rs : List RowM) (j : Nat) : Prop :=
  ∃ Q : Nat → Nat → Prop, (∀ i x, Q i x → g < x ∧ x < B) ∧ (∀ i k x, Q i x → Q k x → i = k) ∧
    ∀ i (hi : i < rs.length), i < j → ∃ A c, cs[i * 3]? = some (.int .i64 rs[i].d) ∧ cs[i * 3 + 1]? = some (.int .i64 rs[i].c) ∧ cs[i * 3 + 2]? = some (.slice A rs[i].xs.length c) ∧ Ints w (Q i) (.slice A rs[i].xs.length c) rs[i].xs ∧ rs[i].xs.length ≤ c ∧ c ≤ 9223372036854775807
theorem RowsIn2.keep {S : Nat → Prop} {w w' : World} {g B : Nat} {cs : List Value} {rs : List RowM} {j : Nat} (h : RowsIn2 w g B cs rs j) (k : Chg S w w') (hS : ∀ b, b < w.heap.size → g < b → ¬ S b) : RowsIn2 w' g B cs rs j := by
  obtain ⟨Q, h1, h2, h3⟩ := h
  refine ⟨Q, h1, h2, fun i hi hij => ?_⟩
  obtain ⟨A, c, k1, k2, k3, k4, k5⟩ := h3 i hi hij
  exact ⟨A, c, k1, k2, k3, k4.keep k (fun b hb hq => hS b hb (h1 i b hq).1), k5⟩
theorem RowsIn2.le {w : World} {g B B' : Nat} {cs : List Value} {rs : List RowM} {j : Nat} (h : RowsIn2 w g B cs rs j) (hB : B ≤ B') : RowsIn2 w g B' cs rs j := by
  obtain ⟨Q, h1, h2, h3⟩ := h
  exact ⟨Q, fun i x hx => ⟨(h1 i x hx).1, by have := (h1 i x hx).2; omega⟩, h2, h3⟩
theorem RowsIn2.next {w : World} {g B : Nat} {cs : List Value} {rs : List RowM} {j : Nat} (h : RowsIn2 w g B cs rs j) (hgB : g < B) (hl : cs.length = j * 3) (hj : j < rs.length) {A : Option Addr} {c : Nat} (hB : B ≤ w.heap.size) (hi : Ints w (fun b => B ≤ b) (.slice A rs[j].xs.length c) rs[j].xs) (h1 : rs[j].xs.length ≤ c) (h2 : c ≤ 9223372036854775807) :
    RowsIn2 w g w.heap.size (cs ++ [.int .i64 rs[j].d, .int .i64 rs[j].c, .slice A rs[j].xs.length c]) rs (j + 1) := by
  obtain ⟨Q, q1, q2, q3⟩ := h
  refine ⟨fun i x => (i < j ∧ Q i x) ∨ (i = j ∧ B ≤ x ∧ x < w.heap.size), ?_, ?_, fun i hi' hij => ?_⟩
  · rintro i x (⟨_, hq⟩ | ⟨_, hq⟩)
    · have := q1 i x hq; omega
    · omega
  · rintro i k x (⟨_, hq⟩ | ⟨e1, hq⟩) (⟨_, hq'⟩ | ⟨e2, hq'⟩)
    · exact q2 i k x hq hq'
    · have := (q1 i x hq).2; omega
    · have := (q1 k x hq').2; omega
    · omega
  by_cases he : i < j
  · obtain ⟨A', c', k1, k2, k3, k4, k5⟩ := q3 i hi' he
    exact ⟨A', c', by rw [List.getElem?_append_left (by omega)]; exact k1, by rw [List.getElem?_append_left (by omega)]; exact k2, by rw [List.getElem?_append_left (by omega)]; exact k3, k4.mono (fun b _ hb => .inl ⟨he, hb⟩), k5⟩
  · obtain rfl : i = j := by omega
    exact ⟨A, c, by rw [List.getElem?_append_right (by omega), hl]; simp, by rw [List.getElem?_append_right (by omega), hl]; simp, by rw [List.getElem?_append_right (by omega), hl]; simp, hi.mono (fun b hb hq => .inr ⟨rfl, hq, hb⟩), h1, h2⟩
theorem toRowX_any (w : World) (S : Nat → Prop) (v : Value) (rs : List RowM) (hb : cntRs rs ≤ 1048576) (h : RowsV w S v rs) :
    Calls Tryz.prog 31 #[v] w fun e w' => ∃ u, e = .returned u ∧ RowsX w' (New w.heap.size w'.heap.size) u rs ∧ Up w w' := by
  obtain ⟨A, c, rfl, hlc, hcm, -⟩ := h.shape
  have H := Lib.hid h
  have hbl : rs.length ≤ 1048576 := by unfold cntRs at hb; omega
  have HB := Lib.hid hb
  clear h hb
  obtain ⟨i0, hi, hz0, hz1, hz2⟩ := info_parts infoRows
  have hmk : ∀ u : World, (Instr.makeSlice 29 (.int .i64 (rs.length : Int)) (.int .i64 (rs.length : Int))).run Tryz.prog u =
      .ok (.slice (some ⟨u.heap.size, 0, none⟩) rs.length rs.length) (u.alloc (.cells (madeCells #[Value.int .i64 0, Value.int .i64 0, Value.slice none 0 0] (rs.length * 3)) 72)) := fun u => by
    have h := run_make (P := Tryz.prog) u 29 72 i0 (.agg #[.int .i64 0, .int .i64 0, .slice none 0 0]) Tryz.underlying29 hi hz0 .i64 .i64 (rs.length : Int) (rs.length : Int) (by omega) (Int.le_refl _) (by rw [hz2]; omega) (by omega)
    simpa [hz1, Value.cells] using h
  go_enter Tryz.func31, Tryz.ntmps31
  go_wp2
  have Hi := Lib.hid hmk
  clear hmk hi hz0 hz1 hz2
  go_loopw [4] (fun i wr => ∃ (j : Nat) (cs : List Value), j ≤ rs.length ∧ i = .int .i64 j ∧ Hid (Up w wr) ∧ w.heap.size < wr.heap.size ∧ Hid (cs.length = j * 3) ∧ Hid (Copying wr w.heap.size 3 rs.length j cs) ∧ Hid (RowsIn2 wr w.heap.size wr.heap.size cs rs j)) (fun i _ => rs.length - (intOf i).toNat)
  case atStart => exact ⟨0, [], by omega, rfl, (Chg.refl _ _).alloc _, by simp, Lib.hid rfl, Copying.start _ _ _ _ _ _ (by simp [size_madeCells]), Lib.hid ⟨fun _ _ => False, fun _ _ h => h.elim, fun _ _ _ h => h.elim, fun i hi h => by omega⟩⟩
  case round =>
    obtain ⟨j, cs, hj, rfl, hg, hsz, hcl, hcs, hin⟩ := hrel
    by_cases hlt : j < rs.length
    · obtain ⟨b, o, rfl, hc⟩ := (H.out.up hg.out).at_ hlt
      obtain ⟨A3, c3, f1, f2, f3, hv⟩ := (hc j hlt).val
      have HV := Lib.hid hv
      have HBJ : Hid (cntInts rs[j].xs ≤ 8388608) := Lib.hid (by have h1 := cntR_succ hlt; have h2 := cntR_le (rs := rs) (show j + 1 ≤ rs.length by omega); have h3 := HB.out; unfold cntRs at h3; unfold cntInts; omega)
      clear hc hv
      go_wp2_with fail
      with_reducible refine (toRow_any _ _ _ rs[j] HBJ.out HV.out).mono ?_
      rintro e w2 ⟨u, rfl, k2, g2⟩
      obtain ⟨A4, c4, rfl, k4, hl4, hc4, -⟩ := k2.shape
      have hcs := Lib.hid (Copying.up hcs.out g2)
      have hin := Lib.hid ((hin.out.keep g2 (fun _ _ _ h => h)).next hsz hcl.out hlt g2.size (k4.mono (fun b _ hb => hb.1)) hl4 hc4)
      have HG := Lib.hid (Chg.trans hg.out g2)
      have hsz2 := Nat.lt_of_lt_of_le hsz g2.size
      clear g2 k2 k4 f1 f2 f3
      obtain ⟨u0, x0, q0⟩ := hcs.out.cell hlt 0 (by omega)
      obtain ⟨u1, x1, q1⟩ := hcs.out.cell hlt 1 (by omega)
      obtain ⟨u2, x2, q2⟩ := hcs.out.cell hlt 2 (by omega)
      rw [Nat.add_zero] at x0 q0
      go_wp2
      go_roundw
      case rel =>
        refine ⟨j + 1, cs ++ [.int .i64 rs[j].d, .int .i64 rs[j].c, .slice A4 rs[j].xs.length c4], by omega, by go_num, Chg.setCellsNew (Nat.le_refl _) [.int .i64 rs[j].d, .int .i64 rs[j].c, .slice A4 rs[j].xs.length c4] (j * 3) HG.out, ?_, Lib.hid (by rw [List.length_append, hcl.out]; simp; omega), Copying.next (Copying.grow hcs.out hcl.out _) hlt (vs := [.int .i64 rs[j].d, .int .i64 rs[j].c, .slice A4 rs[j].xs.length c4]) rfl (fun i hi => ?_), Lib.hid ((hin.out.keep (Chg.setCellsAt (S := fun b => b = w.heap.size) rfl [.int .i64 rs[j].d, .int .i64 rs[j].c, .slice A4 rs[j].xs.length c4] (j * 3) (Chg.refl _ _)) (fun b _ h1 h2 => by have h2 : b = w.heap.size := h2; omega)).le (Chg.setCellsAt (S := fun b => b = w.heap.size) rfl [.int .i64 rs[j].d, .int .i64 rs[j].c, .slice A4 rs[j].xs.length c4] (j * 3) (Chg.refl _ _)).size)⟩
        · simpa [World.setCell] using hsz2
        · have e := hcl.out
          rw [List.getElem?_append_right (by omega), e, Nat.add_sub_cancel_left]
          exact List.getElem?_eq_getElem hi
      case measure => first | (simp [intOf]; done) | (simp [intOf]; omega)
    · obtain rfl : j = rs.length := by omega
      go_wp2
      go_ret
      obtain ⟨Q, q1, q2, q3⟩ := hin.out
      refine ⟨_, rfl, ⟨_, _, Q, rfl, Nat.le_refl _, by omega, by simp, q2, fun hp => ⟨w.heap.size, 0, rfl, ⟨Nat.le_refl _, hsz⟩, fun i x hx => ⟨⟨by have := (q1 i x hx).1; omega, (q1 i x hx).2⟩, by have := (q1 i x hx).1; omega⟩, fun i hi => ?_⟩⟩, hg.out⟩
      obtain ⟨b, o, -, hc⟩ := H.out.at_ hi
      obtain ⟨-, -, -, -, -, -, -, -, h7, -⟩ := hc i hi
      obtain ⟨A', c', k1, k2, k3, k4, k5, k6⟩ := q3 i hi hi
      have e0 := ((hcs.out (i * 3) (by omega)).2.2 (by omega)).trans k1
      have e1 := ((hcs.out (i * 3 + 1) (by omega)).2.2 (by omega)).trans k2
      have e2 := ((hcs.out (i * 3 + 2) (by omega)).2.2 (by omega)).trans k3
      rw [Nat.zero_add]
      exact ⟨⟨A', c', e0, e1, e2, k4, k5, k6, h7, hsz⟩, (hcs.out (i * 3) (by omega)).2.1, (hcs.out (i * 3 + 1) (by omega)).2.1⟩
/-- what marks a slice of rows bears -/
def cntM (rs : List RowM) (j : Nat) : Nat := 2 * j + cntR rs j
def cntC (rs : List RowM) : Nat := cntM rs rs.length
theorem cntC_le (rs : List RowM) : cntC rs ≤ 2 * cntRs rs := by unfold cntC cntM cntRs; omega
def SameLen (rs rs' : List RowM) : Prop := rs'.length = rs.length ∧ ∀ i (h : i < rs.length) (h' : i < rs'.length), rs'[i].xs.length = rs[i].xs.length
theorem SameLen.set {rs rs' : List RowM} (h : SameLen rs rs') {j : Nat} (r : RowM) (hr : ∀ (h : j < rs.length), r.xs.length = rs[j].xs.length) : SameLen rs (rs'.set j r) := by
  refine ⟨by rw [List.length_set]; exact h.1, fun i hi hi' => ?_⟩
  by_cases e : i = j
  · subst e; rw [List.getElem_set_self]; exact hr hi
  · rw [List.getElem_set_ne (fun h => e h.symm)]; exact h.2 i hi _
theorem markRowX_any (w : World) (S : Nat → Prop) (v : Value) (rs : List RowM) (k : Int) (hk : 0 ≤ k) (hb : k + cntC rs ≤ 4611686018427387904) (h : RowsX w S v rs) :
    Calls Tryz.prog 35 #[v, .int .i64 k] w fun e w' => e = .returned (.int .i64 (k + cntC rs)) ∧ Chg S w w' := by
  obtain ⟨A, c, rfl, hlc, hcm, -⟩ := h.shape
  have H := Lib.hid h
  clear h
  go_enter Tryz.func35, Tryz.ntmps35
  go_wp2
  go_loopw [1, 5] (fun q i wr => ∃ (j : Nat) (rs' : List RowM), j ≤ rs.length ∧ i = .int .i64 j ∧ q = .int .i64 (k + cntM rs j) ∧ Hid (Chg S w wr) ∧ Hid (SameLen rs rs') ∧ Hid (RowsX wr S (.slice A rs.length c) rs')) (fun _ i _ => rs.length - (intOf i).toNat)
  case atStart => exact ⟨0, rs, by omega, rfl, by simp [cntM, cntR], Chg.refl _ _, Lib.hid ⟨rfl, fun _ _ _ => rfl⟩, H.out⟩
  clear H
  case round =>
    obtain ⟨j, rs', hj, rfl, rfl, hg, hs, hm⟩ := hrel
    by_cases hlt : j < rs.length
    · have hlen := hs.out.1
      have hm' : RowsX wr S (.slice A rs'.length c) rs' := by rw [hlen]; exact hm.out
      obtain ⟨b, o, A3, c3, Qj, rfl, f1, f2, f3, z1, z2, k0, h1, h2, h3, h4, h5, h6⟩ := hm'.at_ (show j < rs'.length by omega)
      have hxl : rs'[j].xs.length = rs[j].xs.length := hs.out.2 j hlt (by omega)
      obtain ⟨r, hre⟩ : ∃ r, r = rs'[j]'(by omega) := ⟨_, rfl⟩
      rw [← hre] at f1 f2 f3 k0 h1 h6 hxl
      clear hre
      have hle1 : cntM rs (j + 1) ≤ cntC rs := by unfold cntC cntM; have := cntR_le (rs := rs) (show j + 1 ≤ rs.length by omega); omega
      have HC : Hid (cntM rs (j + 1) = cntM rs j + 2 + rs[j].xs.length) := Lib.hid (by unfold cntM; rw [cntR_succ hlt]; omega)
      have hle2 : cntM rs j + 2 + rs[j].xs.length ≤ cntC rs := by rw [← HC.out]; exact hle1
      obtain ⟨m, hm0⟩ : ∃ m : Nat, m = cntM rs j := ⟨_, rfl⟩
      rw [← hm0] at hle2 ⊢
      have HM := Lib.hid hm0
      have I1 : Hid (I64 (k + m)) := Lib.hid (by unfold I64; omega)
      have I2 : Hid (I64 (k + m + 1)) := Lib.hid (by unfold I64; omega)
      have hk2 : (0 : Int) ≤ k + m + 1 + 1 := by omega
      have HB2 : Hid (k + m + 1 + 1 + cntInts r.xs ≤ 4611686018427387904) := Lib.hid (by unfold cntInts; omega)
      have K0 := Lib.hid k0
      have H3 := Lib.hid h3
      have H4 := Lib.hid h4
      have H5 := Lib.hid h5
      have H6 := Lib.hid h6
      have HX := Lib.hid hxl
      have HLN := Lib.hid hlen
      have WD : Hid (Chg (fun x => x = b) wr ((wr.setCell ⟨b, o + j * 3, none⟩ (.int .i64 (k + m))).setCell ⟨b, o + j * 3 + 1, none⟩ (.int .i64 (k + m + 1)))) := Lib.hid (Chg.setCell (Chg.setCell (Chg.refl (fun x => x = b) wr) (p := ⟨b, o + j * 3, none⟩) (.inl rfl) _) (p := ⟨b, o + j * 3 + 1, none⟩) (.inl rfl) _)
      clear hm' k0 h3 h4 h5 h6 hm hle1 hxl hlen hm0
      go_wp2_with fail
      refine (markInts _ Qj _ r.xs (k + m + 1 + 1) hk2 HB2.out (K0.out.keep WD.out (fun x _ hq hx => H5.out (hx ▸ hq)))).mono ?_
      rintro e w1 ⟨rfl, g1, k1⟩
      have HX2 := Lib.hid (H6.out _ _ _ _ I1.out I2.out (marks_length _ _) g1 k1)
      have HG := Lib.hid (Chg.trans hg.out (Chg.trans (WD.out.mono (fun x _ hx => hx ▸ H4.out)) (g1.mono (fun x _ hx => H3.out x hx))))
      have HS2 := Lib.hid (hs.out.set (j := j) ⟨k + m, k + m + 1, marks (k + m + 1 + 1) r.xs.length⟩ (fun _ => by show (marks _ _).length = _; rw [marks_length]; exact HX.out))
      clear g1 k1 f1 f2 f3 z1 z2
      go_wp2
      go_roundw
      case rel => exact ⟨j + 1, rs'.set j ⟨k + m, k + m + 1, marks (k + m + 1 + 1) r.xs.length⟩, by omega, by go_num, by rw [HC.out, ← HM.out, ← HX.out]; unfold cntInts; simp only [Value.int.injEq, true_and]; omega, HG.out, HS2, Lib.hid (by rw [← HLN.out]; exact HX2.out)⟩
      case measure => simp [intOf]; omega
    · obtain rfl : j = rs.length := by omega
      go_wp2
      go_ret
      exact ⟨rfl, hg.out⟩
/-- a chart whose rows' numbers lie in blocks apart -/
def ChartX (w : World) (S : Nat → Prop) (v : Value) (c : ChartM) : Prop := ∃ s, v = .agg #[.int .i64 c.n, s] ∧ RowsX w S s c.rs ∧ I64 c.n
theorem ChartX.cv {w : World} {S : Nat → Prop} {v : Value} {c : ChartM} (h : ChartX w S v c) : ChartV w S v c := let ⟨s, h1, h2, h3⟩ := h; ⟨s, h1, h2.rv, h3⟩
theorem ChartX.keep {S T : Nat → Prop} {w w' : World} {v : Value} {c : ChartM} (h : ChartX w S v c) (g : Chg T w w') (hd : ∀ b, b < w.heap.size → S b → ¬ T b) : ChartX w' S v c := let ⟨s, h1, h2, h3⟩ := h; ⟨s, h1, h2.keep g hd, h3⟩
theorem ChartX.up {S : Nat → Prop} {w w' : World} {v : Value} {c : ChartM} (h : ChartX w S v c) (g : Up w w') : ChartX w' S v c := let ⟨s, h1, h2, h3⟩ := h; ⟨s, h1, h2.up g, h3⟩
theorem ChartV.keep {S T : Nat → Prop} {w w' : World} {v : Value} {c : ChartM} (h : ChartV w S v c) (g : Chg T w w') (hd : ∀ b, b < w.heap.size → S b → ¬ T b) : ChartV w' S v c := let ⟨s, h1, h2, h3⟩ := h; ⟨s, h1, h2.keep g hd, h3⟩
theorem openChartX {w : World} {S : Nat → Prop} {v : Value} {b : ChartM} (h : ChartX w S v b) : ∃ A c, v = .agg #[.int .i64 b.n, .slice A b.rs.length c] ∧ RowsX w S (.slice A b.rs.length c) b.rs ∧ b.rs.length ≤ c ∧ c ≤ 9223372036854775807 := by
  obtain ⟨s, h1, h2, h3⟩ := h
  obtain ⟨A, c, rfl, h5, h6, h7⟩ := h2.shape
  exact ⟨A, c, h1, h2, h5, h6⟩
theorem eqChartX_same (w : World) (S T : Nat → Prop) (v u : Value) (b : ChartM) (h : ChartX w S v b) (h2 : ChartX w T u b) :
    Calls Tryz.prog 12 #[v, u] w fun e w' => e = .returned (.bool true) ∧ Up w w' := eqChart_same w S T v u b h.cv h2.cv
theorem toChartX_any (w : World) (S : Nat → Prop) (v : Value) (b : ChartM) (hb : cntRs b.rs ≤ 1048576) (h : ChartV w S v b) :
    Calls Tryz.prog 9 #[v] w fun e w' => ∃ u, e = .returned u ∧ ChartX w' (New w.heap.size w'.heap.size) u b ∧ Up w w' := by
  obtain ⟨A, c, rfl, h4, h5, h6⟩ := openChart h
  have I0 := Lib.hid h4
  have U0 := Lib.hid (Chg.refl Nowhere w)
  obtain ⟨_, _, _, hi1⟩ := h
  have HI1 := Lib.hid hi1
  clear h4 hi1
  have U_1 := Lib.hid (Chg.trans U0.out ((Chg.refl Nowhere w).alloc (.cells #[.int .i64 b.n, .slice A b.rs.length c] 24)))
  clear U0
  have I_2 := Lib.hid (I0.out.up ((Chg.refl Nowhere w).alloc (.cells #[.int .i64 b.n, .slice A b.rs.length c] 24)))
  clear I0
  have q0_3 := (show (w.alloc (.cells #[.int .i64 b.n, .slice A b.rs.length c] 24)).cell? ⟨w.heap.size, 0, none⟩ = some (.int .i64 b.n) from cell_new _ _ _ _)
  have q1_4 := (show (w.alloc (.cells #[.int .i64 b.n, .slice A b.rs.length c] 24)).cell? ⟨w.heap.size, 1, none⟩ = some (.slice A b.rs.length c) from cell_new _ _ _ _)
  have hbx5 : w.heap.size < (w.alloc (.cells #[.int .i64 b.n, .slice A b.rs.length c] 24)).heap.size := by simp
  go_enter Tryz.func9, Tryz.ntmps9
  go_wp2_with fail
  refine (toRowX_any _ S _ b.rs hb (I_2.out.up (by repeat (first | exact Chg.refl _ _ | apply Chg.drew | apply Chg.drewN | refine Chg.alloc ?_ _)))).mono ?_
  rintro e w6 ⟨v6, rfl, k1, g1⟩
  obtain ⟨A6, c6, rfl, hl6, hc6, -⟩ := k1.shape
  have K1 := Lib.hid k1
  clear k1
  have G1 := Lib.hid g1
  have hz6 := G1.out.size
  clear g1
  have U_7 := Lib.hid (Chg.trans U_1.out (Chg.trans (by repeat (first | exact Chg.refl _ _ | apply Chg.drew | apply Chg.drewN | refine Chg.alloc ?_ _)) G1.out))
  clear U_1
  have I_8 := Lib.hid (I_2.out.up (Chg.trans (by repeat (first | exact Chg.refl _ _ | apply Chg.drew | apply Chg.drewN | refine Chg.alloc ?_ _)) G1.out))
  clear I_2
  have q0_9 := Chg.cell (Chg.trans (by repeat (first | exact Chg.refl _ _ | apply Chg.drew | apply Chg.drewN | refine Chg.alloc ?_ _)) G1.out) q0_3 id
  clear q0_3
  have q1_10 := Chg.cell (Chg.trans (by repeat (first | exact Chg.refl _ _ | apply Chg.drew | apply Chg.drewN | refine Chg.alloc ?_ _)) G1.out) q1_4 id
  clear q1_4
  obtain ⟨x0_11c, x0_11f⟩ := (show CellF w6 ⟨w.heap.size + 1 + 1, 0, none⟩ (.int .i64 b.n) from CellF.up G1.out (by repeat (first | ((refine cellF_at ?_ rfl); (simp; done)) | refine CellF.up ((Chg.refl _ _).alloc _) ?_)))
  obtain ⟨x1_12c, x1_12f⟩ := (show CellF w6 ⟨w.heap.size + 1 + 1, 1, none⟩ (.slice none 0 0) from CellF.up G1.out (by repeat (first | ((refine cellF_at ?_ rfl); (simp; done)) | refine CellF.up ((Chg.refl _ _).alloc _) ?_)))
  obtain ⟨y0_13c, y0_13f⟩ := (show CellF w6 ⟨w.heap.size + 1, 0, none⟩ (.int .i64 0) from CellF.up G1.out (by repeat (first | ((refine cellF_at ?_ rfl); (simp; done)) | refine CellF.up ((Chg.refl _ _).alloc _) ?_)))
  obtain ⟨y1_14c, y1_14f⟩ := (show CellF w6 ⟨w.heap.size + 1, 1, none⟩ (.slice none 0 0) from CellF.up G1.out (by repeat (first | ((refine cellF_at ?_ rfl); (simp; done)) | refine CellF.up ((Chg.refl _ _).alloc _) ?_)))
  clear G1
  have K_15 := Lib.hid (K1.out)
  clear K1
  go_wp2
  have HC := Lib.hid (show Chg (fun b => b = w.heap.size + 1 ∨ b = w.heap.size + 1 + 1) w6 _ from Chg.setCell (Chg.setCell (Chg.setCell (Chg.refl _ _) (p := ⟨w.heap.size + 1 + 1, 1, none⟩) (.inl (.inr rfl)) (.slice A6 b.rs.length c6)) (p := ⟨w.heap.size + 1, 0, none⟩) (.inl (.inl rfl)) (.int .i64 b.n)) (p := ⟨w.heap.size + 1, 1, none⟩) (.inl (.inl rfl)) (.slice A6 b.rs.length c6))
  exact bodyPost_ret (v := .agg #[.int .i64 b.n, .slice A6 b.rs.length c6]) (by simp [results, Tryz.results9, go_sem, y0_13c, y1_14c]) rfl ⟨_, rfl, ⟨_, rfl, (K_15.out.keep HC.out (fun b _ hb hd => by have := hb.1; simp at this; omega)).mono (fun b _ hb => ⟨by have := hb.1; simp at this; omega, Nat.lt_of_lt_of_le hb.2 HC.out.size⟩), HI1.out⟩, Chg.new U_7.out HC.out (fun i hi hd => by omega)⟩
theorem markChartX_any (w : World) (S : Nat → Prop) (v : Value) (b : ChartM) (k : Int) (hk : 0 ≤ k) (hb : k + cntC b.rs ≤ 4611686018427387904) (h : ChartX w S v b) :
    Calls Tryz.prog 13 #[v, .int .i64 k] w fun e w' => e = .returned (.int .i64 (k + cntC b.rs)) ∧ Chg S w w' := by
  obtain ⟨A, c, rfl, h4, h5, h6⟩ := openChartX h
  have U0 := Lib.hid ((Chg.refl Nowhere w).alloc (.cells #[.int .i64 b.n, .slice A b.rs.length c] 31))
  have H := Lib.hid (h4.up U0.out)
  have q1 := (show (w.alloc (.cells #[.int .i64 b.n, .slice A b.rs.length c] 31)).cell? ⟨w.heap.size, 1, none⟩ = some (.slice A b.rs.length c) from cell_new _ _ _ _)
  clear h h4
  go_enter Tryz.func13, Tryz.ntmps13
  go_wp2_with fail
  with_reducible refine (markRowX_any _ S _ b.rs k hk hb H.out).mono ?_
  rintro e w1 ⟨rfl, g1⟩
  have G1 := Lib.hid (Chg.trans (Chg.of_up U0.out) g1)
  clear g1 q1
  go_wp2
  go_ret
  exact ⟨rfl, G1.out⟩
end Go.Proofs.YtnjfhpgmogopnaaGreat
end
namespace Go.Proofs.YtnjfhpgmogopnaaGreat
def insM (x : Int) : List Int → List Int
  | [] => [x]
  | y :: ys => if y ≥ x then (if y > x then x :: y :: ys else y :: ys) else y :: insM x ys
def putL (cs : List Int) : List Int := cs.foldl (fun a x => insM x a) []
theorem insM_mem (x z : Int) : ∀ ys : List Int, z ∈ insM x ys ↔ z = x ∨ z ∈ ys
  | [] => by simp [insM]
  | y :: ys => by
    unfold insM
    split
    · split
      · simp
      · have : y = x := by omega
        subst this
        simp
    · rw [List.mem_cons, insM_mem x z ys, List.mem_cons]
      constructor
      · rintro (h | h | h)
        · exact .inr (.inl h)
        · exact .inl h
        · exact .inr (.inr h)
      · rintro (h | h | h)
        · exact .inr (.inl h)
        · exact .inl h
        · exact .inr (.inr h)
theorem insM_sorted (x : Int) : ∀ {ys : List Int}, ys.Pairwise (· < ·) → (insM x ys).Pairwise (· < ·)
  | [], _ => by simp [insM]
  | y :: ys, h => by
    unfold insM
    rw [List.pairwise_cons] at h
    split
    · split
      · rename_i h1 h2
        rw [List.pairwise_cons]
        refine ⟨fun z hz => ?_, List.pairwise_cons.2 h⟩
        rcases List.mem_cons.1 hz with rfl | hz
        · exact h2
        · have := h.1 z hz; omega
      · exact List.pairwise_cons.2 h
    · rename_i h1
      rw [List.pairwise_cons]
      refine ⟨fun z hz => ?_, insM_sorted x h.2⟩
      rcases (insM_mem x z ys).1 hz with rfl | hz
      · omega
      · exact h.1 z hz
theorem putL_ok (cs : List Int) : ∀ a : List Int, a.Pairwise (· < ·) → (cs.foldl (fun a x => insM x a) a).Pairwise (· < ·) ∧ ∀ z, z ∈ cs.foldl (fun a x => insM x a) a ↔ z ∈ a ∨ z ∈ cs := by
  induction cs with
  | nil => intro a h; exact ⟨h, fun z => by simp⟩
  | cons x cs ih =>
    intro a h
    obtain ⟨h1, h2⟩ := ih (insM x a) (insM_sorted x h)
    refine ⟨h1, fun z => ?_⟩
    rw [List.foldl_cons, h2 z, insM_mem, List.mem_cons]
    constructor
    · rintro ((h | h) | h)
      · exact .inr (.inl h)
      · exact .inl h
      · exact .inr (.inr h)
    · rintro (h | h | h)
      · exact .inl (.inr h)
      · exact .inl (.inl h)
      · exact .inr h
theorem rising_eq : ∀ {xs ys : List Int}, xs.Pairwise (· < ·) → ys.Pairwise (· < ·) → (∀ z, z ∈ xs ↔ z ∈ ys) → xs = ys
  | [], [], _, _, _ => rfl
  | [], y :: ys, _, _, h => absurd ((h y).2 (by simp)) (by simp)
  | x :: xs, [], _, _, h => absurd ((h x).1 (by simp)) (by simp)
  | x :: xs, y :: ys, h1, h2, h => by
    rw [List.pairwise_cons] at h1 h2
    have e : x = y := by
      rcases List.mem_cons.1 ((h x).1 (by simp)) with e | hx
      · exact e
      · rcases List.mem_cons.1 ((h y).2 (by simp)) with e | hy
        · exact e.symm
        · have := h2.1 x hx; have := h1.1 y hy; omega
    subst e
    rw [rising_eq h1.2 h2.2 (fun z => ?_)]
    constructor
    · intro hz
      rcases List.mem_cons.1 ((h z).1 (by simp [hz])) with rfl | h9
      · have := h1.1 z hz; omega
      · exact h9
    · intro hz
      rcases List.mem_cons.1 ((h z).2 (by simp [hz])) with rfl | h9
      · have := h2.1 z hz; omega
      · exact h9
end Go.Proofs.YtnjfhpgmogopnaaGreat
namespace Go.Proofs.YtnjfhpgmogopnaaGreat
open Go.Proofs
open Go.Shelf
def Tryz.laysSort_ren : Go.Shelf.Ren := ⟨fun | 53 => 88 | 64 => 124 | 63 => 123 | 78 => 155 | 79 => 156 | 70 => 146 | 71 => 147 | 72 => 148 | 73 => 149 | 74 => 150 | 75 => 151 | 59 => 152 | 76 => 153 | 77 => 154 | 88 => 162 | 89 => 163 | 90 => 164 | 91 => 165 | 92 => 166 | 68 => 167 | 96 => 169 | n => n, fun | 22 => 26 | 23 => 2 | 3 => 3 | 51 => 126 | 0 => 0 | 67 => 146 | 69 => 149 | 4 => 4 | 61 => 156 | 60 => 155 | 44 => 161 | 5 => 5 | 9 => 9 | 75 => 168 | 79 => 172 | 83 => 175 | 84 => 176 | n => n, fun | n => n⟩
theorem Tryz.laysSort : Go.Proofs.SlLaysN.n53 Tryz.prog Tryz.laysSort_ren := {
  mixed := by kernel_rfl
  f53 := ⟨Tryz.f88.name, by decide, Tryz.func88.trans (congrArg some (by kernel_rfl))⟩
  f59 := ⟨Tryz.f152.name, by decide, Tryz.func152.trans (congrArg some (by kernel_rfl))⟩
  f63 := ⟨Tryz.f123.name, by decide, Tryz.func123.trans (congrArg some (by kernel_rfl))⟩
  f64 := Tryz.func124.trans (congrArg some (by kernel_rfl))
  f68 := ⟨Tryz.f167.name, by decide, Tryz.func167.trans (congrArg some (by kernel_rfl))⟩
  f70 := ⟨Tryz.f146.name, by decide, Tryz.func146.trans (congrArg some (by kernel_rfl))⟩
  f71 := ⟨Tryz.f147.name, by decide, Tryz.func147.trans (congrArg some (by kernel_rfl))⟩
  f72 := ⟨Tryz.f148.name, by decide, Tryz.func148.trans (congrArg some (by kernel_rfl))⟩
  f73 := ⟨Tryz.f149.name, by decide, Tryz.func149.trans (congrArg some (by kernel_rfl))⟩
  f74 := ⟨Tryz.f150.name, by decide, Tryz.func150.trans (congrArg some (by kernel_rfl))⟩
  f75 := ⟨Tryz.f151.name, by decide, Tryz.func151.trans (congrArg some (by kernel_rfl))⟩
  f76 := ⟨Tryz.f153.name, by decide, Tryz.func153.trans (congrArg some (by kernel_rfl))⟩
  f77 := ⟨Tryz.f154.name, by decide, Tryz.func154.trans (congrArg some (by kernel_rfl))⟩
  f78 := Tryz.func155.trans (congrArg some (by kernel_rfl))
  f79 := Tryz.func156.trans (congrArg some (by kernel_rfl))
  f88 := ⟨Tryz.f162.name, by decide, Tryz.func162.trans (congrArg some (by kernel_rfl))⟩
  f89 := Tryz.func163.trans (congrArg some (by kernel_rfl))
  f90 := Tryz.func164.trans (congrArg some (by kernel_rfl))
  f91 := ⟨Tryz.f165.name, by decide, Tryz.func165.trans (congrArg some (by kernel_rfl))⟩
  f92 := ⟨Tryz.f166.name, by decide, Tryz.func166.trans (congrArg some (by kernel_rfl))⟩
  f96 := ⟨Tryz.f169.name, by decide, Tryz.func169.trans (congrArg some (by kernel_rfl))⟩
  t0 := Tryz.underlying0
  a0 := Tryz.isAgg0
  z0 := Tryz.sizeOf0
  v0 := Tryz.zeroValue0
  t3 := Tryz.underlying3
  a3 := Tryz.isAgg3
  z3 := Tryz.sizeOf3
  v3 := Tryz.zeroValue3
  t4 := Tryz.underlying4
  a4 := Tryz.isAgg4
  z4 := Tryz.sizeOf4
  v4 := Tryz.zeroValue4
  t5 := Tryz.underlying5
  a5 := Tryz.isAgg5
  z5 := Tryz.sizeOf5
  v5 := Tryz.zeroValue5
  t9 := Tryz.underlying9
  a9 := Tryz.isAgg9
  z9 := Tryz.sizeOf9
  v9 := Tryz.zeroValue9
  t22 := Tryz.underlying26
  a22 := Tryz.isAgg26
  z22 := Tryz.sizeOf26
  v22 := Tryz.zeroValue26
  t23 := Tryz.underlying2
  a23 := Tryz.isAgg2
  z23 := Tryz.sizeOf2
  v23 := Tryz.zeroValue2
  t44 := Tryz.underlying161
  a44 := Tryz.isAgg161
  z44 := Tryz.sizeOf161
  v44 := Tryz.zeroValue161
  t51 := Tryz.underlying126
  a51 := Tryz.isAgg126
  z51 := Tryz.sizeOf126
  v51 := Tryz.zeroValue126
  t60 := Tryz.underlying155
  a60 := Tryz.isAgg155
  z60 := Tryz.sizeOf155
  v60 := Tryz.zeroValue155
  t61 := Tryz.underlying156
  a61 := Tryz.isAgg156
  z61 := Tryz.sizeOf156
  v61 := Tryz.zeroValue156
  t67 := Tryz.underlying146
  a67 := Tryz.isAgg146
  z67 := Tryz.sizeOf146
  v67 := Tryz.zeroValue146
  t69 := Tryz.underlying149
  a69 := Tryz.isAgg149
  z69 := Tryz.sizeOf149
  v69 := Tryz.zeroValue149
  t75 := Tryz.underlying168
  a75 := Tryz.isAgg168
  z75 := Tryz.sizeOf168
  v75 := Tryz.zeroValue168
  t79 := Tryz.underlying172
  a79 := Tryz.isAgg172
  z79 := Tryz.sizeOf172
  v79 := Tryz.zeroValue172
  t83 := Tryz.underlying175
  a83 := Tryz.isAgg175
  z83 := Tryz.sizeOf175
  v83 := Tryz.zeroValue175
  t84 := Tryz.underlying176
  a84 := Tryz.isAgg176
  z84 := Tryz.sizeOf176
  v84 := Tryz.zeroValue176 }
open Go.Lib in
theorem Tryz.slices_Sort_int (blk off cap : Nat) (zs : List Int) (w : World) (hH : Go.Sort.Holds (Value.int .i64) w blk off zs.toArray) (hblk : blk < w.heap.size) (hsz : zs.length < 4611686018427387904) :
    Calls Tryz.prog 88 #[.slice (some ⟨blk, off, none⟩) zs.length cap] w fun e w' =>
      e = .returned (.tuple #[]) ∧ ∃ n os, w' = Go.Sort.grow (Go.Sort.putRow (Value.int .i64) (Go.Sort.ahead w n) blk off (zs.mergeSort fun x y => decide (x ≤ y)).toArray) os := AnyG.slices_Sort_int Tryz.laysSort blk off cap zs w hH hblk hsz
open Go.Lib in
theorem Tryz.slices_Sort_int_none (p : Option Addr) (cap : Nat) (w : World) :
    Calls Tryz.prog 88 #[.slice p 0 cap] w fun e w' => e = .returned (.tuple #[]) ∧ w' = w := AnyG.slices_Sort_int_none Tryz.laysSort p cap w
end Go.Proofs.YtnjfhpgmogopnaaGreat
namespace Go.Proofs.YtnjfhpgmogopnaaGreat
open Go.ChangeShapes Go.WideShapes Go.ChangeAt Go.RowKit Go.Sort
theorem Chg.mapBlock (w : World) (blk : Nat) (f : Array Value → Array Value) : Chg (fun b => b = blk) w (Go.Sort.mapBlock w blk f) :=
  ⟨rfl, rfl, rfl, by simp [Go.Sort.mapBlock], fun i _ hi => by
    unfold Go.Sort.mapBlock
    have : blk ≠ i := fun e => hi e.symm
    simp [Array.getElem?_modify, this]⟩
theorem Chg.ahead {S : Nat → Prop} {a w : World} (h : Chg S a w) (n : Nat) : Chg S a (Go.Sort.ahead w n) := ⟨h.os, h.tape, h.output, h.size, h.block⟩
def sortL (ys : List Int) : List Int := ys.mergeSort fun x y => decide (x ≤ y)
theorem sortL_length (ys : List Int) : (sortL ys).length = ys.length := by unfold sortL; simp
theorem sort_any (w : World) (base : Nat) (v : Value) (ys : List Int) (h : OwnI w base v ys) (hl : ys.length ≤ 1000000) :
    Calls Tryz.prog 88 #[v] w fun e w' => e = .returned (.tuple #[]) ∧ OwnI w' base v (sortL ys) ∧ Chg (fun b => v.ownBlock = some b) w w' := by
  rcases h.1.2 with ⟨rfl, h0⟩ | ⟨g, cap, cur, rfl, hg, hh, h3, h4, h5, h6⟩
  · obtain rfl := List.eq_nil_of_length_eq_zero h0
    refine (Tryz.slices_Sort_int_none none 0 w).mono ?_
    rintro e w' ⟨rfl, rfl⟩
    exact ⟨rfl, by simpa [sortL] using h, Chg.refl _ _⟩
  · have hgw : g < w.heap.size := (Array.getElem?_eq_some_iff.1 hh).1
    have e1 : ∀ (zs : List Int) j, (hj : j < zs.length) → zs.toArray[j]! = zs[j] := fun zs j hj => by rw [getElem!_pos zs.toArray j (by simpa using hj)]; simp
    have hH : Holds (Value.int .i64) w g 0 ys.toArray := fun j hj => by
      have hj' : j < ys.length := by simpa using hj
      have hc := World.ownsRow.cells (g := g) h.1 rfl j (.int .i64 ys[j]) (by simp [hj'])
      rw [add_zero] at hc
      rw [e1 _ _ hj', Nat.zero_add]
      exact ⟨hc, by simp [World.frozen?, hh]⟩
    refine (Tryz.slices_Sort_int g 0 cap ys w hH hgw (by omega)).mono ?_
    rintro e w' ⟨rfl, q, os, rfl⟩
    refine ⟨rfl, ?_, ?_⟩
    · refine ⟨⟨by simp [sortL], .inr ⟨g, cap, putCells (Value.int .i64) 0 (sortL ys).toArray cur, by rw [sortL_length], hg, ?_, by rw [← sortL_length ys] at h3; simpa [sortL] using h3, h4, ?_, ?_⟩⟩, fun x hx => h.2 x (by simpa [sortL] using hx)⟩
      · unfold Go.Sort.grow Go.Sort.putRow Go.Sort.mapBlock Go.Sort.ahead
        simp only [Array.getElem?_append, Array.size_modify, hgw, if_true, Array.getElem?_modify, hh, Option.map_some]
        rfl
      · simpa [putCells] using h5
      · apply List.ext_getElem?
        intro k
        rw [List.getElem?_take]
        have hlk : ((sortL ys).map (Value.int .i64)).length = ys.length := by simp [sortL]
        have hcs : ys.length ≤ cur.size := by simp at h5; omega
        by_cases hk : k < ys.length
        · have hk2 : k < (sortL ys).length := by rw [sortL_length]; exact hk
          rw [if_pos (by simpa [sortL] using hk)]
          simp only [putCells, Array.getElem?_toList, Array.getElem?_mapIdx]
          rw [Array.getElem?_eq_getElem (by omega), Option.map_some, if_pos ⟨by omega, by simpa [sortL] using hk⟩, Nat.sub_zero, e1 _ _ hk2, List.getElem?_map, List.getElem?_eq_getElem hk2]
          rfl
        · rw [if_neg (by simpa [sortL] using hk), List.getElem?_eq_none (by omega)]
    · have h1 : Chg (fun b => (Value.slice (some ⟨g, 0, none⟩) ys.length cap).ownBlock = some b) w (Go.Sort.putRow (Value.int .i64) (Go.Sort.ahead w q) g 0 (sortL ys).toArray) :=
        Chg.trans ((Chg.refl _ w).ahead q) ((Chg.mapBlock _ g _).mono fun b _ hb => by subst hb; rfl)
      refine Chg.trans h1 ⟨rfl, rfl, rfl, by simp [Go.Sort.grow], fun i hi _ => ?_⟩
      unfold Go.Sort.grow
      simp only [Array.getElem?_append]
      exact if_pos hi
end Go.Proofs.YtnjfhpgmogopnaaGreat
namespace Go.Proofs.YtnjfhpgmogopnaaGreat
theorem once_rising {ys : List Int} (hs : ∀ i k, i ≤ k → k < ys.length → ix ys i ≤ ix ys k) : ∀ j, j ≤ ys.length → (onceL ys ys j).Pairwise (· < ·) ∧ ∀ z, z ∈ onceL ys ys j ↔ ∃ i, i < j ∧ ix ys i = z
  | 0, _ => by simp [onceL, keepTo]
  | j + 1, h => by
    obtain ⟨h1, h2⟩ := once_rising hs j (by omega)
    cases hk : keepB ys j with
    | true =>
      rw [onceL_yes hk]
      refine ⟨List.pairwise_append.2 ⟨h1, by simp, fun a ha b hb => ?_⟩, fun z => ?_⟩
      · obtain ⟨i, hi, rfl⟩ := (h2 a).1 ha
        obtain rfl : b = ix ys j := by simpa using hb
        have h3 := hs i (j - 1) (by omega) (by omega)
        have h4 := hs (j - 1) j (by omega) (by omega)
        unfold keepB at hk
        have h5 : ix ys j ≠ ix ys (j - 1) := by
          rw [decide_eq_false (show ¬ j = 0 by omega), Bool.false_or] at hk
          simpa using hk
        omega
      · rw [List.mem_append, h2 z]
        constructor
        · rintro (⟨i, hi, e⟩ | hz)
          · exact ⟨i, by omega, e⟩
          · exact ⟨j, by omega, (by simpa using hz : z = ix ys j).symm⟩
        · rintro ⟨i, hi, e⟩
          by_cases hij : i < j
          · exact .inl ⟨i, hij, e⟩
          · obtain rfl : i = j := by omega
            exact .inr (by simp [e])
    | false =>
      rw [onceL_no hk]
      refine ⟨h1, fun z => ?_⟩
      rw [h2 z]
      unfold keepB at hk
      rw [Bool.or_eq_false_iff] at hk
      have hj : ¬ j = 0 := of_decide_eq_false hk.1
      have he : ix ys j = ix ys (j - 1) := by simpa using hk.2
      constructor
      · rintro ⟨i, hi, e⟩; exact ⟨i, by omega, e⟩
      · rintro ⟨i, hi, e⟩
        by_cases hij : i < j
        · exact ⟨i, hij, e⟩
        · obtain rfl : i = j := by omega
          exact ⟨i - 1, by omega, by rw [← he]; exact e⟩
theorem once_sort (cs : List Int) : onceL (sortL cs) (sortL cs) (sortL cs).length = putL cs := by
  have hp : (sortL cs).Pairwise (· ≤ ·) := by
    unfold sortL
    refine (List.pairwise_mergeSort (le := fun x y => decide (x ≤ y)) (fun a b c h1 h2 => by simp at *; omega) (fun a b => by simp; omega) cs).imp (fun h => by simpa using h)
  have hs : ∀ i k, i ≤ k → k < (sortL cs).length → ix (sortL cs) i ≤ ix (sortL cs) k := fun i k h1 h2 => by
    rw [ix_eq h2, ix_eq (show i < (sortL cs).length by omega)]
    by_cases e : i = k
    · subst e; omega
    · exact List.pairwise_iff_getElem.1 hp i k (by omega) h2 (by omega)
  obtain ⟨h1, h2⟩ := once_rising hs _ (Nat.le_refl _)
  obtain ⟨h3, h4⟩ := putL_ok cs [] (by simp)
  refine rising_eq h1 h3 (fun z => ?_)
  rw [h2 z]
  refine Iff.trans ?_ (h4 z).symm
  have hm : z ∈ sortL cs ↔ z ∈ cs := by unfold sortL; exact List.mem_mergeSort
  constructor
  · rintro ⟨i, hi, e⟩
    refine .inr (hm.1 ?_)
    rw [← e, ix_eq hi]
    exact List.getElem_mem hi
  · rintro (h | h)
    · simp at h
    · obtain ⟨i, hi, e⟩ := List.getElem_of_mem (hm.2 h)
      exact ⟨i, hi, by rw [ix_eq hi]; exact e⟩
end Go.Proofs.YtnjfhpgmogopnaaGreat
namespace Go.Proofs.YtnjfhpgmogopnaaGreat
open Go.ChangeShapes Go.WideShapes Go.ChangeAt Go.RowKit
open Go.Sort Go.Lib
theorem Chg.mapBlock6 (w : World) (blk : Nat) (f : Array Value → Array Value) : Chg (fun b => b = blk) w (Go.Sort.mapBlock w blk f) :=
  ⟨rfl, rfl, rfl, by simp [Go.Sort.mapBlock], fun k _ hn => by
    simp only [Go.Sort.mapBlock, Array.getElem?_modify]
    rw [if_neg (fun h => hn h.symm)]⟩
theorem Chg.ahead6 {S : Nat → Prop} {a w : World} (h : Chg S a w) (n : Nat) : Chg S a (Go.Sort.ahead w n) := ⟨h.os, h.tape, h.output, h.size, h.block⟩
theorem get!_eq {xs : List Int} {j : Nat} (h : j < xs.length) : xs[j]! = xs[j] := getElem!_pos xs j h
theorem compact_model (ys : List Int) : ∀ n, n ≤ ys.length → compactUpTo ys.toArray n = onceL ys ys n := by
  intro n
  induction n with
  | zero => intro _; rfl
  | succ n ih =>
    intro h
    have e1 : ∀ j, j < ys.length → ys.toArray[j]! = ix ys j := fun j hj => by rw [ix_eq hj, getElem!_pos ys.toArray j (by simpa using hj)]; simp
    have hk : keeps ys.toArray n = keepB ys n := by
      unfold keeps keepB
      rw [e1 n (by omega), e1 (n - 1) (by omega), Bool.eq_iff_iff]
      simp
    rw [compactUpTo_succ, ih (by omega), hk, e1 n (by omega)]
    cases hb : keepB ys n with
    | true => rw [onceL_yes hb]; rfl
    | false => rw [onceL_no hb]; simp
theorem compact_any (w : World) (base : Nat) (v : Value) (ys : List Int) (h : OwnI w base v ys) (hl : ys.length ≤ 1000000) (hv : ∃ g c, v = .slice (some ⟨g, 0, none⟩) ys.length c) :
    Calls Tryz.prog 89 #[v] w fun e w' => ∃ v', e = .returned v' ∧ Ints w' (New base w'.heap.size) v' (onceL ys ys ys.length) ∧ Chg (fun b => v.ownBlock = some b) w w' := by
  obtain ⟨g, c, rfl⟩ := hv
  have hg := h.1.lt g rfl
  obtain ⟨A', c', he, h1, h2, h3, h4, -⟩ := h.ints
  obtain ⟨rfl, rfl⟩ : some ⟨g, 0, none⟩ = A' ∧ c = c' := by simpa using he
  have e1 : ∀ (zs : List Int) j, (hj : j < zs.length) → zs.toArray[j]! = zs[j] := fun zs j hj => by rw [getElem!_pos zs.toArray j (by simpa using hj)]; simp
  have hH : Holds (Value.int .i64) w g 0 ys.toArray := fun j hj => by
    have hj' : j < ys.length := by simpa using hj
    obtain ⟨b, o, hA, -, -, hc⟩ := h4 (by omega)
    obtain ⟨rfl, rfl⟩ : g = b ∧ 0 = o := by simpa using hA
    rw [e1 _ _ hj']
    exact hc j hj'
  have hcm := compact_model ys ys.length (Nat.le_refl _)
  have hle := onceL_length ys ys ys.length
  have hmem : ∀ x ∈ onceL ys ys ys.length, I64 x := fun x hx => by
    obtain ⟨i, hi, rfl⟩ := List.mem_map.1 hx
    have := keepTo_mem hi
    rw [ix_eq this]
    exact h3 _ (List.getElem_mem this)
  refine (Tryz.slices_Compact (Value.int .i64) (fun _ => rfl) (EqlAt.intD Tryz.prog 2 .i64) (NeqAt.intD Tryz.prog 2 .i64) 0 Tryz.zeroValue2 g 0 c ys.toArray w hH (by simp; omega) (by simpa using h1)).mono ?_
  rintro e w' ⟨rfl, q, rfl⟩
  have hsz : ys.toArray.size = ys.length := by simp
  rw [hsz, hcm]
  obtain ⟨zs, hzs⟩ : ∃ zs, onceL ys ys ys.length ++ List.replicate (ys.length - (onceL ys ys ys.length).length) 0 = zs := ⟨_, rfl⟩
  have hzl : zs.length = ys.length := by rw [← hzs]; simp; omega
  have hHo := holds_putRow (Value.int .i64) (Go.Sort.ahead w q) g 0 ys.toArray zs.toArray (holds_ahead _ w q g 0 _ hH) (by simp [hzl])
  rw [hzs]
  refine ⟨_, rfl, ?_, ?_⟩
  · refine Ints.of_cells ⟨hg.1, by simpa using hg.2⟩ (by simpa using hg.2) (by omega) h2 hmem (fun t ht => ?_)
    have := hHo t (by simp; omega)
    rw [e1 _ _ (by omega), Nat.zero_add] at this
    have hg : zs[t]'(by omega) = (onceL ys ys ys.length)[t] := by subst hzs; rw [List.getElem_append_left ht]
    rw [hg] at this
    exact this
  · have hc := Chg.ahead6 (Chg.mapBlock6 w g (putCells (Value.int .i64) 0 zs.toArray)) q
    refine hc.mono (fun k _ hk => ?_)
    show some g = some k
    rw [hk]
end Go.Proofs.YtnjfhpgmogopnaaGreat
namespace Go.Proofs.YtnjfhpgmogopnaaGreat
def carsTo (rs : List RowM) (j : Nat) : List Int := (rs.take j).map fun r => r.c
theorem carsTo_succ {rs : List RowM} {j : Nat} (h : j < rs.length) : carsTo rs (j + 1) = carsTo rs j ++ [rs[j].c] := by
  unfold carsTo; rw [List.take_succ_eq_append_getElem h, List.map_append]; rfl
theorem carsTo_length {rs : List RowM} {j : Nat} (h : j ≤ rs.length) : (carsTo rs j).length = j := by unfold carsTo; simp; omega
theorem putL_append (cs ds : List Int) : putL (cs ++ ds) = ds.foldl (fun a x => insM x a) (putL cs) := by unfold putL; rw [List.foldl_append]
theorem putL_snoc (cs : List Int) (x : Int) : putL (cs ++ [x]) = insM x (putL cs) := by rw [putL_append]; rfl
theorem insM_len (x : Int) : ∀ ys : List Int, (insM x ys).length ≤ ys.length + 1
  | [] => by simp [insM]
  | y :: ys => by
    unfold insM
    have := insM_len x ys
    split
    · split <;> simp
    · simp; omega
theorem putL_len (cs : List Int) : ∀ a : List Int, (cs.foldl (fun a x => insM x a) a).length ≤ a.length + cs.length := by
  induction cs with
  | nil => intro a; simp
  | cons x cs ih =>
    intro a
    have h1 := ih (insM x a)
    have h2 := insM_len x a
    rw [List.foldl_cons, List.length_cons]
    omega
theorem putL_length (cs : List Int) : (putL cs).length ≤ cs.length := by have := putL_len cs []; simpa [putL] using this
theorem insM_has {x : Int} : ∀ {ys : List Int}, ys.Pairwise (· < ·) → x ∈ ys → insM x ys = ys
  | [], _, h => by simp at h
  | y :: ys, hp, h => by
    rw [List.pairwise_cons] at hp
    unfold insM
    by_cases e : y = x
    · subst e
      rw [if_pos (Int.le_refl _), if_neg (by omega)]
    · have hm : x ∈ ys := by
        rcases List.mem_cons.1 h with h1 | h1
        · exact absurd h1.symm e
        · exact h1
      have := hp.1 x hm
      rw [if_neg (by omega), insM_has hp.2 hm]
/-- what stands ahead of where a number goes, and behind it -/
def insA (x : Int) (ys : List Int) (j : Nat) : List Int := if (ys.take j).any (fun y => decide (y ≥ x)) then insM x (ys.take j) else ys.take j
theorem insM_snoc_hit {x y : Int} : ∀ {ys : List Int}, (ys.any fun z => decide (z ≥ x)) = true → insM x (ys ++ [y]) = insM x ys ++ [y]
  | [], h => by simp at h
  | z :: zs, h => by
    rw [List.cons_append]
    unfold insM
    by_cases hz : z ≥ x
    · rw [if_pos hz, if_pos hz]
      split <;> simp
    · rw [if_neg hz, if_neg hz, List.cons_append, insM_snoc_hit (by simpa [hz] using h)]
theorem insM_snoc_miss {x y : Int} : ∀ {ys : List Int}, (ys.any fun z => decide (z ≥ x)) = false → insM x (ys ++ [y]) = ys ++ insM x [y]
  | [], h => by simp
  | z :: zs, h => by
    have hz : ¬ z ≥ x := by simp at h; omega
    rw [List.cons_append, List.cons_append]
    conv => lhs; unfold insM
    rw [if_neg hz, insM_snoc_miss (by simp at h; simpa using h.2)]
theorem insM_miss {x : Int} : ∀ {ys : List Int}, (ys.any fun z => decide (z ≥ x)) = false → insM x ys = ys ++ [x]
  | [], h => by simp [insM]
  | z :: zs, h => by
    have hz : ¬ z ≥ x := by simp at h; omega
    unfold insM
    rw [if_neg hz, insM_miss (by simp at h; simpa using h.2)]; rfl
theorem anyT_succ (x : Int) {ys : List Int} {j : Nat} (h : j < ys.length) : ((ys.take (j + 1)).any fun z => decide (z ≥ x)) = ((ys.take j).any (fun z => decide (z ≥ x)) || decide (ys[j] ≥ x)) := by
  rw [List.take_succ_eq_append_getElem h, List.any_append]; simp
theorem insA_on {x : Int} {ys : List Int} {j : Nat} (h : j < ys.length) (hd : (ys.take j).any (fun z => decide (z ≥ x)) = true) : insA x ys (j + 1) = insA x ys j ++ [ys[j]] := by
  unfold insA
  rw [anyT_succ x h, hd, Bool.true_or, if_pos rfl, if_pos rfl, List.take_succ_eq_append_getElem h, insM_snoc_hit hd]
theorem insA_gt {x : Int} {ys : List Int} {j : Nat} (h : j < ys.length) (hd : (ys.take j).any (fun z => decide (z ≥ x)) = false) (hg : x < ys[j]) : insA x ys (j + 1) = (insA x ys j ++ [x]) ++ [ys[j]] := by
  unfold insA
  rw [anyT_succ x h, hd, Bool.false_or, decide_eq_true (by omega), if_pos rfl, if_neg (by simp), List.take_succ_eq_append_getElem h, insM_snoc_miss hd]
  simp [insM, hg]
  omega
theorem insA_eq {x : Int} {ys : List Int} {j : Nat} (h : j < ys.length) (hd : (ys.take j).any (fun z => decide (z ≥ x)) = false) (hg : x = ys[j]) : insA x ys (j + 1) = insA x ys j ++ [ys[j]] := by
  unfold insA
  rw [anyT_succ x h, hd, Bool.false_or, decide_eq_true (by omega), if_pos rfl, if_neg (by simp), List.take_succ_eq_append_getElem h, insM_snoc_miss hd]
  simp [insM, hg]
theorem insA_lt {x : Int} {ys : List Int} {j : Nat} (h : j < ys.length) (hd : (ys.take j).any (fun z => decide (z ≥ x)) = false) (hg : ys[j] < x) : insA x ys (j + 1) = insA x ys j ++ [ys[j]] := by
  unfold insA
  rw [anyT_succ x h, hd, Bool.false_or, decide_eq_false (by omega), if_neg (by simp), if_neg (by simp), List.take_succ_eq_append_getElem h]
theorem insA_hit {x : Int} {ys : List Int} (hd : (ys.take ys.length).any (fun z => decide (z ≥ x)) = true) : insA x ys ys.length = insM x ys := by
  unfold insA; rw [hd, if_pos rfl, List.take_length]
theorem insA_end {x : Int} {ys : List Int} (hd : (ys.take ys.length).any (fun z => decide (z ≥ x)) = false) : insA x ys ys.length ++ [x] = insM x ys := by
  rw [List.take_length] at hd
  unfold insA
  rw [List.take_length, hd, if_neg (by simp), insM_miss hd]
end Go.Proofs.YtnjfhpgmogopnaaGreat
section
set_option linter.unusedSimpArgs false
set_option linter.unusedVariables false
set_option maxRecDepth 100000
set_option maxHeartbeats 1000000
namespace Go.Proofs.YtnjfhpgmogopnaaGreat
open Go.ChangeShapes Go.WideShapes Go.ChangeAt Go.RowKit
theorem insA_len (x : Int) (ys : List Int) (j : Nat) : (insA x ys j).length ≤ ys.length + 1 := by
  unfold insA
  split
  · have := insM_len x (ys.take j); simp at this; omega
  · simp; omega
theorem insA_zero (x : Int) (ys : List Int) : insA x ys 0 = [] := by simp [insA]
theorem l00Put_any (w : World) (S : Nat → Prop) (v : Value) (ys : List Int) (x : Int) (h : Ints w S v ys) (hx : I64 x) (hl : ys.length ≤ 1000000) :
    Calls Tryz.prog 46 #[v, .int .i64 x] w fun e w' => ∃ v', e = .returned v' ∧ Ints w' (New w.heap.size w'.heap.size) v' (insM x ys) ∧ Up w w' := by
  obtain ⟨A, c, rfl, hlc, hcm, h64, hr, hnn⟩ := h
  have HX := Lib.hid hx
  have H64 := Lib.hid h64
  have HR := Lib.hid hr
  have HL0 : ∀ j, Hid ((insA x ys j).length ≤ 1099511627776) := fun j => Lib.hid (by have := insA_len x ys j; omega)
  clear h64 hr
  go_enter Tryz.func46, Tryz.ntmps46
  go_wp2
  go_loopw [5, 6, 7] (fun q d i wr => ∃ (j : Nat), j ≤ ys.length ∧ i = .int .i64 j ∧ d = .bool ((ys.take j).any fun z => decide (z ≥ x)) ∧ Hid (OwnI wr w.heap.size q (insA x ys j)) ∧ w.heap.size ≤ wr.heap.size ∧ Hid (Up w wr)) (fun _ _ i _ => ys.length - (intOf i).toNat)
  case atStart => exact ⟨0, by omega, rfl, by simp, Lib.hid (by rw [insA_zero]; exact OwnI.made w _ (Nat.le_refl _)), by simp, Lib.hid ((Chg.refl _ _).alloc _)⟩
  case round =>
    obtain ⟨j, hj, rfl, rfl, hq, hz, hu⟩ := hrel
    have HLJ := HL0 j
    have HLJ1 := HL0 (j + 1)
    by_cases hlt : j < ys.length
    · obtain ⟨b, o, rfl, -, -, hc⟩ := HR.out (by omega)
      have hcj := hu.out.cell (hc j hlt).1 id
      have HY := Lib.hid (H64.out _ (List.getElem_mem hlt))
      obtain ⟨y, hy⟩ : ∃ y, y = ys[j] := ⟨_, rfl⟩
      have HCW := Lib.hid ((hc j hlt).1)
      rw [← hy] at hcj HY HCW
      have HYE := Lib.hid hy
      clear hc hy
      cases hd : (ys.take j).any fun z => decide (z ≥ x) with
      | true =>
        have HN := Lib.hid (insA_on hlt hd)
        have HA := Lib.hid (show ((ys.take (j + 1)).any fun z => decide (z ≥ x)) = true by rw [anyT_succ x hlt, hd]; rfl)
        clear hd
        go_wp2_with (first | (at_builtin; refine wp_append_int rfl _ _ rfl w.heap.size _ (insA x ys j) rfl (hq.out.up (by repeat (first | exact Chg.refl _ _ | apply Chg.drew | apply Chg.drewN | refine Chg.alloc ?_ _))) _ y rfl (cell_at (by simp [World.size_alloc]) rfl) HY.out HLJ.out (by simp [World.size_alloc]; omega) ?_; intro v9 w9 ho9 _ hg9; have HO9 := Lib.hid ho9; have HG9 := Lib.hid hg9; clear ho9 hg9))
        go_roundw
        case rel => exact ⟨j + 1, by omega, by go_num, by rw [HA.out], Lib.hid (by rw [HN.out, ← HYE.out]; exact HO9.out), by have h9 := HG9.out.size; simp [World.size_alloc] at h9; omega, Lib.hid (Chg.new (hu.out.alloc _) HG9.out (fun i hi hh => by omega))⟩
        case measure => first | (simp [intOf]; done) | (simp [intOf]; omega)
      | false =>
        by_cases hge : y ≥ x
        · have HA := Lib.hid (show ((ys.take (j + 1)).any fun z => decide (z ≥ x)) = true by rw [anyT_succ x hlt, hd, ← HYE.out, decide_eq_true hge]; rfl)
          have t1 : decide (x ≤ y) = true := decide_eq_true hge
          by_cases hgt : x < y
          · have HN := Lib.hid (insA_gt hlt hd (by rw [← HYE.out]; exact hgt))
            have t2 : decide (x < y) = true := decide_eq_true hgt
            have HL2 : Hid ((insA x ys j ++ [x]).length ≤ 1099511627776) := Lib.hid (by have := HLJ1.out; rw [HN.out] at this; simp at this ⊢; omega)
            clear hd hge hgt
            go_wp2_with (first | (at_builtin; refine wp_append_int rfl _ _ rfl w.heap.size _ (insA x ys j ++ [x]) rfl (HO9.out.up (by repeat (first | exact Chg.refl _ _ | apply Chg.drew | apply Chg.drewN | refine Chg.alloc ?_ _))) _ y rfl (cell_at (by simp [World.size_alloc]) rfl) HY.out HL2.out (by simp [World.size_alloc]; omega) ?_; intro v8 w8 ho8 _ hg8; have HO8 := Lib.hid ho8; have HG8 := Lib.hid hg8; clear ho8 hg8) | (at_builtin; refine wp_append_int rfl _ _ rfl w.heap.size _ (insA x ys j) rfl (hq.out.up (by repeat (first | exact Chg.refl _ _ | apply Chg.drew | apply Chg.drewN | refine Chg.alloc ?_ _))) _ x rfl (cell_at (by simp [World.size_alloc]) rfl) HX.out HLJ.out (by simp [World.size_alloc]; omega) ?_; intro v9 w9 ho9 _ hg9; have HO9 := Lib.hid ho9; have HG9 := Lib.hid hg9; clear ho9 hg9; have hz9 : w.heap.size ≤ w9.heap.size := (by have h9 := HG9.out.size; simp [World.size_alloc] at h9; omega); have HU9 := Lib.hid (show Up w w9 from Chg.new (hu.out.alloc _) HG9.out (fun i hi hh => by omega)); have hcj9 := HU9.out.cell HCW.out id))
            go_roundw
            case rel => exact ⟨j + 1, by omega, by go_num, by rw [HA.out], Lib.hid (by rw [HN.out, ← HYE.out]; exact HO8.out), by have h9 := HG8.out.size; simp [World.size_alloc] at h9; omega, Lib.hid (Chg.new (HU9.out.alloc _) HG8.out (fun i hi hh => by omega))⟩
            case measure => first | (simp [intOf]; done) | (simp [intOf]; omega)
          · obtain rfl : x = y := by omega
            have HN := Lib.hid (insA_eq hlt hd HYE.out)
            have t2 : decide (x < x) = false := decide_eq_false (by omega)
            clear hd hge hgt
            go_wp2_with (first | (at_builtin; refine wp_append_int rfl _ _ rfl w.heap.size _ (insA x ys j) rfl (hq.out.up (by repeat (first | exact Chg.refl _ _ | apply Chg.drew | apply Chg.drewN | refine Chg.alloc ?_ _))) _ x rfl (cell_at (by simp [World.size_alloc]) rfl) HX.out HLJ.out (by simp [World.size_alloc]; omega) ?_; intro v9 w9 ho9 _ hg9; have HO9 := Lib.hid ho9; have HG9 := Lib.hid hg9; clear ho9 hg9))
            go_roundw
            case rel => exact ⟨j + 1, by omega, by go_num, by rw [HA.out], Lib.hid (by rw [HN.out, ← HYE.out]; exact HO9.out), by have h9 := HG9.out.size; simp [World.size_alloc] at h9; omega, Lib.hid (Chg.new (hu.out.alloc _) HG9.out (fun i hi hh => by omega))⟩
            case measure => first | (simp [intOf]; done) | (simp [intOf]; omega)
        · have HA := Lib.hid (show ((ys.take (j + 1)).any fun z => decide (z ≥ x)) = false by rw [anyT_succ x hlt, hd, ← HYE.out, decide_eq_false hge]; rfl)
          have t1 : decide (x ≤ y) = false := decide_eq_false hge
          have HN := Lib.hid (insA_lt hlt hd (by rw [← HYE.out]; omega))
          clear hd hge
          go_wp2_with (first | (at_builtin; refine wp_append_int rfl _ _ rfl w.heap.size _ (insA x ys j) rfl (hq.out.up (by repeat (first | exact Chg.refl _ _ | apply Chg.drew | apply Chg.drewN | refine Chg.alloc ?_ _))) _ y rfl (cell_at (by simp [World.size_alloc]) rfl) HY.out HLJ.out (by simp [World.size_alloc]; omega) ?_; intro v9 w9 ho9 _ hg9; have HO9 := Lib.hid ho9; have HG9 := Lib.hid hg9; clear ho9 hg9))
          go_roundw
          case rel => exact ⟨j + 1, by omega, by go_num, by rw [HA.out], Lib.hid (by rw [HN.out, ← HYE.out]; exact HO9.out), by have h9 := HG9.out.size; simp [World.size_alloc] at h9; omega, Lib.hid (Chg.new (hu.out.alloc _) HG9.out (fun i hi hh => by omega))⟩
          case measure => first | (simp [intOf]; done) | (simp [intOf]; omega)
    · obtain rfl : j = ys.length := by omega
      cases hd : (ys.take ys.length).any fun z => decide (z ≥ x) with
      | true =>
        have HN := Lib.hid (insA_hit hd)
        clear hd
        go_wp2
        go_ret
        exact ⟨_, rfl, by rw [← HN.out]; exact hq.out.ints, hu.out⟩
      | false =>
        have HN := Lib.hid (insA_end hd)
        clear hd
        go_wp2_with (first | (at_builtin; refine wp_append_int rfl _ _ rfl w.heap.size _ (insA x ys ys.length) rfl (hq.out.up (by repeat (first | exact Chg.refl _ _ | apply Chg.drew | apply Chg.drewN | refine Chg.alloc ?_ _))) _ x rfl (cell_at (by simp [World.size_alloc]) rfl) HX.out HLJ.out (by simp [World.size_alloc]; omega) ?_; intro v9 w9 ho9 _ hg9; have HO9 := Lib.hid ho9; have HG9 := Lib.hid hg9; clear ho9 hg9))
        go_wp2
        go_ret
        exact ⟨_, rfl, by rw [← HN.out]; exact HO9.out.ints, Chg.new (hu.out.alloc _) HG9.out (fun i hi hh => by omega)⟩
theorem OwnI.made' {w : World} {base : Nat} {v : Value} {xs : List Int} (h : OwnI w base v xs) (hp : 0 < xs.length) : ∃ g c, v = .slice (some ⟨g, 0, none⟩) xs.length c := by
  rcases h.1.2 with ⟨_, h0⟩ | ⟨g, cap, cur, rfl, _⟩
  · omega
  · exact ⟨g, cap, rfl⟩
theorem carriersOf_any (w : World) (S : Nat → Prop) (v : Value) (c : ChartM) (h : ChartV w S v c) (hl : c.rs.length ≤ 8) :
    Calls Tryz.prog 55 #[v] w fun e w' => ∃ v', e = .returned v' ∧ Ints w' (New w.heap.size w'.heap.size) v' (putL (carsTo c.rs c.rs.length)) ∧ Up w w' := by
  obtain ⟨A, k, rfl, hr, hlk, hkm, -⟩ := h.shape
  have HR0 := Lib.hid (hr.mono (T := fun b => b < w.heap.size) fun _ h _ => h)
  have U0 := Lib.hid ((Chg.refl Nowhere w).alloc (.cells #[.int .i64 c.n, .slice A c.rs.length k] 31))
  have b1 : ((w.alloc (.cells #[.int .i64 c.n, .slice A c.rs.length k] 31)).alloc (.cells #[] 2)).cell? ⟨w.heap.size, 1, none⟩ = some (.slice A c.rs.length k) := Chg.cell ((Chg.refl Nowhere _).alloc (.cells #[] 2)) (cell_new _ _ _ _) id
  clear h hr
  go_enter Tryz.func55, Tryz.ntmps55
  go_wp2
  clear b1
  go_loopw [3, 10] (fun q i wr => ∃ (j : Nat), j ≤ c.rs.length ∧ i = .int .i64 j ∧ Hid (OwnI wr (w.heap.size + 1) q (carsTo c.rs j)) ∧ Hid (∃ g cc, q = .slice (some ⟨g, 0, none⟩) (carsTo c.rs j).length cc) ∧ Hid (Up w wr) ∧ w.heap.size + 1 ≤ wr.heap.size) (fun _ i _ => c.rs.length - (intOf i).toNat)
  case atStart =>
    have hm := OwnI.made (w.alloc (.cells #[.int .i64 c.n, .slice A c.rs.length k] 31)) (w.heap.size + 1) (by simp)
    rw [World.size_alloc w] at hm
    exact ⟨0, by omega, rfl, Lib.hid hm, Lib.hid ⟨_, _, rfl⟩, Lib.hid (U0.out.alloc _), by rw [World.size_alloc, World.size_alloc]; omega⟩
  case round =>
    obtain ⟨j, hj, rfl, hq, hs, hu, hz⟩ := hrel
    obtain ⟨gq, cq, rfl⟩ := hs.out
    by_cases hlt : j < c.rs.length
    · obtain ⟨b, o, rfl, hc⟩ := (HR0.out.up hu.out).at_ hlt
      obtain ⟨⟨rd, rc, rx⟩, hre⟩ : ∃ r, r = c.rs[j] := ⟨_, rfl⟩
      have hcj := hc j hlt
      rw [← hre] at hcj
      obtain ⟨A3, c3, f1, f2, f3, -, -, -, h64, -⟩ := hcj
      have HI := Lib.hid h64.2
      have HS : Hid (carsTo c.rs (j + 1) = carsTo c.rs j ++ [rc]) := Lib.hid (by rw [carsTo_succ hlt, ← hre])
      have HL : Hid ((carsTo c.rs j).length ≤ 1099511627776) := Lib.hid (by rw [carsTo_length hj]; omega)
      have UB := Lib.hid ((Chg.refl Nowhere wr).alloc (.cells #[.int .i64 rd, .int .i64 rc, .slice A3 rx.length c3] 72))
      clear hc h64 hre
      go_wp2_with (first | (at_builtin; refine wp_append_int2 rfl _ _ rfl (w.heap.size + 1) _ (carsTo c.rs j) rfl (hq.out.up (by repeat (first | exact Chg.refl _ _ | apply Chg.drew | apply Chg.drewN | refine Chg.alloc ?_ _))) _ rc rfl (cell_at (by simp [World.size_alloc]) rfl) HI.out HL.out (by simp [World.size_alloc]; omega) ?_; intro v9 w9 ho9 _ _ hg9; have HO9 := Lib.hid ho9; have HG9 := Lib.hid hg9; clear ho9 hg9))
      go_roundw
      case rel => exact ⟨j + 1, by omega, by go_num, Lib.hid (by rw [HS.out]; exact HO9.out), Lib.hid (by obtain ⟨g, cc, e⟩ := HO9.out.made' (by simp); exact ⟨g, cc, by rw [HS.out]; exact e⟩), Lib.hid (Chg.new ((hu.out.alloc _).alloc _) HG9.out (fun i hi hh => by omega)), by have h9 := HG9.out.size; simp [World.size_alloc] at h9; omega⟩
      case measure => first | (simp [intOf]; done) | (simp [intOf]; omega)
    · obtain rfl : j = c.rs.length := by omega
      have HL : Hid ((carsTo c.rs c.rs.length).length ≤ 1000000) := Lib.hid (by rw [carsTo_length hj]; omega)
      have HL2 : Hid ((sortL (carsTo c.rs c.rs.length)).length ≤ 1000000) := Lib.hid (by rw [sortL_length]; exact HL.out)
      have hlt := hq.out.lt rfl
      go_wp2_with fail
      refine (sort_any _ (w.heap.size + 1) _ (carsTo c.rs c.rs.length) hq.out HL.out).mono ?_
      rintro e w2 ⟨rfl, k2, g2⟩
      have K2 := Lib.hid k2
      have U2 := Lib.hid (Chg.new hu.out g2 (fun i hi hh => by have hh2 : some gq = some i := hh; injection hh2 with hh3; omega))
      clear k2 g2
      go_wp2_with fail
      refine (compact_any _ (w.heap.size + 1) _ (sortL (carsTo c.rs c.rs.length)) K2.out HL2.out ⟨gq, cq, by rw [sortL_length]⟩).mono ?_
      rintro e w3 ⟨v3, rfl, k3, g3⟩
      have K3 := Lib.hid k3
      have U3 := Lib.hid (Chg.new U2.out g3 (fun i hi hh => by have hh2 : some gq = some i := hh; injection hh2 with hh3; omega))
      clear k3 g3
      go_wp2
      go_ret
      refine ⟨_, rfl, ?_, U3.out⟩
      rw [← once_sort]
      exact K3.out.mono (fun x _ hx => ⟨by have := hx.1; omega, hx.2⟩)
def carsC (c : ChartM) : Int := if chartB c then 0 else 1
def carsO (c : ChartM) : List Int := if chartB c then putL (carsTo c.rs c.rs.length) else []
theorem cars_no {c : ChartM} (h : chartB c = false) : carsC c = 1 ∧ carsO c = [] := by unfold carsC carsO; rw [h]; exact ⟨rfl, rfl⟩
theorem cars_yes {c : ChartM} (h : chartB c = true) : carsC c = 0 ∧ carsO c = putL (carsTo c.rs c.rs.length) := by unfold carsC carsO; rw [h]; exact ⟨rfl, rfl⟩
theorem carsO_len (c : ChartM) : (carsO c).length ≤ 8 := by
  cases hb : chartB c with
  | false => rw [(cars_no hb).2]; simp
  | true =>
    rw [(cars_yes hb).2]
    have h1 := putL_length (carsTo c.rs c.rs.length)
    rw [carsTo_length (Nat.le_refl _)] at h1
    have := (chart_size hb).2
    omega
end Go.Proofs.YtnjfhpgmogopnaaGreat
end
namespace Go.Proofs.YtnjfhpgmogopnaaGreat
open Go.ChangeShapes Go.WideShapes Go.ChangeAt Go.RowKit
def MoveM.near (m : MoveM) : Prop := (0 ≤ m.fr ∧ m.fr ≤ 23) ∧ (0 ≤ m.to ∧ m.to ≤ 23)
theorem stepsF_near : ∀ (n : Nat) (f t : Int), (0 ≤ f ∧ f ≤ 23) → (0 ≤ t ∧ t ≤ 23) → ∀ m ∈ stepsF n f t, m.near
  | 0, _, _, _, _ => by simp [stepsF]
  | n + 1, f, t, hf, ht => by
    intro m hm
    unfold stepsF at hm
    split at hm
    · simp at hm
    · rcases List.mem_cons.1 hm with rfl | hm
      · exact ⟨hf, nextOf_in hf ht⟩
      · exact stepsF_near n _ t (nextOf_in hf ht) ht m hm
theorem planM_near {xs ys : List Int} (h : PlanOk xs ys) : ∀ m ∈ planM xs ys, m.near := by
  obtain ⟨h1, _, h3, h4⟩ := h
  have hs : ∀ i, i < xs.length → ∀ m ∈ stepsM (ix xs i) (ix ys i), m.near := fun i hi m hm => stepsF_near 24 _ _ (h3 i hi) (h4 i hi) m hm
  intro m hm
  rcases List.mem_append.1 hm with hm | hm
  · obtain ⟨r, hr, hm⟩ := List.mem_flatMap.1 hm
    have hr := List.mem_range.1 hr
    unfold upAt at hm
    split at hm
    · exact hs _ (by omega) m hm
    · simp at hm
  · obtain ⟨r, hr, hm⟩ := List.mem_flatMap.1 hm
    have hr := List.mem_range.1 hr
    unfold downAt at hm
    split at hm
    · exact hs _ (by omega) m hm
    · simp at hm
def colsM (ms : List MoveM) : List OpM := ms.flatMap fun m => rackM m.fr m.to
theorem colsM_snoc (ms : List MoveM) (m : MoveM) : colsM (ms ++ [m]) = colsM ms ++ rackM m.fr m.to := by simp [colsM]
theorem colsM_len (ms : List MoveM) : (colsM ms).length = 4 * ms.length := by
  induction ms with
  | nil => rfl
  | cons m ms ih => simp only [colsM, List.flatMap_cons, List.length_append, List.length_cons] at *; rw [ih]; simp [rackM]; omega
theorem colsM_take {ms : List MoveM} {j : Nat} (h : j < ms.length) : colsM (ms.take (j + 1)) = colsM (ms.take j) ++ rackM ms[j].fr ms[j].to := by
  rw [List.take_succ_eq_append_getElem h, colsM_snoc]
def colsOut (xs ys : List Int) : List OpM := colsM (planOut xs ys)
theorem planCode_zero' {xs ys : List Int} (h : planCode xs ys = 0) : PlanOk xs ys := by
  unfold planCode at h
  split at h
  · rename_i hh; exact planOk_of hh.1 hh.2.1 hh.2.2
  · omega
theorem planOut_near (xs ys : List Int) : ∀ m ∈ planOut xs ys, m.near := by
  by_cases hz : planCode xs ys = 0
  · rw [planOut_ok hz]; exact planM_near (planCode_zero' hz)
  · rw [planOut_no rfl hz]; simp
theorem planOut_len (xs ys : List Int) : (planOut xs ys).length ≤ 384 := by
  by_cases hz : planCode xs ys = 0
  · rw [planOut_ok hz]; exact planM_len (planCode_zero' hz).2.1
  · rw [planOut_no rfl hz]; simp
set_option maxRecDepth 100000 in
set_option maxHeartbeats 4000000 in
theorem moveColumns_any (w : World) (S T : Nat → Prop) (v u : Value) (xs ys : List Int) (h : Ints w S v xs) (h2 : Ints w T u ys) :
    Calls Tryz.prog 80 #[v, u] w fun e w' => ∃ v', e = .returned (.tuple #[v', .int .i64 (planCode xs ys)]) ∧ Ops w' (New w.heap.size w'.heap.size) v' (colsOut xs ys) ∧ Up w w' := by
  obtain ⟨A, c, rfl, hlc, hcm, -⟩ := h.shape
  obtain ⟨A2, c2, rfl, hlc2, hcm2, -⟩ := h2.shape
  have H := Lib.hid h
  have H2 := Lib.hid h2
  clear h h2
  go_enter Tryz.func80, Tryz.ntmps80
  go_wp2_with fail
  refine (PlanMoves_any _ S T _ _ xs ys H.out H2.out).mono ?_
  rintro e w1 ⟨v1, rfl, k1, g1⟩
  obtain ⟨A3, c3, rfl, hlc3, hcm3, -⟩ := k1.shape
  have K1 := Lib.hid k1
  have G1 := Lib.hid g1
  have hz1 := g1.size
  clear k1 g1
  by_cases hz : planCode xs ys = 0
  rotate_left
  · have hb : (planCode xs ys != 0) = true := by simpa using hz
    have HE := Lib.hid (show colsOut xs ys = [] by unfold colsOut; rw [planOut_no rfl hz]; rfl)
    clear hz
    go_wp2
    go_ret2
    exact ⟨_, rfl, by rw [HE.out]; exact Ops.nil _ _ _ _ (by omega), G1.out⟩
  have hb : (planCode xs ys != 0) = false := by simpa using hz
  have HZ := Lib.hid hz
  have HN := Lib.hid (planOut_near xs ys)
  have hle := planOut_len xs ys
  clear hz
  generalize hms : planOut xs ys = ms at *
  have HMS := Lib.hid hms
  clear hms
  go_wp2
  go_loopw [8, 10, 23] (fun v _ i wr => ∃ j : Nat, j ≤ ms.length ∧ i = .int .i64 j ∧ Hid (OwnO wr w1.heap.size v (colsM (ms.take j))) ∧ Hid (Up w1 wr)) (fun _ _ i _ => ms.length - (intOf i).toNat)
  case atStart => exact ⟨0, by omega, rfl, OwnO.made w1 _ (Nat.le_refl _), (Chg.refl _ _).alloc _⟩
  case round =>
    obtain ⟨j, hj, rfl, ho, hg⟩ := hrel
    by_cases hlt : j < ms.length
    · obtain ⟨b, o, c', he, -, hbl, hc⟩ := (K1.out.up hg.out).at_ hlt
      obtain ⟨rfl, rfl⟩ : A3 = some ⟨b, o, none⟩ ∧ c3 = c' := by simpa using he
      have f0 := (hc 0 _ rfl).1
      have f1 := (hc 1 _ rfl).1
      rw [Nat.add_zero] at f0
      have hn := HN.out ms[j] (List.getElem_mem hlt)
      have hn1 : 0 ≤ ms[j].fr ∧ ms[j].fr ≤ 1000 := ⟨hn.1.1, by have := hn.1.2; omega⟩
      have hn2 : 0 ≤ ms[j].to ∧ ms[j].to ≤ 1000 := ⟨hn.2.1, by have := hn.2.2; omega⟩
      have HLL := Lib.hid (show (colsM (ms.take j)).length + (rackM ms[j].fr ms[j].to).length ≤ 1099511627776 by rw [colsM_len]; simp [rackM]; omega)
      have HT := Lib.hid (colsM_take hlt)
      clear hc he hn
      go_wp2_with fail
      refine (rackOps_any _ ms[j].fr ms[j].to hn1 hn2).mono ?_
      rintro e w2 ⟨v2, rfl, k2, g2⟩
      obtain ⟨A5, c5, rfl, hlc5, hcm5, -⟩ := k2.shape
      have HO1 := Lib.hid (OwnO.up (ho.out.alloc _) g2)
      have HG1 := Lib.hid (Chg.trans (hg.out.alloc _) g2)
      have HK1 := Lib.hid k2
      have hz2 := HG1.out.size
      clear ho hg k2 g2
      go_wp2_with (first | (at_builtin; refine wp_append_ops rfl _ _ rfl w1.heap.size _ (colsM (ms.take j)) rfl HO1.out _ _ (rackM ms[j].fr ms[j].to) rfl HK1.out HLL.out ?_ ?_; (first | omega | (simp; omega)); intro v' w3 ho1 _ hg1; have HO := Lib.hid ho1; have HG := Lib.hid (Chg.new HG1.out hg1 (fun i hi => by omega)); clear ho1 hg1 HO1 HG1 HK1))
      go_roundw
      case rel => exact ⟨j + 1, by omega, by go_num, by rw [HT.out]; exact HO.out, HG.out⟩
      case measure => first | (simp [intOf]; done) | (simp [intOf]; omega)
    · obtain rfl : j = ms.length := by omega
      go_wp2
      go_ret2
      exact ⟨_, ret_mi HZ.out.symm, by unfold colsOut; rw [HMS.out]; have := ho.out.ops; rw [List.take_length] at this; exact this.mono (fun b _ hb => ⟨Nat.le_trans hz1 hb.1, hb.2⟩), Chg.trans G1.out hg.out⟩
set_option maxRecDepth 100000 in
set_option maxHeartbeats 4000000 in
theorem l21Columns_any (w : World) (S T : Nat → Prop) (v u : Value) (xs ys : List Int) (h : Ints w S v xs) (h2 : Ints w T u ys) (hz : planCode xs ys = 0) :
    Calls Tryz.prog 133 #[v, u] w fun e w' => ∃ v', e = .returned v' ∧ Ops w' (New w.heap.size w'.heap.size) v' (colsOut xs ys) ∧ Up w w' := by
  obtain ⟨A, c, rfl, hlc, hcm, -⟩ := h.shape
  obtain ⟨A2, c2, rfl, hlc2, hcm2, -⟩ := h2.shape
  have H := Lib.hid h
  have H2 := Lib.hid h2
  have HZ := Lib.hid hz
  have HN' := planOut_near xs ys
  have hle := planOut_len xs ys
  rw [planOut_ok hz] at HN' hle
  obtain ⟨ms, hms⟩ : ∃ ms, ms = planM xs ys := ⟨_, rfl⟩
  rw [← hms] at HN' hle
  have HN := Lib.hid HN'
  have HE := Lib.hid (show colsOut xs ys = colsM ms by unfold colsOut; rw [planOut_ok hz, hms])
  have HMS := Lib.hid hms
  clear HN'
  clear h h2 hz hms
  go_enter Tryz.func133, Tryz.ntmps133
  go_wp2_with fail
  refine (l21Plan_any _ S T _ _ xs ys H.out H2.out (planCode_zero' HZ.out)).mono ?_
  rw [← HMS.out]
  rintro e w1 ⟨v1, rfl, k1, g1⟩
  obtain ⟨A3, c3, rfl, hlc3, hcm3, -⟩ := k1.shape
  have K1 := Lib.hid k1
  have G1 := Lib.hid g1
  have hz1 := g1.size
  clear k1 g1
  go_wp2
  go_loopw [6, 7] (fun v i wr => ∃ j : Nat, j ≤ ms.length ∧ i = .int .i64 j ∧ Hid (OwnO wr w1.heap.size v (colsM (ms.take j))) ∧ Hid (Up w1 wr)) (fun _ i _ => ms.length - (intOf i).toNat)
  case atStart => exact ⟨0, by omega, rfl, OwnO.made w1 _ (Nat.le_refl _), (Chg.refl _ _).alloc _⟩
  case round =>
    obtain ⟨j, hj, rfl, ho, hg⟩ := hrel
    by_cases hlt : j < ms.length
    · obtain ⟨b0, o0, c0, he0, -, hb0, -⟩ := K1.out.at_ hlt
      obtain ⟨b, o, c', he, -, hbl, hc⟩ := (K1.out.up hg.out).at_ hlt
      obtain ⟨rfl, rfl⟩ : b = b0 ∧ o = o0 := by have := he.symm.trans he0; simp at this; exact this.1
      obtain ⟨rfl, rfl⟩ : A3 = some ⟨b, o, none⟩ ∧ c3 = c' := by simpa using he
      have f0 := (hc 0 _ rfl).1
      have f1 := (hc 1 _ rfl).1
      rw [Nat.add_zero] at f0
      have hn := HN.out ms[j] (List.getElem_mem hlt)
      have hn1 : 0 ≤ ms[j].fr ∧ ms[j].fr ≤ 1000 := ⟨hn.1.1, by have := hn.1.2; omega⟩
      have hn2 : 0 ≤ ms[j].to ∧ ms[j].to ≤ 1000 := ⟨hn.2.1, by have := hn.2.2; omega⟩
      have HLL := Lib.hid (show (colsM (ms.take j)).length + (rackM ms[j].fr ms[j].to).length ≤ 1099511627776 by rw [colsM_len]; simp [rackM]; omega)
      have HT := Lib.hid (colsM_take hlt)
      clear hc he hn
      go_wp2
      have hbw : b < w1.heap.size := hb0
      have HO0 := Lib.hid ho.out
      have HG0 := Lib.hid hg.out
      clear ho hg
      go_region_held3 (fun w' => w'.cell? ⟨b, o + j * 2, none⟩ = some (.int .i64 ms[j].fr) ∧ w'.cell? ⟨b, o + j * 2 + 1, none⟩ = some (.int .i64 ms[j].to))
        (first | (exact ⟨f0, f1⟩) | (obtain ⟨q0, q1⟩ : (World.cell? _ _ = _ ∧ World.cell? _ _ = _) := (by assumption); exact ⟨Chg.cell g1 q0 id, Chg.cell g1 q1 id⟩) | (obtain ⟨q0, q1⟩ : (World.cell? _ _ = _ ∧ World.cell? _ _ = _) := (by assumption); exact ⟨Chg.cell hg1 q0 (by simp only []; omega), Chg.cell hg1 q1 (by simp only []; omega)⟩))
        (first | (go_at_call 157; refine (l21Over_any _ ms[j].fr ms[j].to hn1 hn2).mono ?_; rintro e w2 ⟨v1, rfl, k1, g1⟩; obtain ⟨A1, c1, rfl, hl1, hc1, -⟩ := k1.shape; have HK1 := Lib.hid k1; have HO1 := Lib.hid (OwnO.up (OwnO.up HO0.out ((Chg.refl Nowhere _).drew)) g1); have HG1 := Lib.hid (Chg.trans (Chg.drew HG0.out) g1); have hsz := HG1.out.size; clear k1) | (refine step_appendOps (by rfl) _ _ (by rfl) w1.heap.size _ (colsM (ms.take j)) (by rfl) HO1.out _ _ (rackM ms[j].fr ms[j].to) (by rfl) HK1.out HLL.out ?_ ?_; (first | omega | (simp; omega)); intro v' w3 ho1 _ hg1; have HO := Lib.hid ho1; have HG := Lib.hid (Chg.new HG1.out hg1 (fun i hi => by omega)); clear ho1))
      clear g1 hg1 f0 f1
      go_wp2
      go_roundw
      case rel => exact ⟨j + 1, by omega, by go_num, by rw [HT.out]; exact HO.out, HG.out⟩
      case measure => first | (simp [intOf]; done) | (simp [intOf]; omega)
    · obtain rfl : j = ms.length := by omega
      go_wp2
      go_ret
      exact ⟨_, rfl, by rw [HE.out]; have := ho.out.ops; rw [List.take_length] at this; exact this.mono (fun b _ hb => ⟨Nat.le_trans hz1 hb.1, hb.2⟩), Chg.trans G1.out hg.out⟩
end Go.Proofs.YtnjfhpgmogopnaaGreat
namespace Go.Proofs.YtnjfhpgmogopnaaGreat
open Go.ChangeShapes Go.WideShapes Go.ChangeAt Go.RowKit
theorem frontNeedle_any (w : World) (at_ : Int) :
    Calls Tryz.prog 78 #[.int .i64 at_] w fun e w' => e = .returned (.agg #[.int .i64 1, .int .i64 at_]) ∧ Up w w' := by
  go_enter Tryz.func78, Tryz.ntmps78
  go_wp2
  exact bodyPost_ret (v := .agg #[.int .i64 1, .int .i64 at_]) (by simp [results, Tryz.results78, go_sem]) rfl ⟨rfl, by repeat (first | exact Chg.refl _ _ | refine Chg.alloc ?_ _)⟩
theorem l23Front_any (w : World) (at_ : Int) :
    Calls Tryz.prog 64 #[.int .i64 at_] w fun e w' => e = .returned (.agg #[.int .i64 1, .int .i64 at_]) ∧ Up w w' := by
  go_enter Tryz.func64, Tryz.ntmps64
  go_wp2
  exact bodyPost_ret (v := .agg #[.int .i64 1, .int .i64 at_]) (by simp [results, Tryz.results64, go_sem]) rfl ⟨rfl, by repeat (first | exact Chg.refl _ _ | refine Chg.alloc ?_ _)⟩
theorem l23Yarn_any (w : World) (kind dir bed at_ car : Int) :
    Calls Tryz.prog 63 #[.int .i64 kind, .int .i64 dir, .agg #[.int .i64 bed, .int .i64 at_], .int .i64 car] w fun e w' =>
      e = .returned (OpM.mk kind dir bed at_ 0 0 car 0).val ∧ Up w w' := by
  go_enter Tryz.func63, Tryz.ntmps63
  go_wp2
  exact bodyPost_ret (v := (OpM.mk kind dir bed at_ 0 0 car 0).val) (by simp [results, Tryz.results63, go_sem]) rfl ⟨rfl, by repeat (first | exact Chg.refl _ _ | refine Chg.alloc ?_ _)⟩
end Go.Proofs.YtnjfhpgmogopnaaGreat
namespace Go.Proofs.YtnjfhpgmogopnaaGreat
open Go.ChangeShapes Go.WideShapes Go.ChangeAt Go.RowKit
def stitchM (kind n dir car : Int) : List OpM :=
  if kind = 7 then [] else if kind = 3 ∨ kind = 6 then [⟨2, dir, 1, n, 0, 0, car, 0⟩]
  else if kind = 2 then [⟨4, 0, 1, n, 2, n, 0, 0⟩, ⟨1, dir, 2, n, 0, 0, car, 0⟩, ⟨4, 0, 2, n, 1, n, 0, 0⟩] else [⟨1, dir, 1, n, 0, 0, car, 0⟩]
theorem stitchM_ok {kind n dir car : Int} (hp : 0 ≤ n ∧ n ≤ 100) (hd : dir = 1 ∨ dir = -1) (hc : 1 ≤ car ∧ car ≤ 4) : ∀ x ∈ stitchM kind n dir car, x.ok := by
  intro x hx
  unfold stitchM at hx
  split at hx
  · simp at hx
  · split at hx
    · simp only [List.mem_singleton] at hx
      subst hx
      unfold OpM.ok I64
      simp only []
      omega
    · split at hx
      · simp only [List.mem_cons, List.not_mem_nil, or_false] at hx
        rcases hx with rfl | rfl | rfl <;> (unfold OpM.ok I64; simp only []; omega)
      · simp only [List.mem_singleton] at hx
        subst hx
        unfold OpM.ok I64
        simp only []
        omega
set_option maxHeartbeats 8000000 in
theorem stitchOps_any (w : World) (kind n dir car : Int) (hk : 1 ≤ kind ∧ kind ≤ 11) (hp : 0 ≤ n ∧ n ≤ 100) (hd : dir = 1 ∨ dir = -1) (hc : 1 ≤ car ∧ car ≤ 4) :
    Calls Tryz.prog 87 #[.int .i64 kind, .int .i64 n, .int .i64 dir, .int .i64 car] w fun e w' => ∃ v, e = .returned v ∧ Ops w' (New w.heap.size w'.heap.size) v (stitchM kind n dir car) ∧ Up w w' := by
  have hok := Lib.hid (stitchM_ok (kind := kind) hp hd hc)
  clear hp hd hc
  have hs : kind = 1 ∨ kind = 2 ∨ kind = 3 ∨ kind = 4 ∨ kind = 5 ∨ kind = 6 ∨ kind = 7 ∨ kind = 8 ∨ kind = 9 ∨ kind = 10 ∨ kind = 11 := by omega
  clear hk
  rcases hs with rfl | rfl | rfl | rfl | rfl | rfl | rfl | rfl | rfl | rfl | rfl
  · go_enter Tryz.func87, Tryz.ntmps87
    go_wp2_with fail
    refine (frontNeedle_any _ _).mono ?_
    rintro e w1 ⟨rfl, g1⟩
    have hsz := g1.size
    have G1 := Lib.hid g1
    clear g1
    go_wp2
    go_ret
    exact ⟨_, rfl, ⟨Raw.of_block (heap_new_at (by simp)) rfl ⟨by first | omega | (simp; done) | (simp; omega), by first | omega | (simp; done) | (simp; omega)⟩ rfl (by simp) (by omega), hok.out⟩, by repeat (first | exact G1.out | refine Chg.alloc ?_ _)⟩
  · go_enter Tryz.func87, Tryz.ntmps87
    go_wp2_with fail
    refine (frontNeedle_any _ _).mono ?_
    rintro e w1 ⟨rfl, g1⟩
    have hsz := g1.size
    have G1 := Lib.hid g1
    clear g1
    go_wp2
    go_ret
    exact ⟨_, rfl, ⟨Raw.of_block (heap_new_at (by simp)) rfl ⟨by first | omega | (simp; done) | (simp; omega), by first | omega | (simp; done) | (simp; omega)⟩ rfl (by simp) (by omega), hok.out⟩, by repeat (first | exact G1.out | refine Chg.alloc ?_ _)⟩
  · go_enter Tryz.func87, Tryz.ntmps87
    go_wp2_with fail
    refine (frontNeedle_any _ _).mono ?_
    rintro e w1 ⟨rfl, g1⟩
    have hsz := g1.size
    have G1 := Lib.hid g1
    clear g1
    go_wp2
    go_ret
    exact ⟨_, rfl, ⟨Raw.of_block (heap_new_at (by simp)) rfl ⟨by first | omega | (simp; done) | (simp; omega), by first | omega | (simp; done) | (simp; omega)⟩ rfl (by simp) (by omega), hok.out⟩, by repeat (first | exact G1.out | refine Chg.alloc ?_ _)⟩
  · go_enter Tryz.func87, Tryz.ntmps87
    go_wp2_with fail
    refine (frontNeedle_any _ _).mono ?_
    rintro e w1 ⟨rfl, g1⟩
    have hsz := g1.size
    have G1 := Lib.hid g1
    clear g1
    go_wp2
    go_ret
    exact ⟨_, rfl, ⟨Raw.of_block (heap_new_at (by simp)) rfl ⟨by first | omega | (simp; done) | (simp; omega), by first | omega | (simp; done) | (simp; omega)⟩ rfl (by simp) (by omega), hok.out⟩, by repeat (first | exact G1.out | refine Chg.alloc ?_ _)⟩
  · go_enter Tryz.func87, Tryz.ntmps87
    go_wp2_with fail
    refine (frontNeedle_any _ _).mono ?_
    rintro e w1 ⟨rfl, g1⟩
    have hsz := g1.size
    have G1 := Lib.hid g1
    clear g1
    go_wp2
    go_ret
    exact ⟨_, rfl, ⟨Raw.of_block (heap_new_at (by simp)) rfl ⟨by first | omega | (simp; done) | (simp; omega), by first | omega | (simp; done) | (simp; omega)⟩ rfl (by simp) (by omega), hok.out⟩, by repeat (first | exact G1.out | refine Chg.alloc ?_ _)⟩
  · go_enter Tryz.func87, Tryz.ntmps87
    go_wp2_with fail
    refine (frontNeedle_any _ _).mono ?_
    rintro e w1 ⟨rfl, g1⟩
    have hsz := g1.size
    have G1 := Lib.hid g1
    clear g1
    go_wp2
    go_ret
    exact ⟨_, rfl, ⟨Raw.of_block (heap_new_at (by simp)) rfl ⟨by first | omega | (simp; done) | (simp; omega), by first | omega | (simp; done) | (simp; omega)⟩ rfl (by simp) (by omega), hok.out⟩, by repeat (first | exact G1.out | refine Chg.alloc ?_ _)⟩
  · go_enter Tryz.func87, Tryz.ntmps87
    go_wp2_with fail
    refine (frontNeedle_any _ _).mono ?_
    rintro e w1 ⟨rfl, g1⟩
    have hsz := g1.size
    have G1 := Lib.hid g1
    clear g1
    go_wp2
    go_ret
    exact ⟨_, rfl, Ops.nil _ _ _ _ (by omega), by repeat (first | exact G1.out | refine Chg.alloc ?_ _)⟩
  · go_enter Tryz.func87, Tryz.ntmps87
    go_wp2_with fail
    refine (frontNeedle_any _ _).mono ?_
    rintro e w1 ⟨rfl, g1⟩
    have hsz := g1.size
    have G1 := Lib.hid g1
    clear g1
    go_wp2
    go_ret
    exact ⟨_, rfl, ⟨Raw.of_block (heap_new_at (by simp)) rfl ⟨by first | omega | (simp; done) | (simp; omega), by first | omega | (simp; done) | (simp; omega)⟩ rfl (by simp) (by omega), hok.out⟩, by repeat (first | exact G1.out | refine Chg.alloc ?_ _)⟩
  · go_enter Tryz.func87, Tryz.ntmps87
    go_wp2_with fail
    refine (frontNeedle_any _ _).mono ?_
    rintro e w1 ⟨rfl, g1⟩
    have hsz := g1.size
    have G1 := Lib.hid g1
    clear g1
    go_wp2
    go_ret
    exact ⟨_, rfl, ⟨Raw.of_block (heap_new_at (by simp)) rfl ⟨by first | omega | (simp; done) | (simp; omega), by first | omega | (simp; done) | (simp; omega)⟩ rfl (by simp) (by omega), hok.out⟩, by repeat (first | exact G1.out | refine Chg.alloc ?_ _)⟩
  · go_enter Tryz.func87, Tryz.ntmps87
    go_wp2_with fail
    refine (frontNeedle_any _ _).mono ?_
    rintro e w1 ⟨rfl, g1⟩
    have hsz := g1.size
    have G1 := Lib.hid g1
    clear g1
    go_wp2
    go_ret
    exact ⟨_, rfl, ⟨Raw.of_block (heap_new_at (by simp)) rfl ⟨by first | omega | (simp; done) | (simp; omega), by first | omega | (simp; done) | (simp; omega)⟩ rfl (by simp) (by omega), hok.out⟩, by repeat (first | exact G1.out | refine Chg.alloc ?_ _)⟩
  · go_enter Tryz.func87, Tryz.ntmps87
    go_wp2_with fail
    refine (frontNeedle_any _ _).mono ?_
    rintro e w1 ⟨rfl, g1⟩
    have hsz := g1.size
    have G1 := Lib.hid g1
    clear g1
    go_wp2
    go_ret
    exact ⟨_, rfl, ⟨Raw.of_block (heap_new_at (by simp)) rfl ⟨by first | omega | (simp; done) | (simp; omega), by first | omega | (simp; done) | (simp; omega)⟩ rfl (by simp) (by omega), hok.out⟩, by repeat (first | exact G1.out | refine Chg.alloc ?_ _)⟩
set_option maxHeartbeats 8000000 in
theorem l23Stitch_any (w : World) (kind n dir car : Int) (hk : 1 ≤ kind ∧ kind ≤ 11) (hp : 0 ≤ n ∧ n ≤ 100) (hd : dir = 1 ∨ dir = -1) (hc : 1 ≤ car ∧ car ≤ 4) :
    Calls Tryz.prog 104 #[.int .i64 kind, .int .i64 n, .int .i64 dir, .int .i64 car] w fun e w' => ∃ v, e = .returned v ∧ Ops w' (New w.heap.size w'.heap.size) v (stitchM kind n dir car) ∧ Up w w' := by
  have hok := Lib.hid (stitchM_ok (kind := kind) hp hd hc)
  clear hp hd hc
  have hs : kind = 1 ∨ kind = 2 ∨ kind = 3 ∨ kind = 4 ∨ kind = 5 ∨ kind = 6 ∨ kind = 7 ∨ kind = 8 ∨ kind = 9 ∨ kind = 10 ∨ kind = 11 := by omega
  clear hk
  rcases hs with rfl | rfl | rfl | rfl | rfl | rfl | rfl | rfl | rfl | rfl | rfl
  · go_enter Tryz.func104, Tryz.ntmps104
    go_wp2_with fail
    refine (l23Front_any _ _).mono ?_
    rintro e w1 ⟨rfl, g1⟩
    have hsz := g1.size
    have G1 := Lib.hid g1
    clear g1
    go_wp2_with fail
    refine (l23Yarn_any _ _ _ _ _ _).mono ?_
    rintro e w2 ⟨rfl, g2⟩
    have hsz2 := g2.size
    simp at hsz2
    have G2 := Lib.hid g2
    clear g2
    go_wp2
    go_ret
    exact ⟨_, rfl, ⟨Raw.of_block (heap_new_at (by simp)) rfl ⟨by first | omega | (simp; done) | (simp; omega), by first | omega | (simp; done) | (simp; omega)⟩ rfl (by simp) (by omega), hok.out⟩, Chg.alloc (Chg.trans ((G1.out.alloc _).alloc _) G2.out) _⟩
  · go_enter Tryz.func104, Tryz.ntmps104
    go_wp2_with fail
    refine (l23Front_any _ _).mono ?_
    rintro e w1 ⟨rfl, g1⟩
    have hsz := g1.size
    have G1 := Lib.hid g1
    clear g1
    go_wp2_with fail
    generalize hW : (w1.alloc (Obj.cells #[Value.int IntKind.i64 1, Value.int IntKind.i64 n] 64)).alloc (Obj.cells #[Value.int IntKind.i64 2, Value.int IntKind.i64 n] 64) = W
    have f0 : W.cell? ⟨w1.heap.size, 0, none⟩ = some (.int .i64 1) := by subst hW; go_simp
    have f1 : W.cell? ⟨w1.heap.size, 1, none⟩ = some (.int .i64 n) := by subst hW; go_simp
    have f2 : W.cell? ⟨w1.heap.size + 1, 0, none⟩ = some (.int .i64 2) := by subst hW; go_simp
    have f3 : W.cell? ⟨w1.heap.size + 1, 1, none⟩ = some (.int .i64 n) := by subst hW; go_simp
    have hW0 : w1.heap.size + 1 < W.heap.size := by subst hW; simp
    have HW := Lib.hid hW
    clear hW
    go_region_held3 (fun w' => w'.cell? ⟨w1.heap.size, 0, none⟩ = some (.int .i64 1) ∧ w'.cell? ⟨w1.heap.size, 1, none⟩ = some (.int .i64 n) ∧ w'.cell? ⟨w1.heap.size + 1, 0, none⟩ = some (.int .i64 2) ∧ w'.cell? ⟨w1.heap.size + 1, 1, none⟩ = some (.int .i64 n) ∧ Up W w') (first | (exact ⟨f0, f1, f2, f3, (Chg.refl _ _).drew⟩) | (obtain ⟨q0, q1, q2, q3, q4⟩ : (_ ∧ _ ∧ _ ∧ _ ∧ Up W _) := (by assumption); exact ⟨Chg.cell g2 q0 id, Chg.cell g2 q1 id, Chg.cell g2 q2 id, Chg.cell g2 q3 id, Chg.trans q4 g2⟩) | (obtain ⟨q0, q1, q2, q3, q4⟩ : (_ ∧ _ ∧ _ ∧ _ ∧ Up W _) := (by assumption); exact ⟨Chg.cell ((Chg.refl Nowhere _).alloc _) q0 id, Chg.cell ((Chg.refl Nowhere _).alloc _) q1 id, Chg.cell ((Chg.refl Nowhere _).alloc _) q2 id, Chg.cell ((Chg.refl Nowhere _).alloc _) q3 id, Chg.alloc q4 _⟩))
      (first | (go_at_call 63; refine (l23Yarn_any _ _ _ _ _ _).mono ?_; rintro e w2 ⟨rfl, g2⟩))
    have hz2 := g2.size
    rw [World.drew] at hz2
    simp only [] at hz2
    have GU := Lib.hid (show Up w w2 from Chg.trans (Chg.trans ((HW.out ▸ ((G1.out.alloc _).alloc _) : Up w W)) (Chg.refl _ _).drew) g2)
    clear f0 f1 f2 f3 HW g2
    go_wp2
    go_ret
    exact ⟨_, rfl, ⟨Raw.of_block (heap_new_at rfl) rfl ⟨by first | omega | (simp; done) | (simp; omega), by first | omega | (simp; done) | (simp; omega)⟩ rfl (by simp) (by omega), hok.out⟩, Chg.alloc GU.out _⟩
  · go_enter Tryz.func104, Tryz.ntmps104
    go_wp2_with fail
    refine (l23Front_any _ _).mono ?_
    rintro e w1 ⟨rfl, g1⟩
    have hsz := g1.size
    have G1 := Lib.hid g1
    clear g1
    go_wp2_with fail
    refine (l23Yarn_any _ _ _ _ _ _).mono ?_
    rintro e w2 ⟨rfl, g2⟩
    have hsz2 := g2.size
    simp at hsz2
    have G2 := Lib.hid g2
    clear g2
    go_wp2
    go_ret
    exact ⟨_, rfl, ⟨Raw.of_block (heap_new_at (by simp)) rfl ⟨by first | omega | (simp; done) | (simp; omega), by first | omega | (simp; done) | (simp; omega)⟩ rfl (by simp) (by omega), hok.out⟩, Chg.alloc (Chg.trans ((G1.out.alloc _).alloc _) G2.out) _⟩
  · go_enter Tryz.func104, Tryz.ntmps104
    go_wp2_with fail
    refine (l23Front_any _ _).mono ?_
    rintro e w1 ⟨rfl, g1⟩
    have hsz := g1.size
    have G1 := Lib.hid g1
    clear g1
    go_wp2_with fail
    refine (l23Yarn_any _ _ _ _ _ _).mono ?_
    rintro e w2 ⟨rfl, g2⟩
    have hsz2 := g2.size
    simp at hsz2
    have G2 := Lib.hid g2
    clear g2
    go_wp2
    go_ret
    exact ⟨_, rfl, ⟨Raw.of_block (heap_new_at (by simp)) rfl ⟨by first | omega | (simp; done) | (simp; omega), by first | omega | (simp; done) | (simp; omega)⟩ rfl (by simp) (by omega), hok.out⟩, Chg.alloc (Chg.trans ((G1.out.alloc _).alloc _) G2.out) _⟩
  · go_enter Tryz.func104, Tryz.ntmps104
    go_wp2_with fail
    refine (l23Front_any _ _).mono ?_
    rintro e w1 ⟨rfl, g1⟩
    have hsz := g1.size
    have G1 := Lib.hid g1
    clear g1
    go_wp2_with fail
    refine (l23Yarn_any _ _ _ _ _ _).mono ?_
    rintro e w2 ⟨rfl, g2⟩
    have hsz2 := g2.size
    simp at hsz2
    have G2 := Lib.hid g2
    clear g2
    go_wp2
    go_ret
    exact ⟨_, rfl, ⟨Raw.of_block (heap_new_at (by simp)) rfl ⟨by first | omega | (simp; done) | (simp; omega), by first | omega | (simp; done) | (simp; omega)⟩ rfl (by simp) (by omega), hok.out⟩, Chg.alloc (Chg.trans ((G1.out.alloc _).alloc _) G2.out) _⟩
  · go_enter Tryz.func104, Tryz.ntmps104
    go_wp2_with fail
    refine (l23Front_any _ _).mono ?_
    rintro e w1 ⟨rfl, g1⟩
    have hsz := g1.size
    have G1 := Lib.hid g1
    clear g1
    go_wp2_with fail
    refine (l23Yarn_any _ _ _ _ _ _).mono ?_
    rintro e w2 ⟨rfl, g2⟩
    have hsz2 := g2.size
    simp at hsz2
    have G2 := Lib.hid g2
    clear g2
    go_wp2
    go_ret
    exact ⟨_, rfl, ⟨Raw.of_block (heap_new_at (by simp)) rfl ⟨by first | omega | (simp; done) | (simp; omega), by first | omega | (simp; done) | (simp; omega)⟩ rfl (by simp) (by omega), hok.out⟩, Chg.alloc (Chg.trans ((G1.out.alloc _).alloc _) G2.out) _⟩
  · go_enter Tryz.func104, Tryz.ntmps104
    go_wp2_with fail
    refine (l23Front_any _ _).mono ?_
    rintro e w1 ⟨rfl, g1⟩
    have hsz := g1.size
    have G1 := Lib.hid g1
    clear g1
    go_wp2
    go_ret
    exact ⟨_, rfl, Ops.nil _ _ _ _ (by omega), by repeat (first | exact G1.out | refine Chg.alloc ?_ _)⟩
  · go_enter Tryz.func104, Tryz.ntmps104
    go_wp2_with fail
    refine (l23Front_any _ _).mono ?_
    rintro e w1 ⟨rfl, g1⟩
    have hsz := g1.size
    have G1 := Lib.hid g1
    clear g1
    go_wp2_with fail
    refine (l23Yarn_any _ _ _ _ _ _).mono ?_
    rintro e w2 ⟨rfl, g2⟩
    have hsz2 := g2.size
    simp at hsz2
    have G2 := Lib.hid g2
    clear g2
    go_wp2
    go_ret
    exact ⟨_, rfl, ⟨Raw.of_block (heap_new_at (by simp)) rfl ⟨by first | omega | (simp; done) | (simp; omega), by first | omega | (simp; done) | (simp; omega)⟩ rfl (by simp) (by omega), hok.out⟩, Chg.alloc (Chg.trans ((G1.out.alloc _).alloc _) G2.out) _⟩
  · go_enter Tryz.func104, Tryz.ntmps104
    go_wp2_with fail
    refine (l23Front_any _ _).mono ?_
    rintro e w1 ⟨rfl, g1⟩
    have hsz := g1.size
    have G1 := Lib.hid g1
    clear g1
    go_wp2_with fail
    refine (l23Yarn_any _ _ _ _ _ _).mono ?_
    rintro e w2 ⟨rfl, g2⟩
    have hsz2 := g2.size
    simp at hsz2
    have G2 := Lib.hid g2
    clear g2
    go_wp2
    go_ret
    exact ⟨_, rfl, ⟨Raw.of_block (heap_new_at (by simp)) rfl ⟨by first | omega | (simp; done) | (simp; omega), by first | omega | (simp; done) | (simp; omega)⟩ rfl (by simp) (by omega), hok.out⟩, Chg.alloc (Chg.trans ((G1.out.alloc _).alloc _) G2.out) _⟩
  · go_enter Tryz.func104, Tryz.ntmps104
    go_wp2_with fail
    refine (l23Front_any _ _).mono ?_
    rintro e w1 ⟨rfl, g1⟩
    have hsz := g1.size
    have G1 := Lib.hid g1
    clear g1
    go_wp2_with fail
    refine (l23Yarn_any _ _ _ _ _ _).mono ?_
    rintro e w2 ⟨rfl, g2⟩
    have hsz2 := g2.size
    simp at hsz2
    have G2 := Lib.hid g2
    clear g2
    go_wp2
    go_ret
    exact ⟨_, rfl, ⟨Raw.of_block (heap_new_at (by simp)) rfl ⟨by first | omega | (simp; done) | (simp; omega), by first | omega | (simp; done) | (simp; omega)⟩ rfl (by simp) (by omega), hok.out⟩, Chg.alloc (Chg.trans ((G1.out.alloc _).alloc _) G2.out) _⟩
  · go_enter Tryz.func104, Tryz.ntmps104
    go_wp2_with fail
    refine (l23Front_any _ _).mono ?_
    rintro e w1 ⟨rfl, g1⟩
    have hsz := g1.size
    have G1 := Lib.hid g1
    clear g1
    go_wp2_with fail
    refine (l23Yarn_any _ _ _ _ _ _).mono ?_
    rintro e w2 ⟨rfl, g2⟩
    have hsz2 := g2.size
    simp at hsz2
    have G2 := Lib.hid g2
    clear g2
    go_wp2
    go_ret
    exact ⟨_, rfl, ⟨Raw.of_block (heap_new_at (by simp)) rfl ⟨by first | omega | (simp; done) | (simp; omega), by first | omega | (simp; done) | (simp; omega)⟩ rfl (by simp) (by omega), hok.out⟩, Chg.alloc (Chg.trans ((G1.out.alloc _).alloc _) G2.out) _⟩
end Go.Proofs.YtnjfhpgmogopnaaGreat
namespace Go.Proofs.YtnjfhpgmogopnaaGreat
open Go.ChangeShapes Go.WideShapes Go.ChangeAt Go.RowKit
def carryM (at_ place dir car : Int) : List OpM := if (dir = 1 ∧ place < at_) ∨ (dir = -1 ∧ at_ < place + 1) then [⟨3, -dir, 1, place, 0, 0, car, 0⟩] else []
set_option maxHeartbeats 4000000 in
theorem carryTo_any (w : World) (at_ place dir car : Int) (ha : -100 ≤ at_ ∧ at_ ≤ 100) (hp : 0 ≤ place ∧ place ≤ 100) (hd : dir = 1 ∨ dir = -1) (hc : 1 ≤ car ∧ car ≤ 4) :
    Calls Tryz.prog 86 #[.int .i64 at_, .int .i64 place, .int .i64 dir, .int .i64 car] w fun e w' => ∃ v, e = .returned v ∧ Ops w' (New w.heap.size w'.heap.size) v (carryM at_ place dir car) ∧ Up w w' := by
  have hok : ∀ x ∈ carryM at_ place dir car, x.ok := by
    intro x hx
    unfold carryM at hx
    split at hx
    · simp only [List.mem_singleton] at hx
      subst hx
      unfold OpM.ok I64
      simp only []
      omega
    · simp at hx
  obtain ⟨ha0, ha1⟩ := ha
  obtain ⟨hp0, hp1⟩ := hp
  obtain ⟨hc0, hc1⟩ := hc
  have hs : (dir = 1 ∧ place < at_) ∨ (dir = 1 ∧ at_ ≤ place) ∨ (dir = -1 ∧ at_ < place + 1) ∨ (dir = -1 ∧ place + 1 ≤ at_) := by omega
  clear hd
  rcases hs with ⟨rfl, h⟩ | ⟨rfl, h⟩ | ⟨rfl, h⟩ | ⟨rfl, h⟩
  · rw [show carryM at_ place 1 car = [⟨3, -1, 1, place, 0, 0, car, 0⟩] from if_pos (by omega)] at hok ⊢
    have HK := Lib.hid hok
    clear hok
    go_enter Tryz.func86, Tryz.ntmps86
    go_wp2_with fail
    refine (frontNeedle_any _ _).mono ?_
    rintro e w1 ⟨rfl, g1⟩
    have hsz := g1.size
    have G1 := Lib.hid g1
    clear g1
    go_wp2
    go_ret
    exact ⟨_, rfl, ⟨Raw.of_block (heap_new_at (by simp)) rfl ⟨by first | omega | (simp; done) | (simp; omega), by first | omega | (simp; done) | (simp; omega)⟩ rfl (by simp) (by omega), HK.out⟩, Chg.alloc G1.out _⟩
  · rw [show carryM at_ place 1 car = [] from if_neg (by omega)]
    clear hok
    go_enter Tryz.func86, Tryz.ntmps86
    go_wp2
    go_ret
    exact ⟨_, rfl, Ops.nil _ _ _ _ (by omega), by repeat (first | exact Chg.refl _ _ | refine Chg.alloc ?_ _)⟩
  · rw [show carryM at_ place (-1) car = [⟨3, 1, 1, place, 0, 0, car, 0⟩] from if_pos (by omega)] at hok ⊢
    have HK := Lib.hid hok
    clear hok
    go_enter Tryz.func86, Tryz.ntmps86
    go_wp2_with fail
    refine (frontNeedle_any _ _).mono ?_
    rintro e w1 ⟨rfl, g1⟩
    have hsz := g1.size
    have G1 := Lib.hid g1
    clear g1
    go_wp2
    go_ret
    exact ⟨_, rfl, ⟨Raw.of_block (heap_new_at (by simp)) rfl ⟨by first | omega | (simp; done) | (simp; omega), by first | omega | (simp; done) | (simp; omega)⟩ rfl (by simp) (by omega), HK.out⟩, Chg.alloc G1.out _⟩
  · rw [show carryM at_ place (-1) car = [] from if_neg (by omega)]
    clear hok
    go_enter Tryz.func86, Tryz.ntmps86
    go_wp2
    go_ret
    exact ⟨_, rfl, Ops.nil _ _ _ _ (by omega), by repeat (first | exact Chg.refl _ _ | refine Chg.alloc ?_ _)⟩
set_option maxHeartbeats 4000000 in
theorem l23Carry_any (w : World) (at_ place dir car : Int) (ha : -100 ≤ at_ ∧ at_ ≤ 100) (hp : 0 ≤ place ∧ place ≤ 100) (hd : dir = 1 ∨ dir = -1) (hc : 1 ≤ car ∧ car ≤ 4) :
    Calls Tryz.prog 103 #[.int .i64 at_, .int .i64 place, .int .i64 dir, .int .i64 car] w fun e w' => ∃ v, e = .returned v ∧ Ops w' (New w.heap.size w'.heap.size) v (carryM at_ place dir car) ∧ Up w w' := by
  have hok : ∀ x ∈ carryM at_ place dir car, x.ok := by
    intro x hx
    unfold carryM at hx
    split at hx
    · simp only [List.mem_singleton] at hx
      subst hx
      unfold OpM.ok I64
      simp only []
      omega
    · simp at hx
  obtain ⟨ha0, ha1⟩ := ha
  obtain ⟨hp0, hp1⟩ := hp
  obtain ⟨hc0, hc1⟩ := hc
  have hs : (dir = 1 ∧ place < at_) ∨ (dir = 1 ∧ at_ ≤ place) ∨ (dir = -1 ∧ at_ < place + 1) ∨ (dir = -1 ∧ place + 1 ≤ at_) := by omega
  clear hd
  rcases hs with ⟨rfl, h⟩ | ⟨rfl, h⟩ | ⟨rfl, h⟩ | ⟨rfl, h⟩
  · rw [show carryM at_ place 1 car = [⟨3, -1, 1, place, 0, 0, car, 0⟩] from if_pos (by omega)] at hok ⊢
    have HK := Lib.hid hok
    clear hok
    go_enter Tryz.func103, Tryz.ntmps103
    go_wp2_with fail
    refine (l23Front_any _ _).mono ?_
    rintro e w1 ⟨rfl, g1⟩
    have hsz := g1.size
    have G1 := Lib.hid g1
    clear g1
    go_wp2_with fail
    refine (l23Yarn_any _ _ _ _ _ _).mono ?_
    rintro e w2 ⟨rfl, g2⟩
    have hsz2 := g2.size
    have G2 := Lib.hid g2
    clear g2
    go_wp2
    go_ret
    exact ⟨_, rfl, ⟨Raw.of_block (heap_new_at (by simp)) rfl ⟨by first | omega | (simp; done) | (simp; omega), by first | omega | (simp; done) | (simp; omega)⟩ rfl (by simp) (by omega), HK.out⟩, Chg.alloc (Chg.trans G1.out G2.out) _⟩
  · rw [show carryM at_ place 1 car = [] from if_neg (by omega)]
    clear hok
    go_enter Tryz.func103, Tryz.ntmps103
    go_wp2
    go_ret
    exact ⟨_, rfl, Ops.nil _ _ _ _ (by omega), by repeat (first | exact Chg.refl _ _ | refine Chg.alloc ?_ _)⟩
  · rw [show carryM at_ place (-1) car = [⟨3, 1, 1, place, 0, 0, car, 0⟩] from if_pos (by omega)] at hok ⊢
    have HK := Lib.hid hok
    clear hok
    go_enter Tryz.func103, Tryz.ntmps103
    go_wp2_with fail
    refine (l23Front_any _ _).mono ?_
    rintro e w1 ⟨rfl, g1⟩
    have hsz := g1.size
    have G1 := Lib.hid g1
    clear g1
    go_wp2_with fail
    refine (l23Yarn_any _ _ _ _ _ _).mono ?_
    rintro e w2 ⟨rfl, g2⟩
    have hsz2 := g2.size
    have G2 := Lib.hid g2
    clear g2
    go_wp2
    go_ret
    exact ⟨_, rfl, ⟨Raw.of_block (heap_new_at (by simp)) rfl ⟨by first | omega | (simp; done) | (simp; omega), by first | omega | (simp; done) | (simp; omega)⟩ rfl (by simp) (by omega), HK.out⟩, Chg.alloc (Chg.trans G1.out G2.out) _⟩
  · rw [show carryM at_ place (-1) car = [] from if_neg (by omega)]
    clear hok
    go_enter Tryz.func103, Tryz.ntmps103
    go_wp2
    go_ret
    exact ⟨_, rfl, Ops.nil _ _ _ _ (by omega), by repeat (first | exact Chg.refl _ _ | refine Chg.alloc ?_ _)⟩
end Go.Proofs.YtnjfhpgmogopnaaGreat
namespace Go.Proofs.YtnjfhpgmogopnaaGreat
open Go.ChangeShapes Go.WideShapes Go.ChangeAt Go.RowKit
theorem wp_append_own2 {P : Program} {w : World} {o : Oper} {a : Act} {K : Act → World → Prop} {Q : Exit → Act → World → Prop} (s x : Operand) (t : TypeId)
    (ho : o.op = .call { callee := .builtin .append, args := #[s, x], argTypes := #[t, t] })
    (base : Nat) (e : TypeId) (i : TypeInfo) (z : Value) (size bytes : Nat) (ht : P.underlying t = some (.slice e)) (hi : P.info? e = some i) (hz : i.zero = some z)
    (hsize : i.size = size) (hby : i.bytes = bytes) (hzs : z.cells.size = size) (hsz : 0 < size)
    (v : Value) (n : Nat) (xs : List Value) (hs : a.eval s = v) (hown : w.ownsRow base e size v n xs)
    (ad : Addr) (m c : Nat) (news : List Value) (hx : a.eval x = .slice (some ad) m c) (hl : news.length = m * size) (hnews : ∀ j u, news[j]? = some u → w.cell? (ad.add j) = some u) (h1 : ∀ u ∈ news, u.oneCell' = true)
    (h63 : n + m ≤ maxLen) (hbytes : (n + m) * bytes ≤ 140737488355328) (hbase : base ≤ w.heap.size)
    (h : ∀ v' w', w'.ownsRow base e size v' (n + m) (xs ++ news) → w.grownBy w' v.ownBlock → (∀ g, v'.ownBlock = some g → v.ownBlock = some g ∨ w.heap.size ≤ g) → K (a.put o.dst v') w') : o.wp P a w K Q := by
  obtain ⟨v', w', hr, h2, h3, _⟩ := run_append_own (P := P) w base t o.type e i z size bytes ht hi hz hsize hby hzs hsz v n xs hown ad m c news hl hnews h1 h63 hbytes hbase
  have h5 := append_block (P := P) base t o.type e i z size bytes ht hi hz hsize hby hzs hsz v n xs hown ad m c news hl hnews h1 h63 hbytes hr
  unfold Oper.wp execOp
  simp only [ho, resolve, invoke, builtin, Sem.run_bind, Sem.run_pure, Result.andThen_ok, List.map_toArray, List.map_cons, List.map_nil, hs, hx, hr]
  exact h v' w' h2 h3 h5
set_option maxRecDepth 100000 in
/-- the same at a step of a region that draws its order -/
theorem step_appendOps2 {w : World} {ops : Array Oper} {o : Oper} {a : Act} {K : Act → World → Prop} {Q : Exit → Act → World → Prop} {E : Prop} (hgd : o.guard = none) (s x : Operand)
    (ho : o.op = .call { callee := .builtin .append, args := #[s, x], argTypes := #[41, 41] })
    (base : Nat) (v : Value) (xs : List OpM) (hs : a.eval s = v) (hown : OwnO w base v xs)
    (S : Nat → Prop) (u : Value) (ys : List OpM) (hx : a.eval x = u) (hsrc : Ops w S u ys) (hlen : xs.length + ys.length ≤ 1099511627776) (hbase : base ≤ w.heap.size)
    (h : ∀ v' w', OwnO w' base v' (xs ++ ys) → Chg (fun b => v.ownBlock = some b) w w' → (∀ b, v'.ownBlock = some b → v.ownBlock = some b ∨ w.heap.size ≤ b) → Chg (fun k => base ≤ k) w w' → K (a.put o.dst v') w') :
    if Region.wanted o (yielded ops a.tmps) = true then Oper.wp Tryz.prog o a w K Q else E := by
  have hw : Region.wanted o (yielded ops a.tmps) = true := by simp [Region.wanted, hgd]
  rw [if_pos hw]
  obtain ⟨i0, hi, hz0, hz1, hz2⟩ := info_parts infoOp
  obtain ⟨⟨hl, A, c, rfl, hlc, hcm, hr, hnn⟩, hok⟩ := hsrc
  have hok' : ∀ y ∈ xs ++ ys, y.ok := fun y hy => (List.mem_append.1 hy).elim (hown.2 y) (hok y)
  cases A with
  | none =>
    have hy : ys = [] := by
      rcases Nat.eq_zero_or_pos ys.length with h0 | h0
      · exact List.eq_nil_of_length_eq_zero h0
      · obtain ⟨b, oo, h1, _⟩ := hr h0
        cases h1
    subst hy
    obtain rfl := hnn rfl
    have hrun := run_append_owned_none (P := Tryz.prog) (w := w) base 41 o.type 66 i0 8 Tryz.underlying41 hi v xs.length _ hown.1
    have hK := h v w (by simpa using hown) (Chg.refl _ _) (fun b hb => .inl hb) (Chg.refl _ _)
    unfold Oper.wp
    simp [execOp, ho, resolve, invoke, builtin, hs, hx, hrun, Result.andThen]
    exact hK
  | some ad =>
    have hnews : ∀ j q, (ys.flatMap OpM.cells)[j]? = some q → w.cell? (ad.add j) = some q := by
      intro j q hq
      obtain ⟨hj, he⟩ := List.getElem?_eq_some_iff.1 hq
      have hp : 0 < ys.length := by
        rcases Nat.eq_zero_or_pos ys.length with h0 | h0
        · rw [List.eq_nil_of_length_eq_zero h0] at hj; simp at hj
        · exact h0
      obtain ⟨b, oo, h1, _, _, hc⟩ := hr hp
      injection h1 with h1
      subst h1
      have := (hc j hj).1
      rw [he] at this
      rw [← this]
      unfold Addr.add
      by_cases h0 : j = 0 <;> simp [h0]
    refine wp_append_own2 (P := Tryz.prog) s x 41 ho base 66 i0 _ 8 64 Tryz.underlying41 hi hz0 hz1 hz2 rfl (by decide) v xs.length _ hs hown.1 ad ys.length c (ys.flatMap OpM.cells) hx hl hnews ?_ ?_ ?_ hbase ?_
    · intro q hq
      obtain ⟨y, _, hy⟩ := List.mem_flatMap.1 hq
      exact cells_one y q hy
    · unfold Go.maxLen; omega
    · omega
    · intro v' w' h2 h3 h4
      exact h v' w' ⟨by simpa using h2, hok'⟩ (Chg.of_grown h3) h4 ((Chg.refl _ _).grown h3 fun k hk => .inl (hown.1.lt k hk).1)
set_option maxRecDepth 100000 in
set_option maxHeartbeats 4000000 in
theorem concatOps_own (w : World) (S1 S : Nat → Prop) (arg : Value) (vs : List Value) (yss : List (List OpM)) (hvl : vs.length = yss.length) (harg : Raw w S1 1 arg yss.length vs)
    (hys : ∀ (i : Nat) (u : Value) (y : List OpM), vs[i]? = some u → yss[i]? = some y → Ops w S u y) (hsum : sumLen yss yss.length ≤ 1073741824) :
    Calls Tryz.prog 38 #[arg] w fun e w' => ∃ v, e = .returned v ∧ OwnO w' w.heap.size v yss.flatten ∧ Up w w' := by
  obtain ⟨A, c, rfl, hlc, hcm, -⟩ := harg.shape
  have HA := Lib.hid harg
  have HY := Lib.hid hys
  have HM := Lib.hid hsum
  have HV := Lib.hid hvl
  clear harg hys hsum hvl
  go_enter Tryz.func38, Tryz.ntmps38
  go_wp2
  go_loop [3, 5, 11] (fun q _ i => ∃ j : Nat, j ≤ yss.length ∧ i = .int .i64 j ∧ q = .int .i64 (sumLen yss j)) (fun _ _ i => yss.length - (intOf i).toNat)
  case atStart => exact ⟨0, by omega, rfl, by simp [sumLen]⟩
  case round =>
    obtain ⟨j, hj, rfl, rfl⟩ := hrel
    by_cases hlt : j < yss.length
    · obtain ⟨h0, A', c', he, -, -, hr, -⟩ := HA.out
      obtain ⟨b, o, hAb, -, -, hc⟩ := hr (by omega)
      obtain ⟨rfl, rfl⟩ : A = A' ∧ c = c' := by simpa using he
      subst hAb
      have hcj := (hc j (by rw [HV.out]; exact hlt)).1
      obtain ⟨A1, c1, hv1, hl1, hc1, -⟩ := (HY.out j _ _ (List.getElem?_eq_getElem (by rw [HV.out]; exact hlt)) (List.getElem?_eq_getElem hlt)).shape
      rw [hv1] at hcj
      have hs1 := sumLen_succ yss j hlt
      have hs2 := sumLen_le yss (j + 1)
      have hs3 : (sumLen yss j : Int) + yss[j].length ≤ 1073741824 := by have := HM.out; omega
      have HS1 := Lib.hid hs1
      have hng : ¬ ((sumLen yss j : Int) + yss[j].length < 0) := by omega
      clear hc hr he h0 hv1 hs1 hs2
      go_wp2
      go_round
      case rel => exact ⟨j + 1, by omega, by go_num, by rw [HS1.out]; go_num⟩
      case measure => simp [intOf]; omega
    · obtain rfl : j = yss.length := by omega
      go_wp2_with fail
      refine (growOps_nil _ _ HM.out).mono ?_
      rintro e w1 ⟨v, rfl, k1, g1⟩
      have K1 := Lib.hid k1
      have G1 := Lib.hid g1
      clear k1 g1
      go_wp2
      go_loopw [6, 8, 27] (fun v _ i wr => ∃ j : Nat, j ≤ yss.length ∧ i = .int .i64 j ∧ Hid (OwnO wr w.heap.size v (yss.take j).flatten) ∧ Hid (Up w wr)) (fun _ _ i _ => yss.length - (intOf i).toNat)
      case atStart => exact ⟨0, by omega, rfl, by simpa [Hid] using K1.out, G1.out⟩
      case round =>
        obtain ⟨j, hj2, rfl, ho, hg⟩ := hrel
        by_cases hlt2 : j < yss.length
        · obtain ⟨h0, A', c', he, -, -, hr, -⟩ := HA.out.up hg.out
          obtain ⟨b, o, hAb, -, -, hc⟩ := hr (by omega)
          obtain ⟨rfl, rfl⟩ : A = A' ∧ c = c' := by simpa using he
          subst hAb
          have hcj := (hc j (by rw [HV.out]; exact hlt2)).1
          have hsrc := (HY.out j _ _ (List.getElem?_eq_getElem (by rw [HV.out]; exact hlt2)) (List.getElem?_eq_getElem hlt2)).up hg.out
          obtain ⟨A1, c1, hv1, hl1, hc1, -⟩ := hsrc.shape
          rw [hv1] at hcj hsrc
          have HSR := Lib.hid hsrc
          have HL := Lib.hid (show (yss.take j).flatten.length + yss[j].length ≤ 1099511627776 by
            rw [flat_take_length]
            have h1 := sumLen_succ yss j hlt2
            have h2 := sumLen_le yss (j + 1)
            have := HM.out
            omega)
          have hsz := hg.out.size
          clear hc hr he h0 hv1 hsrc
          go_wp2_with (first | (at_builtin; refine wp_append_ops rfl _ _ rfl w.heap.size _ (yss.take j).flatten rfl ho.out S _ yss[j] rfl HSR.out HL.out ?_ ?_; (first | omega | (simp; omega)); intro v' w3 ho1 _ hg1; have HO := Lib.hid ho1; have HG := Lib.hid hg1; clear ho1 hg1))
          go_roundw
          case rel => exact ⟨j + 1, by omega, by go_num, by rw [flat_take _ _ hlt2]; exact HO.out, Chg.new hg.out HG.out (fun i hi => by omega)⟩
          case measure => simp [intOf]; omega
        · obtain rfl : j = yss.length := by omega
          go_wp2
          go_ret
          refine ⟨_, rfl, ?_, hg.out⟩
          have := ho.out
          rwa [List.take_length] at this
theorem OwnO.lower {w : World} {base b2 : Nat} {v : Value} {xs : List OpM} (h : OwnO w base v xs) (hb : b2 ≤ base) : OwnO w b2 v xs := by
  obtain ⟨⟨h1, h2⟩, h3⟩ := h
  refine ⟨⟨h1, ?_⟩, h3⟩
  rcases h2 with h2 | ⟨g, cap, cur, rfl, hg, r⟩
  · exact .inl h2
  · exact .inr ⟨g, cap, cur, rfl, Nat.le_trans hb hg, r⟩
/-- slices of slices of which some are as they were -/
def SSPart (w : World) (S : Nat → Prop) (v : Value) (P : Nat → Prop) (xss : List (List Int)) : Prop :=
  ∃ (vs : List Value) (R : Nat → Prop) (Q : Nat → Nat → Prop), Raw w R 1 v xss.length vs ∧ (∀ b, R b → S b) ∧ (∀ i b, Q i b → S b ∧ ¬ R b) ∧ (∀ i j b, Q i b → Q j b → i = j) ∧
    ∀ i (h : i < xss.length), P i → ∃ u, vs[i]? = some u ∧ Ints w (Q i) u xss[i]
theorem SSPart.of {w : World} {S : Nat → Prop} {v : Value} {xss : List (List Int)} (h : IntSS w S v xss) (P : Nat → Prop) : SSPart w S v P xss := by
  obtain ⟨vs, R, Q, h1, h2, h3, h4, h5⟩ := h
  exact ⟨vs, R, Q, h1, h2, h3, h4, fun i hi _ => h5 i hi⟩
theorem SSPart.keep {S T : Nat → Prop} {w w' : World} {v : Value} {P : Nat → Prop} {xss : List (List Int)} (h : SSPart w S v P xss) (g : Chg T w w') (hd : ∀ b, b < w.heap.size → S b → ¬ T b) : SSPart w' S v P xss := by
  obtain ⟨vs, R, Q, h1, h2, h3, h4, h5⟩ := h
  exact ⟨vs, R, Q, h1.keep g (fun b hb hr => hd b hb (h2 b hr)), h2, h3, h4, fun i hi hp => by
    obtain ⟨u, hu, hk⟩ := h5 i hi hp
    exact ⟨u, hu, hk.keep g (fun b hb hq => hd b hb (h3 i b hq).1)⟩⟩
theorem SSPart.up {S : Nat → Prop} {w w' : World} {v : Value} {P : Nat → Prop} {xss : List (List Int)} (h : SSPart w S v P xss) (g : Up w w') : SSPart w' S v P xss := h.keep g fun _ _ _ h => h
theorem SSPart.less {S : Nat → Prop} {w : World} {v : Value} {P P' : Nat → Prop} {xss : List (List Int)} (h : SSPart w S v P xss) (hp : ∀ i, P' i → P i) : SSPart w S v P' xss := by
  obtain ⟨vs, R, Q, h1, h2, h3, h4, h5⟩ := h
  exact ⟨vs, R, Q, h1, h2, h3, h4, fun i hi hq => h5 i hi (hp i hq)⟩
theorem SSPart.at_ {S : Nat → Prop} {w : World} {v : Value} {P : Nat → Prop} {xss : List (List Int)} (h : SSPart w S v P xss) {j : Nat} (hj : j < xss.length) (hp : P j) : ∃ b o c A ci, ∃ Qj : Nat → Prop, v = .slice (some ⟨b, o, none⟩) xss.length c ∧ w.cell? ⟨b, o + j, none⟩ = some (.slice A xss[j].length ci) ∧ Ints w Qj (.slice A xss[j].length ci) xss[j] ∧ xss[j].length ≤ ci ∧ ci ≤ 9223372036854775807 ∧ (∀ x, Qj x → S x) ∧
    ∀ w', Chg Qj w w' → SSPart w' S v (fun i => P i ∧ i ≠ j) xss := by
  obtain ⟨vs, R, Q, h1, hR, hQ, hD, h5⟩ := h
  obtain ⟨h0, A, c, rfl, h2, h3, h4, _⟩ := h1
  obtain ⟨b, o, rfl, hs, hb, hc⟩ := h4 (by omega)
  obtain ⟨u, hu, hk⟩ := h5 j hj hp
  obtain ⟨Ai, ci, rfl, h6, h7, _⟩ := hk.shape
  obtain ⟨hlt, he⟩ := List.getElem?_eq_some_iff.1 hu
  refine ⟨b, o, c, Ai, ci, Q j, rfl, ?_, hk, h6, h7, fun x hx => (hQ j x hx).1, fun w' g => ?_⟩
  · rw [← he]
    exact (hc j hlt).1
  · refine ⟨vs, R, Q, ⟨h0, _, c, rfl, h2, h3, fun hp => ?_, by simp⟩, hR, hQ, hD, fun i hi hpi => ?_⟩
    · refine ⟨b, o, rfl, hs, Nat.lt_of_lt_of_le hb g.size, fun t ht => ?_⟩
      have hn : ¬ Q j b := fun hq => (hQ j b hq).2 hs
      exact ⟨g.cell (hc t ht).1 hn, (g.frozen (hc t ht).1 hn).trans (hc t ht).2⟩
    · obtain ⟨ui, hui, hki⟩ := h5 i hi hpi.1
      exact ⟨ui, hui, hki.keep g (fun x _ h1 h2 => hpi.2 (hD i j x h1 h2))⟩
/-- a stitch on a column: operations, and where the carrier is -/
def stepC (d car k : Int) (s : List OpM × Int) (c : Int) : List OpM × Int := if k = 7 then s else (s.1 ++ (carryM s.2 (2 * c + 1) d car ++ stitchM k (2 * c + 1) d car), 2 * c + 1 + (d + 1) / 2)
def ordI (d : Int) (n t : Nat) : Nat := if d = 1 then t else n - 1 - t
def colsOf (r : RowM) (j : Nat) : List Int := if r.d = 1 then countM (sumF madeK (r.xs.take j)) (madeK (ix r.xs j)) else (countM (sumF madeK (r.xs.take j)) (madeK (ix r.xs j))).reverse
def rowTo (r : RowM) (s : List OpM × Int) : Nat → List OpM × Int
  | 0 => s
  | t + 1 => (colsOf r (ordI r.d r.xs.length t)).foldl (stepC r.d r.c (ix r.xs (ordI r.d r.xs.length t))) (rowTo r s t)
theorem fold_take (f : List OpM × Int → Int → List OpM × Int) (s : List OpM × Int) {cs : List Int} {q : Nat} (h : q < cs.length) : (cs.take (q + 1)).foldl f s = f ((cs.take q).foldl f s) cs[q] := by
  rw [List.take_succ_eq_append_getElem h, List.foldl_append]
  rfl
theorem colsOf_length (r : RowM) (j : Nat) : (colsOf r j).length = (madeK (ix r.xs j)).toNat := by
  unfold colsOf; split <;> simp [countM]
theorem sumF_prefix {xs : List Int} {j : Nat} (h : j < xs.length) : 0 ≤ sumF madeK (xs.take j) ∧ sumF madeK (xs.take j) + madeK xs[j] ≤ sumF madeK xs := by
  have h1 := sumF_take madeK h
  have h2 := (trL_ok (xs.take j) 0 0).2.2.2
  have h3 := (trL_ok (xs.drop (j + 1)) 0 0).2.2.2
  have h4 : sumF madeK xs = sumF madeK (xs.take (j + 1)) + sumF madeK (xs.drop (j + 1)) := by rw [← sumF_append, List.take_append_drop]
  omega
theorem colsOf_in {r : RowM} {j : Nat} (hr : LaidRow r.d r.c r.xs) (h : j < r.xs.length) : ∀ c ∈ colsOf r j, 0 ≤ c ∧ c ≤ 7 := by
  have h1 := sumF_prefix h
  have h2 := hr.made
  have h3 : ∀ c ∈ countM (sumF madeK (r.xs.take j)) (madeK (ix r.xs j)), 0 ≤ c ∧ c ≤ 7 := fun c hc => by
    obtain ⟨i, hi, rfl⟩ := List.mem_map.1 hc
    have := List.mem_range.1 hi
    rw [ix_eq h] at this
    omega
  intro c hc
  unfold colsOf at hc
  split at hc
  · exact h3 c hc
  · exact h3 c (List.mem_reverse.1 hc)
theorem stepC_skip {d car k c : Int} (s : List OpM × Int) (h : k = 7) : stepC d car k s c = s := if_pos h
theorem stepC_go {d car k c : Int} (s : List OpM × Int) (h : ¬ k = 7) : stepC d car k s c = (s.1 ++ (carryM s.2 (2 * c + 1) d car ++ stitchM k (2 * c + 1) d car), 2 * c + 1 + (d + 1) / 2) := if_neg h
theorem carryM_len (a p d c : Int) : (carryM a p d c).length ≤ 1 := by unfold carryM; split <;> simp
theorem stitchM_len (k n d c : Int) : (stitchM k n d c).length ≤ 3 := by
  unfold stitchM
  repeat' split
  all_goals simp
theorem ordI_lt {d : Int} {n t : Nat} (h : t < n) : ordI d n t < n := by unfold ordI; split <;> omega
theorem ordI_val {d : Int} {n t : Nat} (h : t < n) (hl : t < (ordM d n).length) : (ordM d n)[t] = (ordI d n t : Nat) := by
  rw [ordM_get]
  unfold ordI
  split
  · rfl
  · omega
theorem ordI_ne {d : Int} {n s t : Nat} (h : t < n) (hs : s < n) (hne : s ≠ t) : ordI d n s ≠ ordI d n t := by unfold ordI; split <;> omega
end Go.Proofs.YtnjfhpgmogopnaaGreat
