/- The program's EventsOfProof answers as the reference's, for every proof; what it is given stays as it was, and its memory is its own. No condition. -/
import Derived.Test.YtjgdcjhmfbefdaaMoves
import Derived.Test.YtjgdcjhmfbefdaaOps
import Derived.Deep.Slices
import Derived.Deep.Fields
import Derived.ChangeSame
import Derived.Test.YtjgdcjhmfbefdaaRow3
import Derived.Lib.SmallJoins
import Derived.Test.YtjgdcjhmfbefdaaNs
import Derived.Test.YtjgdcjhmfbefdaaPrfM
import Derived.Test.YtjgdcjhmfbefdaaPrf
import Derived.Test.YtjgdcjhmfbefdaaEV1
namespace Go.Proofs.Ytjgdcjhmfbefdaa
open Go.ChangeShapes Go.WideShapes Go.ChangeAt Go.RowKit Go.Deep
section
variable {H : Type} {enc : TypeId × Value → H} {P : Program} {w : World}
/-- from 'each of the first m elements reads as a record' to one list -/
theorem rows_of {α : Type} {Q : Nat → α → Prop} : ∀ (m : Nat), (∀ i, i < m → ∃ y, Q i y) → ∃ ys : List α, ys.length = m ∧ ∀ i (h : i < ys.length), Q i ys[i]
  | 0, _ => ⟨[], rfl, fun i h => absurd h (by simp)⟩
  | m + 1, h => by
    obtain ⟨ys, hl, hq⟩ := rows_of m (fun i hi => h i (by omega))
    obtain ⟨y, hy⟩ := h m (by omega)
    refine ⟨ys ++ [y], by simp [hl], fun i hi => ?_⟩
    by_cases e : i < ys.length
    · rw [List.getElem_append_left e]; exact hq i e
    · have hi' : i = m := by simp at hi; omega
      subst hi'
      rw [List.getElem_append_right (by omega)]
      simpa [hl] using hy
theorem open_rows {α : Type} (f : α → List Value) (k : Nat) (ok : α → Prop) (hf : ∀ x, (f x).length = k) {t e : TypeId} {v : Value} {d : DataW H} {p : List MemPlace} {base : Nat}
    (ht : P.underlying t = some (.slice e)) (hC : P.cellsOf e = k) (hv : Value.okWide P w .any base t v) (hk : 0 < k)
    (hdec : ∀ n cs x, DataW.trod enc P w 0 (fun _ => true) true n e cs = some x → ∃ y, cs = f y ∧ ok y)
    (h : DataW.Trod enc P w 0 (fun _ => true) true t v d p) (hz : ∀ b off, MemPlace.cell b off ∈ p → w.frozen? ⟨b, off, none⟩ = false) :
    ∃ xs : List α, Raw w (fun b => b < w.heap.size) k v xs.length (xs.flatMap f) ∧ ∀ x ∈ xs, ok x := by
  obtain ⟨a0, len, cap, rfl⟩ := okWide_slice ht hv
  obtain ⟨fuel, hfu⟩ := h
  rcases open_slice ht hfu with ⟨hcs, hx⟩ | ⟨a, len', cap', m, n, D, Pl, hcs, _, hl, hm, hmm, hx, hi⟩
  · simp [Value.cells] at hcs
    obtain ⟨rfl, rfl, rfl⟩ := hcs
    exact ⟨[], Raw.nil _ _ _ _ _ (by omega) (by simp), by simp⟩
  · simp [Value.cells] at hcs
    obtain ⟨rfl, rfl, rfl⟩ := hcs
    simp at hmm
    rw [hC] at hi hx
    obtain ⟨ys, hyl, hy⟩ := rows_of (Q := fun i y => ok y ∧ ∀ j u, (f y)[j]? = some u → w.cell? (a.add (i * k + j)) = some u) len (fun i hil => by
      obtain ⟨cs', hc, htr⟩ := hi i (by omega)
      obtain ⟨y, rfl, hok⟩ := hdec _ _ _ htr
      obtain ⟨_, hcl, hat⟩ := World.cells?_some hc
      refine ⟨y, hok, fun j u hu => ?_⟩
      have hj : j < k := by
        obtain ⟨h1, _⟩ := List.getElem?_eq_some_iff.1 hu
        rw [hf] at h1; exact h1
      rw [← Go.Deep.add_add, hat j hj, hu])
    subst hyl
    unfold Go.maxLen at hm
    have hspot : 0 < ys.length → ∃ b o, a = ⟨b, o, none⟩ := fun hp => by
      obtain ⟨b, o, s⟩ := a
      have h0 := (hy 0 hp).2 0 _ (List.getElem?_eq_getElem (by rw [hf]; exact hk))
      have hs : s = none := by simpa [Addr.add] using World.cell?_spot h0
      subst hs
      exact ⟨b, o, rfl⟩
    refine ⟨ys, ⟨?_, some a, cap, rfl, hl, by omega, fun hp => ?_, by simp⟩, fun x hx => ?_⟩
    · exact flat_length f k hf ys
    · obtain ⟨b, o, rfl⟩ := hspot hp
      have h0 := (hy 0 hp).2 0 _ (List.getElem?_eq_getElem (by rw [hf]; exact hk))
      have hb : b < w.heap.size := by
        have := World.block_lt_of_cell? w _ h0
        simpa [Addr.add] using this
      refine ⟨b, o, rfl, hb, hb, fun q hq => ?_⟩
      have hlen := flat_length f k hf ys
      have hqk : q < ys.length * k := by omega
      have hdi : q / k < ys.length := Nat.div_lt_of_lt_mul (by rw [Nat.mul_comm]; exact hqk)
      have hmo : q % k < k := Nat.mod_lt _ hk
      have hde : q / k * k + q % k = q := by rw [Nat.mul_comm]; exact Nat.div_add_mod q k
      have hg := flat_get f k hf ys (q / k) hdi (q % k) hmo
      rw [hde] at hg
      have hcell := (hy (q / k) hdi).2 (q % k) _ (by rw [← hg]; exact List.getElem?_eq_getElem hq)
      rw [hde, Go.WideShapes.add_plain] at hcell
      refine ⟨hcell, hz b (o + q) ?_⟩
      simp only [Prod.mk.injEq] at hx
      rw [hx.2]
      refine List.mem_append_left _ ?_
      simp [MemPlace.row]
      have : ys.length * k ≤ m * k := Nat.mul_le_mul_right k (by omega)
      omega
    · obtain ⟨i, hi, rfl⟩ := List.getElem_of_mem hx
      exact (hy i hi).1
theorem struct_sub {t : TypeId} {n : Nat} {cs : List Value} {x : DataW H × List MemPlace} {fs : Array Field} (ht : P.underlying t = some (.struct fs)) (h : DataW.trod enc P w 0 (fun _ => true) true n t cs = some x)
    {i : Nat} {f : Field} (hf : fs[i]? = some f) : ∃ m y, DataW.trod enc P w 0 (fun _ => true) true m f.type ((cs.drop f.offset).take (P.cellsOf f.type)) = some y := by
  obtain ⟨ys, m, _, _, _, hl, hg⟩ := DataW.trod_struct ht h
  have hi := (Array.getElem?_eq_some_iff.1 hf).1
  exact ⟨m, ys[i]'(by omega), (hg i f hf).trans (List.getElem?_eq_getElem (by omega))⟩
theorem struct_int {t : TypeId} {n : Nat} {cs : List Value} {x : DataW H × List MemPlace} {fs : Array Field} (ht : P.underlying t = some (.struct fs)) (h : DataW.trod enc P w 0 (fun _ => true) true n t cs = some x)
    {i : Nat} {f : Field} (hf : fs[i]? = some f) (hu : P.underlying f.type = some (.int .i64)) (hc : P.cellsOf f.type = 1) : ∃ z, cs[f.offset]? = some (.int .i64 z) ∧ I64 z := by
  obtain ⟨m, y, hy⟩ := struct_sub ht h hf
  rw [hc] at hy
  obtain ⟨z, he, _, hw⟩ := DataW.trod_int hu hy
  refine ⟨z, ?_, I64.of_wf hw⟩
  have := congrArg (fun l => l[0]?) he
  simpa using this
theorem struct_len {t : TypeId} {n : Nat} {cs : List Value} {x : DataW H × List MemPlace} {fs : Array Field} (ht : P.underlying t = some (.struct fs)) (h : DataW.trod enc P w 0 (fun _ => true) true n t cs = some x) :
    cs.length = P.cellsOf t := by
  obtain ⟨_, _, _, _, hl, _⟩ := DataW.trod_struct ht h
  exact hl
theorem len2 {cs : List Value} (h : cs.length = 2) : ∃ a b, cs = [a, b] := by
  match cs, h with
  | [a, b], _ => exact ⟨a, b, rfl⟩
theorem len8 {cs : List Value} (h : cs.length = 8) : ∃ a b c d e f g i, cs = [a, b, c, d, e, f, g, i] := by
  match cs, h with
  | [a, b, c, d, e, f, g, i], _ => exact ⟨a, b, c, d, e, f, g, i, rfl⟩
end
theorem int1 : Try.prog.cellsOf 2 = 1 := by kernel_rfl
section
variable {H : Type} {enc : TypeId × Value → H} {w : World}
end
end Go.Proofs.Ytjgdcjhmfbefdaa
namespace Go.Proofs.Ytjgdcjhmfbefdaa
open Go.ChangeShapes Go.WideShapes Go.ChangeAt Go.RowKit Go.Deep
theorem open_IntsT {H : Type} {enc : TypeId × Value → H} {P : Program} {w : World} {t e : TypeId} {n : Nat} {u : Value} {y : DataW H × List MemPlace}
    (ht : P.underlying t = some (.slice e)) (he : P.underlying e = some (.int .i64)) (hC : P.cellsOf e = 1)
    (h : DataW.trod enc P w 0 (fun _ => true) true n t [u] = some y) (hz : ∀ b off, MemPlace.cell b off ∈ y.2 → w.frozen? ⟨b, off, none⟩ = false) :
    ∃ xs, Ints w (fun b => b < w.heap.size) u xs := by
  rcases open_ints ht he hC h with ⟨hcs, hx⟩ | ⟨a, len', cap', zs, hcs, _, hl, hm, hlen, hx, hcell, hwz⟩
  · simp at hcs
    subst hcs
    exact ⟨[], Ints.nil _ _ _ _ (by omega)⟩
  · simp at hcs
    subst hcs
    unfold Go.maxLen at hm
    simp at hlen
    have hzl : (zs.take len').length = len' := by simp; omega
    refine ⟨zs.take len', some a, cap', by rw [hzl], by rw [hzl]; exact hl, by omega, fun x hx => I64.of_wf (hwz x (List.mem_of_mem_take hx)), fun hp => ?_, by simp⟩
    rw [hzl] at hp
    obtain ⟨b, off, rfl, hc⟩ := ints_at hcell (by omega)
    have hb : b < w.heap.size := World.block_lt_of_cell? w _ (hc 0 (by omega))
    refine ⟨b, off, rfl, hb, hb, fun j hj => ?_⟩
    have hj' : j < len' := by rwa [hzl] at hj
    have hjz : j < zs.length := by omega
    refine ⟨by rw [hc j hjz]; simp [hjz], hz b (off + j) ?_⟩
    rw [hx]
    simp [MemPlace.row]
    exact hjz
end Go.Proofs.Ytjgdcjhmfbefdaa
set_option linter.unusedSimpArgs false
set_option linter.unusedVariables false
namespace Go.Proofs.Ytjgdcjhmfbefdaa
open Go.ChangeShapes Go.WideShapes Go.ChangeAt Go.RowKit Go.Deep
theorem flat_chunk {α : Type} (f : α → List Value) (k : Nat) (hf : ∀ x, (f x).length = k) (xs : List α) (i : Nat) (hi : i < xs.length) : ((xs.flatMap f).drop (i * k)).take k = f xs[i] := by
  refine List.ext_getElem? fun j => ?_
  by_cases hj : j < k
  · rw [List.getElem?_take_of_lt hj, List.getElem?_drop, flat_get f k hf xs i hi j hj]
  · rw [List.getElem?_eq_none (by simp; omega), List.getElem?_eq_none (by rw [hf]; omega)]
theorem open_nst {α : Type} {H : Type} {enc : TypeId × Value → H} {P : Program} {w : World} (E : World → List Value → α → Prop) (k : Nat) (hk : 0 < k) {t e : TypeId} {n : Nat} {u : Value} {y : DataW H × List MemPlace}
    (ht : P.underlying t = some (.slice e)) (hC : P.cellsOf e = k)
    (hdec : ∀ n cs x, DataW.trod enc P w 0 (fun _ => true) true n e cs = some x → (∀ b off, MemPlace.cell b off ∈ x.2 → w.frozen? ⟨b, off, none⟩ = false) → cs.length = k → ∃ a : α, E w cs a)
    (h : DataW.trod enc P w 0 (fun _ => true) true n t [u] = some y) (hz : ∀ b off, MemPlace.cell b off ∈ y.2 → w.frozen? ⟨b, off, none⟩ = false) :
    ∃ xs, Nst k E w (fun b => b < w.heap.size) u xs := by
  rcases open_slice ht h with ⟨hcs, hx⟩ | ⟨a, len, cap, m, n, D, Pl, hcs, _, hl, hm, hmm, hx, hi⟩
  · simp at hcs
    subst hcs
    exact ⟨[], Nst.nil _ _ _ _ (by omega)⟩
  · simp at hcs
    subst hcs
    simp at hmm
    rw [hC] at hi hx
    unfold Go.maxLen at hm
    obtain ⟨ys, hyl, hy⟩ := rows_of (Q := fun i (p : {p : List Value × α // p.1.length = k}) => E w p.1.1 p.1.2 ∧ ∀ j v, p.1.1[j]? = some v → w.cell? (a.add (i * k + j)) = some v) len (fun i hil => by
      obtain ⟨cs', hc, htr⟩ := hi i (by omega)
      obtain ⟨_, hcl, hat⟩ := World.cells?_some hc
      obtain ⟨r, hr⟩ := hdec _ _ _ htr (fun b off hm9 => hz b off (by
        rw [hx]
        exact List.mem_append_right _ (List.mem_flatMap.2 ⟨i, by simp; omega, hm9⟩))) hcl
      refine ⟨⟨(cs', r), hcl⟩, hr, fun j v hv => ?_⟩
      have hj : j < k := by
        obtain ⟨h1, _⟩ := List.getElem?_eq_some_iff.1 hv
        have h1 : j < cs'.length := h1
        omega
      rw [← Go.Deep.add_add, hat j hj]
      exact hv)
    subst hyl
    have hf : ∀ x : {p : List Value × α // p.1.length = k}, (fun p : {p : List Value × α // p.1.length = k} => p.1.1) x = x.1.1 := fun _ => rfl
    have hfl : ∀ x : {p : List Value × α // p.1.length = k}, x.1.1.length = k := fun x => x.2
    have hlen := flat_length (fun p : {p : List Value × α // p.1.length = k} => p.1.1) k hfl ys
    refine ⟨ys.map fun p => p.1.2, ys.flatMap fun p => p.1.1, ⟨by rw [hlen, List.length_map], some a, cap, by rw [List.length_map], by rw [List.length_map]; exact hl, by omega, fun hp => ?_, by simp⟩, fun i hi' => ?_⟩
    · rw [List.length_map] at hp
      have h0 := (hy 0 hp).2 0 _ (List.getElem?_eq_getElem (by rw [hfl]; exact hk))
      obtain ⟨b, o, s⟩ := a
      have hs : s = none := by simpa [Addr.add] using World.cell?_spot h0
      subst hs
      have hb : b < w.heap.size := by
        have := World.block_lt_of_cell? w _ h0
        simpa [Addr.add] using this
      refine ⟨b, o, rfl, hb, hb, fun q hq => ?_⟩
      have hqk : q < ys.length * k := by omega
      have hdi : q / k < ys.length := Nat.div_lt_of_lt_mul (by rw [Nat.mul_comm]; exact hqk)
      have hmo : q % k < k := Nat.mod_lt _ hk
      have hde : q / k * k + q % k = q := by rw [Nat.mul_comm]; exact Nat.div_add_mod q k
      have hg := flat_get (fun p : {p : List Value × α // p.1.length = k} => p.1.1) k hfl ys (q / k) hdi (q % k) hmo
      rw [hde] at hg
      have hcell := (hy (q / k) hdi).2 (q % k) _ (by rw [← hg]; exact List.getElem?_eq_getElem hq)
      rw [hde, Go.WideShapes.add_plain] at hcell
      refine ⟨hcell, hz b (o + q) ?_⟩
      rw [hx]
      refine List.mem_append_left _ ?_
      simp [MemPlace.row]
      have : ys.length * k ≤ m * k := Nat.mul_le_mul_right k (by omega)
      omega
    · rw [List.length_map] at hi'
      rw [flat_chunk (fun p : {p : List Value × α // p.1.length = k} => p.1.1) k hfl ys i hi', List.getElem_map]
      exact (hy i hi').1
theorem flat_of_chunks {α : Type} (f : α → List Value) (k : Nat) (hk : 0 < k) (hf : ∀ x, (f x).length = k) (xs : List α) (cs : List Value) (hl : cs.length = xs.length * k) (h : ∀ i (hi : i < xs.length), (cs.drop (i * k)).take k = f xs[i]) : cs = xs.flatMap f := by
  have hlen := flat_length f k hf xs
  refine List.ext_getElem? fun q => ?_
  by_cases hq : q < xs.length * k
  · have hdi : q / k < xs.length := Nat.div_lt_of_lt_mul (by rw [Nat.mul_comm]; exact hq)
    have hmo : q % k < k := Nat.mod_lt _ hk
    have hde : q / k * k + q % k = q := by rw [Nat.mul_comm]; exact Nat.div_add_mod q k
    have hg := flat_get f k hf xs (q / k) hdi (q % k) hmo
    rw [hde, ← h _ hdi, List.getElem?_take_of_lt hmo, List.getElem?_drop, hde] at hg
    exact hg.symm
  · rw [List.getElem?_eq_none (by omega), List.getElem?_eq_none (by omega)]
section
variable {H : Type} {enc : TypeId × Value → H} {P : Program} {w : World}
theorem struct_subz {t : TypeId} {n : Nat} {cs : List Value} {x : DataW H × List MemPlace} {fs : Array Field} (ht : P.underlying t = some (.struct fs)) (h : DataW.trod enc P w 0 (fun _ => true) true n t cs = some x)
    (hz : ∀ b off, MemPlace.cell b off ∈ x.2 → w.frozen? ⟨b, off, none⟩ = false) {i : Nat} {f : Field} (hf : fs[i]? = some f) :
    ∃ m y, DataW.trod enc P w 0 (fun _ => true) true m f.type ((cs.drop f.offset).take (P.cellsOf f.type)) = some y ∧ ∀ b off, MemPlace.cell b off ∈ y.2 → w.frozen? ⟨b, off, none⟩ = false := by
  obtain ⟨ys, m, _, hx, _, hl, hg⟩ := DataW.trod_struct ht h
  have hi := (Array.getElem?_eq_some_iff.1 hf).1
  refine ⟨m, ys[i]'(by omega), (hg i f hf).trans (List.getElem?_eq_getElem (by omega)), fun b off hm => hz b off ?_⟩
  rw [hx]
  exact List.mem_flatMap.2 ⟨_, List.getElem_mem _, hm⟩
theorem len1 {cs : List Value} (h : cs.length = 1) : ∃ a, cs = [a] := by
  match cs, h with
  | [a], _ => exact ⟨a, rfl⟩
theorem len3 {cs : List Value} (h : cs.length = 3) : ∃ a b c, cs = [a, b, c] := by
  match cs, h with
  | [a, b, c], _ => exact ⟨a, b, c, rfl⟩
theorem len6 {cs : List Value} (h : cs.length = 6) : ∃ a b c d e f, cs = [a, b, c, d, e, f] := by
  match cs, h with
  | [a, b, c, d, e, f], _ => exact ⟨a, b, c, d, e, f, rfl⟩
end
end Go.Proofs.Ytjgdcjhmfbefdaa
set_option linter.unusedSimpArgs false
set_option linter.unusedVariables false
namespace Go.Proofs.Ytjgdcjhmfbefdaa
open Go.ChangeShapes Go.WideShapes Go.ChangeAt Go.RowKit Go.Deep
section
variable {H : Type} {enc : TypeId × Value → H} {w : World}
theorem sl1 : Try.prog.cellsOf 37 = 1 := by kernel_rfl
theorem dec_IntsE (n : Nat) (cs : List Value) (x : DataW H × List MemPlace) (h : DataW.trod enc Try.prog w 0 (fun _ => true) true n 37 cs = some x) (hz : ∀ b off, MemPlace.cell b off ∈ x.2 → w.frozen? ⟨b, off, none⟩ = false) (hl : cs.length = 1) :
    ∃ a, IntsE (fun b => b < w.heap.size) w cs a := by
  obtain ⟨u, rfl⟩ := len1 hl
  obtain ⟨xs, hx⟩ := open_IntsT Try.underlying37 Try.underlying2 (by kernel_rfl) h hz
  obtain ⟨A, c, rfl, k1, k2, -⟩ := hx.shape
  exact ⟨xs, A, c, rfl, hx, k1, k2⟩
theorem open_IntSST {n : Nat} {u : Value} {y : DataW H × List MemPlace} (h : DataW.trod enc Try.prog w 0 (fun _ => true) true n 34 [u] = some y) (hz : ∀ b off, MemPlace.cell b off ∈ y.2 → w.frozen? ⟨b, off, none⟩ = false) :
    ∃ xs, IntSSV w (fun b => b < w.heap.size) (fun b => b < w.heap.size) (fun b => b < w.heap.size) u xs :=
  open_nst (IntsE (fun b => b < w.heap.size)) 1 (by omega) Try.underlying34 sl1 (fun n cs x h hz hl => dec_IntsE n cs x h hz hl) h hz
set_option maxRecDepth 100000 in
theorem dec_Event (n : Nat) (cs : List Value) (x : DataW H × List MemPlace) (h : DataW.trod enc Try.prog w 0 (fun _ => true) true n 233 cs = some x) : ∃ y : EvM, cs = y.cells ∧ y.ok := by
  obtain ⟨a0, a1, a2, a3, a4, a5, rfl⟩ := len6 ((struct_len Try.underlying233 h).trans (by kernel_rfl))
  obtain ⟨z0, e0, i0⟩ := struct_int Try.underlying233 h (i := 0) rfl Try.underlying2 int1
  obtain ⟨z1, e1, i1⟩ := struct_int Try.underlying233 h (i := 1) rfl Try.underlying2 int1
  obtain ⟨z2, e2, i2⟩ := struct_int Try.underlying233 h (i := 2) rfl Try.underlying2 int1
  obtain ⟨z3, e3, i3⟩ := struct_int Try.underlying233 h (i := 3) rfl Try.underlying2 int1
  obtain ⟨z4, e4, i4⟩ := struct_int Try.underlying233 h (i := 4) rfl Try.underlying2 int1
  obtain ⟨z5, e5, i5⟩ := struct_int Try.underlying233 h (i := 5) rfl Try.underlying2 int1
  simp at e0 e1 e2 e3 e4 e5
  subst e0 e1 e2 e3 e4 e5
  exact ⟨⟨z0, z1, z2, z3, z4, z5⟩, rfl, i0, i1, i2, i3, i4, i5⟩
theorem open_EvsT {n : Nat} {u : Value} {y : DataW H × List MemPlace} (h : DataW.trod enc Try.prog w 0 (fun _ => true) true n 175 [u] = some y) (hz : ∀ b off, MemPlace.cell b off ∈ y.2 → w.frozen? ⟨b, off, none⟩ = false) :
    ∃ xs, Evs w (fun b => b < w.heap.size) u xs := by
  obtain ⟨xs, cs, h1, h2⟩ := open_nst (fun _ cs (y : EvM) => cs = y.cells ∧ y.ok) 6 (by omega) Try.underlying175 (show Try.prog.cellsOf 233 = 6 by kernel_rfl) (fun n cs x h hz hl => dec_Event n cs x h) h hz
  have e := flat_of_chunks EvM.cells 6 (by omega) EvM.cells_length xs cs h1.1 (fun i hi => (h2 i hi).1)
  subst e
  refine ⟨xs, h1, fun x hx => ?_⟩
  obtain ⟨i, hi, rfl⟩ := List.getElem_of_mem hx
  exact (h2 i hi).2
theorem open_EvSST {n : Nat} {u : Value} {y : DataW H × List MemPlace} (h : DataW.trod enc Try.prog w 0 (fun _ => true) true n 23 [u] = some y) (hz : ∀ b off, MemPlace.cell b off ∈ y.2 → w.frozen? ⟨b, off, none⟩ = false) :
    ∃ xs, EvSV w (fun b => b < w.heap.size) (fun b => b < w.heap.size) (fun b => b < w.heap.size) u xs :=
  open_nst (EvsE (fun b => b < w.heap.size)) 1 (by omega) Try.underlying23 (show Try.prog.cellsOf 175 = 1 by kernel_rfl) (fun n cs x h hz hl => by
    obtain ⟨u, rfl⟩ := len1 hl
    obtain ⟨xs, hx⟩ := open_EvsT h hz
    obtain ⟨A, c, rfl, k1, k2, -⟩ := hx.shape
    exact ⟨xs, A, c, rfl, hx, k1, k2⟩) h hz
set_option maxRecDepth 100000 in
theorem dec_Norm (n : Nat) (cs : List Value) (x : DataW H × List MemPlace) (h : DataW.trod enc Try.prog w 0 (fun _ => true) true n 173 cs = some x) (hz : ∀ b off, MemPlace.cell b off ∈ x.2 → w.frozen? ⟨b, off, none⟩ = false) (hl : cs.length = 3) :
    ∃ y, NormE (fun b => b < w.heap.size) (fun b => b < w.heap.size) (fun b => b < w.heap.size) w cs y := by
  obtain ⟨a0, a1, a2, rfl⟩ := len3 hl
  obtain ⟨z0, e0, i0⟩ := struct_int Try.underlying173 h (i := 0) rfl Try.underlying2 int1
  obtain ⟨z1, e1, i1⟩ := struct_int Try.underlying173 h (i := 1) rfl Try.underlying2 int1
  obtain ⟨m2, y2, h2, hz2⟩ := struct_subz Try.underlying173 h hz (i := 2) rfl
  obtain ⟨xs, hx⟩ := open_IntSST (u := a2) (by simpa [show Try.prog.cellsOf 34 = 1 by kernel_rfl] using h2) hz2
  simp at e0 e1
  subst e0 e1
  obtain ⟨A, c, rfl, k1, k2, -⟩ := hx.shape
  exact ⟨⟨z0, z1, xs⟩, A, c, rfl, hx, ⟨k1, k2⟩, i0, i1⟩
theorem open_NormsT {n : Nat} {u : Value} {y : DataW H × List MemPlace} (h : DataW.trod enc Try.prog w 0 (fun _ => true) true n 22 [u] = some y) (hz : ∀ b off, MemPlace.cell b off ∈ y.2 → w.frozen? ⟨b, off, none⟩ = false) :
    ∃ xs, NormSV w (fun b => b < w.heap.size) (fun b => b < w.heap.size) (fun b => b < w.heap.size) u xs :=
  open_nst (NormE (fun b => b < w.heap.size) (fun b => b < w.heap.size) (fun b => b < w.heap.size)) 3 (by omega) Try.underlying22 (show Try.prog.cellsOf 173 = 3 by kernel_rfl) (fun n cs x h hz hl => dec_Norm n cs x h hz hl) h hz
end
/-- a proof, as an argument -/
def ProofA (w : World) (S : Nat → Prop) (v : Value) (p : ProofM) : Prop := ProofV w S S S v p
theorem ProofA.up {w w' : World} {S : Nat → Prop} {v : Value} {p : ProofM} (h : ProofA w S v p) (g : Up w w') : ProofA w' S v p := ProofV.up h g
def szP (p : ProofM) : Nat := szF (fun x => szF List.length x.fs) p.forms + szF List.length p.sts
theorem openProof {w : World} {S : Nat → Prop} {v : Value} {p : ProofM} (h : ProofA w S v p) : ∃ A c Z z, v = .agg #[.slice A p.forms.length c, .slice Z p.sts.length z] ∧ ProofA w S v p :=
  let ⟨A, c, Z, z, he, hr⟩ := h; ⟨A, c, Z, z, he, A, c, Z, z, he, hr⟩
set_option maxRecDepth 100000 in
theorem open_FabricProof {H : Type} {enc : TypeId × Value → H} {w : World} {v : Value} {d : DataW H} {p : List MemPlace} {base : Nat}
    (hv : Value.okWide Try.prog w .any base 25 v) (h : DataW.Trod enc Try.prog w 0 (fun _ => true) true 25 v d p)
    (hz : ∀ b off, MemPlace.cell b off ∈ p → w.frozen? ⟨b, off, none⟩ = false) : ∃ r, ProofA w (fun b => b < w.heap.size) v r := by
  obtain ⟨v0, v1, y0, y1, n, rfl, -, rfl, h0, h1⟩ := Go.Joins.open_agg2 Try.underlying25 (by kernel_rfl) (show Try.prog.cellsOf 25 = 2 by kernel_rfl) hv h
  obtain ⟨fs, hf⟩ := open_NormsT h0 (fun b off hm => hz b off (by simp [hm]))
  obtain ⟨ss, hs⟩ := open_EvSST h1 (fun b off hm => hz b off (by simp [hm]))
  obtain ⟨A, c, rfl, k1, k2, -⟩ := hf.shape
  obtain ⟨Z, z, rfl, k3, k4, -⟩ := hs.shape
  exact ⟨⟨fs, ss⟩, A, c, Z, z, rfl, hf, hs, ⟨k1, k2⟩, ⟨k3, k4⟩⟩
end Go.Proofs.Ytjgdcjhmfbefdaa
set_option linter.unusedSimpArgs false
set_option linter.unusedVariables false
namespace Go.Proofs.Ytjgdcjhmfbefdaa
open Go.ChangeShapes Go.WideShapes Go.ChangeAt Go.RowKit
theorem szProofA_ok (w : World) (S : Nat → Prop) (v : Value) (p : ProofM) (k : Int) (hk : 0 ≤ k ∧ k ≤ 1048576) (hl : (szP p : Int) ≤ k) (h : ProofA w S v p) :
    Calls Try.prog 10 #[v, .int .i64 k] w fun e w' => e = .returned (.int .i64 (k - szP p)) ∧ Up w w' :=
  (szProof_ok w S S S v p k hk (by unfold szP at hl; omega) h).mono fun _ _ ⟨he, hg⟩ => ⟨he.trans (ret_int (by unfold szP; omega)), hg⟩
theorem szProofA_no (w : World) (S : Nat → Prop) (v : Value) (p : ProofM) (k : Int) (hk : 0 ≤ k ∧ k ≤ 1048576) (hl : k < (szP p : Int)) (h : ProofA w S v p) :
    Calls Try.prog 10 #[v, .int .i64 k] w fun e w' => e = .returned (.int .i64 (-1)) ∧ Up w w' :=
  szProof_no w S S S v p k hk (by unfold szP at hl; omega) h
theorem toProofA_any (w : World) (S : Nat → Prop) (v : Value) (p : ProofM) (hb : szP p ≤ 1048576) (h : ProofA w S v p) :
    Calls Try.prog 12 #[v] w fun e w' => ∃ u, e = .returned u ∧ ProofA w' (New w.heap.size w'.heap.size) u p ∧ Up w w' :=
  (toProof_any w S S S v p (by unfold szP at hb; omega) h).mono fun _ _ ⟨u, M, H, L, he, ha, hr, hg⟩ => ⟨u, he, hr.mono (fun b _ h => ha.1 b (.inl h)) (fun b _ h => ha.1 b (.inr (.inl h))) (fun b _ h => ha.1 b (.inr (.inr h))), hg⟩
theorem eqProofA_same (w : World) (S T : Nat → Prop) (v u : Value) (p : ProofM) (h : ProofA w S v p) (h2 : ProofA w T u p) :
    Calls Try.prog 14 #[v, u] w fun e w' => e = .returned (.bool true) ∧ Up w w' := eqProof_same w S S S T T T v u p h h2
theorem sSameProof_A (w : World) (S : Nat → Prop) (v : Value) (a : ProofM) (h : ProofA w S v a) (T : Nat → Prop) (u : Value) (b : ProofM) (h2 : ProofA w T u b) :
    Calls Try.prog 11 #[v, u] w fun e w' => e = .returned (.bool (sameP a b)) ∧ Up w w' := sSameProof_any w S S S T T T v u a b h h2
theorem pSameProof_A (w : World) (S : Nat → Prop) (v : Value) (a : ProofM) (h : ProofA w S v a) (T : Nat → Prop) (u : Value) (b : ProofM) (h2 : ProofA w T u b) :
    Calls Try.prog 13 #[v, u] w fun e w' => e = .returned (.bool (sameP a b)) ∧ Up w w' := pSameProof_any w S S S T T T v u a b h h2
end Go.Proofs.Ytjgdcjhmfbefdaa
namespace Go.Proofs.Ytjgdcjhmfbefdaa
open Go.ChangeShapes Go.WideShapes Go.ChangeAt Go.RowKit
theorem ProofA.keep {S T : Nat → Prop} {w w' : World} {v : Value} {p : ProofM} (h : ProofA w S v p) (g : Chg T w w') (hd : ∀ b, b < w.heap.size → S b → ¬ T b) : ProofA w' S v p :=
  ProofV.mono (ProofV.keep (ProofV.mono (M' := fun b => S b ∧ b < w.heap.size) (H' := fun b => S b ∧ b < w.heap.size) (L' := fun b => S b ∧ b < w.heap.size) h (fun b hb h => ⟨h, hb⟩) (fun b hb h => ⟨h, hb⟩) (fun b hb h => ⟨h, hb⟩)) g
    (fun b hb => by rcases hb with hb | hb | hb <;> exact hd b hb.2 hb.1)) (fun b _ h => h.1) (fun b _ h => h.1) (fun b _ h => h.1)
theorem sEventsOfProof_A (w : World) (S : Nat → Prop) (v : Value) (a : ProofM) (h : ProofA w S v a) :
    Calls Try.prog 28 #[v] w fun e w' => ∃ u, e = .returned (.tuple #[u, .int .i64 (eopM a).2]) ∧ Evs w' (New w.heap.size w'.heap.size) u (eopM a).1 ∧ Up w w' := sEop_any w S S S v a h
theorem pEventsOfProof_A (w : World) (S : Nat → Prop) (v : Value) (a : ProofM) (h : ProofA w S v a) :
    Calls Try.prog 29 #[v] w fun e w' => ∃ u, e = .returned (.tuple #[u, .int .i64 (eopM a).2]) ∧ Evs w' (New w.heap.size w'.heap.size) u (eopM a).1 ∧ Up w w' := iEop_any w S S S v a h
theorem markProofA_any (w : World) (S : Nat → Prop) (v : Value) (p : ProofM) (k : Int) (hk : 0 ≤ k) (hb : k + (cP p : Nat) ≤ 4611686018427387904) (h : ProofA w S v p) :
    Calls Try.prog 30 #[v, .int .i64 k] w fun e w' => e = .returned (.int .i64 (k + (cP p : Nat))) ∧ Chg S w w' :=
  (mkProof w w S S S v p k hk hb h (Kept.refl w)).mono fun _ _ ⟨he, hg, _⟩ => ⟨he, hg.mono fun _ _ hb => hb.elim id id⟩
theorem cntF_lin {α : Type} {f g : α → Nat} (a c : Nat) (h : ∀ x, f x ≤ a + c * g x) (xs : List α) : ∀ j, j ≤ xs.length → cntF f xs j ≤ a * j + c * cntF g xs j
  | 0, _ => by simp [cntF]
  | j + 1, hj => by
    have h1 := cntF_lin a c h xs j (by omega)
    have h2 := h (xs[j]'(by omega))
    rw [cntF_succ (show j < xs.length by omega), cntF_succ (show j < xs.length by omega), Nat.mul_add, Nat.mul_add]
    omega
theorem cP_le (p : ProofM) : cP p ≤ 6 * szP p := by
  have h1 := cntF_lin (f := cN) (g := fun x : NormM => szF List.length x.fs) 2 1 (fun x => by unfold cN cSS szF; omega) p.forms p.forms.length (Nat.le_refl _)
  have h2 := cntF_lin (f := cE) (g := List.length) 0 6 (fun x => by unfold cE; omega) p.sts p.sts.length (Nat.le_refl _)
  unfold cP cNS cES szP
  rw [show szF (fun x : NormM => szF List.length x.fs) p.forms = p.forms.length + cntF (fun x : NormM => szF List.length x.fs) p.forms p.forms.length from rfl, show szF List.length p.sts = p.sts.length + cntF List.length p.sts p.sts.length from rfl]
  omega
theorem eopM_len (p : ProofM) : (eopM p).1.length ≤ 2000 := by
  unfold eopM
  split
  · split
    · simp
    · split
      · assumption
      · simp
  · simp
end Go.Proofs.Ytjgdcjhmfbefdaa
namespace Go.Proofs.Ytjgdcjhmfbefdaa
open Go.ChangeShapes Go.WideShapes Go.ChangeAt Go.RowKit
namespace fnExactEventsOfProof
set_option linter.unusedVariables false in
set_option maxRecDepth 100000 in
set_option maxHeartbeats 8000000 in
theorem walk0 (w : World) (v0 : Value) (a0 : ProofM) (ha0 : ProofA w (fun b => b < w.heap.size) v0 a0)  (hbt : (szP a0 : Int) ≤ 1048576) :
    Calls Try.prog 7 #[v0] w fun e w' => e = .returned (.bool true) ∧ Below w.heap.size w w' := by
  have U0 := Lib.hid (Chg.refl Nowhere w)
  obtain ⟨A0, c0, Z0, z0, rfl, y0⟩ := openProof ha0
  have X0 := Lib.hid ha0
  clear ha0 y0
  have U_1 := Lib.hid (Chg.trans U0.out ((Chg.refl Nowhere w).alloc (.cells #[.slice A0 a0.forms.length c0, .slice Z0 a0.sts.length z0] 25)))
  clear U0
  have X0_2 := Lib.hid (X0.out.up ((Chg.refl Nowhere w).alloc (.cells #[.slice A0 a0.forms.length c0, .slice Z0 a0.sts.length z0] 25)))
  clear X0
  have q0_0_3 := (show (w.alloc (.cells #[.slice A0 a0.forms.length c0, .slice Z0 a0.sts.length z0] 25)).cell? ⟨w.heap.size, 0, none⟩ = some (.slice A0 a0.forms.length c0) from cell_new _ _ _ _)
  have q0_1_4 := (show (w.alloc (.cells #[.slice A0 a0.forms.length c0, .slice Z0 a0.sts.length z0] 25)).cell? ⟨w.heap.size, 1, none⟩ = some (.slice Z0 a0.sts.length z0) from cell_new _ _ _ _)
  have hbx5 : w.heap.size < (w.alloc (.cells #[.slice A0 a0.forms.length c0, .slice Z0 a0.sts.length z0] 25)).heap.size := by simp
  have hr0 : szP a0 ≤ 1048576 := by omega
  go_enter Try.func7, Try.ntmps7
  have hd0 : decide ((1048576 : Int) - szP a0 < 0) = false := decide_eq_false (by omega)
  go_wp2_with fail
  refine (szProofA_ok _ _ _ a0 (1048576) (by omega) (by omega) (X0_2.out.up (by repeat (first | exact Chg.refl _ _ | apply Chg.drew | apply Chg.drewN | refine Chg.alloc ?_ _)))).mono ?_
  rintro e w6 ⟨rfl, g1⟩
  have G1 := Lib.hid g1
  obtain ⟨hy6, hz6⟩ := up_pre (show Up (w.alloc (.cells #[.slice A0 a0.forms.length c0, .slice Z0 a0.sts.length z0] 25)) _ from (by repeat (first | exact Chg.refl _ _ | apply Chg.drew | apply Chg.drewN | refine Chg.alloc ?_ _))) G1.out
  clear g1
  have U_7 := Lib.hid (Chg.trans U_1.out (Chg.trans (by repeat (first | exact Chg.refl _ _ | apply Chg.drew | apply Chg.drewN | refine Chg.alloc ?_ _)) G1.out))
  clear U_1
  have X0_8 := Lib.hid (X0_2.out.up (Chg.trans (by repeat (first | exact Chg.refl _ _ | apply Chg.drew | apply Chg.drewN | refine Chg.alloc ?_ _)) G1.out))
  clear X0_2
  have q0_0_9 := Chg.cell (Chg.trans (by repeat (first | exact Chg.refl _ _ | apply Chg.drew | apply Chg.drewN | refine Chg.alloc ?_ _)) G1.out) q0_0_3 id
  clear q0_0_3
  have q0_1_10 := Chg.cell (Chg.trans (by repeat (first | exact Chg.refl _ _ | apply Chg.drew | apply Chg.drewN | refine Chg.alloc ?_ _)) G1.out) q0_1_4 id
  clear q0_1_4
  clear G1
  go_wp2_with fail
  refine (toProofA_any _ _ _ a0 (by omega) (X0_8.out.up (by repeat (first | exact Chg.refl _ _ | apply Chg.drew | apply Chg.drewN | refine Chg.alloc ?_ _)))).mono ?_
  rintro e w11 ⟨v11, rfl, k1, g1⟩
  have K1 := Lib.hid k1
  clear k1
  have G1 := Lib.hid g1
  obtain ⟨hy11, hz11⟩ := up_pre (show Up w6 _ from (by repeat (first | exact Chg.refl _ _ | apply Chg.drew | apply Chg.drewN | refine Chg.alloc ?_ _))) G1.out
  clear g1
  have U_12 := Lib.hid (Chg.trans U_7.out (Chg.trans (by repeat (first | exact Chg.refl _ _ | apply Chg.drew | apply Chg.drewN | refine Chg.alloc ?_ _)) G1.out))
  clear U_7
  have X0_13 := Lib.hid (X0_8.out.up (Chg.trans (by repeat (first | exact Chg.refl _ _ | apply Chg.drew | apply Chg.drewN | refine Chg.alloc ?_ _)) G1.out))
  clear X0_8
  have q0_0_14 := Chg.cell (Chg.trans (by repeat (first | exact Chg.refl _ _ | apply Chg.drew | apply Chg.drewN | refine Chg.alloc ?_ _)) G1.out) q0_0_9 id
  clear q0_0_9
  have q0_1_15 := Chg.cell (Chg.trans (by repeat (first | exact Chg.refl _ _ | apply Chg.drew | apply Chg.drewN | refine Chg.alloc ?_ _)) G1.out) q0_1_10 id
  clear q0_1_10
  clear G1
  have B0_16 := Lib.hid (K1.out)
  clear K1
  obtain ⟨As11, cs11, Zs11, zs11, rfl, ys11⟩ := openProof B0_16.out
  clear ys11
  go_wp2_with fail
  refine (sEventsOfProof_A _ _ _ a0 (B0_16.out.up (by repeat (first | exact Chg.refl _ _ | apply Chg.drew | apply Chg.drewN | refine Chg.alloc ?_ _)))).mono ?_
  rintro e w17 ⟨v17, rfl, k1, g1⟩
  obtain ⟨A17, c17, rfl, hl17, hc17, -⟩ := k1.shape
  have K1 := Lib.hid k1
  clear k1
  have G1 := Lib.hid g1
  obtain ⟨hy17, hz17⟩ := up_pre (show Up w11 _ from (by repeat (first | exact Chg.refl _ _ | apply Chg.drew | apply Chg.drewN | refine Chg.alloc ?_ _))) G1.out
  clear g1
  have U_18 := Lib.hid (Chg.trans U_12.out (Chg.trans (by repeat (first | exact Chg.refl _ _ | apply Chg.drew | apply Chg.drewN | refine Chg.alloc ?_ _)) G1.out))
  clear U_12
  have X0_19 := Lib.hid (X0_13.out.up (Chg.trans (by repeat (first | exact Chg.refl _ _ | apply Chg.drew | apply Chg.drewN | refine Chg.alloc ?_ _)) G1.out))
  clear X0_13
  have q0_0_20 := Chg.cell (Chg.trans (by repeat (first | exact Chg.refl _ _ | apply Chg.drew | apply Chg.drewN | refine Chg.alloc ?_ _)) G1.out) q0_0_14 id
  clear q0_0_14
  have q0_1_21 := Chg.cell (Chg.trans (by repeat (first | exact Chg.refl _ _ | apply Chg.drew | apply Chg.drewN | refine Chg.alloc ?_ _)) G1.out) q0_1_15 id
  clear q0_1_15
  have B0_22 := Lib.hid (B0_16.out.up (Chg.trans (by repeat (first | exact Chg.refl _ _ | apply Chg.drew | apply Chg.drewN | refine Chg.alloc ?_ _)) G1.out))
  clear B0_16
  clear G1
  have W0_23 := Lib.hid (K1.out)
  clear K1
  clear B0_22
  go_wp2_with fail
  refine (toProofA_any _ _ _ a0 (by omega) (X0_19.out.up (by repeat (first | exact Chg.refl _ _ | apply Chg.drew | apply Chg.drewN | refine Chg.alloc ?_ _)))).mono ?_
  rintro e w24 ⟨v24, rfl, k1, g1⟩
  have K1 := Lib.hid k1
  clear k1
  have G1 := Lib.hid g1
  obtain ⟨hy24, hz24⟩ := up_pre (show Up w17 _ from (by repeat (first | exact Chg.refl _ _ | apply Chg.drew | apply Chg.drewN | refine Chg.alloc ?_ _))) G1.out
  clear g1
  have U_25 := Lib.hid (Chg.trans U_18.out (Chg.trans (by repeat (first | exact Chg.refl _ _ | apply Chg.drew | apply Chg.drewN | refine Chg.alloc ?_ _)) G1.out))
  clear U_18
  have X0_26 := Lib.hid (X0_19.out.up (Chg.trans (by repeat (first | exact Chg.refl _ _ | apply Chg.drew | apply Chg.drewN | refine Chg.alloc ?_ _)) G1.out))
  clear X0_19
  have q0_0_27 := Chg.cell (Chg.trans (by repeat (first | exact Chg.refl _ _ | apply Chg.drew | apply Chg.drewN | refine Chg.alloc ?_ _)) G1.out) q0_0_20 id
  clear q0_0_20
  have q0_1_28 := Chg.cell (Chg.trans (by repeat (first | exact Chg.refl _ _ | apply Chg.drew | apply Chg.drewN | refine Chg.alloc ?_ _)) G1.out) q0_1_21 id
  clear q0_1_21
  have W0_29 := Lib.hid (W0_23.out.up (Chg.trans (by repeat (first | exact Chg.refl _ _ | apply Chg.drew | apply Chg.drewN | refine Chg.alloc ?_ _)) G1.out))
  clear W0_23
  clear G1
  have C0_30 := Lib.hid (K1.out)
  clear K1
  obtain ⟨As24, cs24, Zs24, zs24, rfl, ys24⟩ := openProof C0_30.out
  clear ys24
  go_wp2_with fail
  refine (pEventsOfProof_A _ _ _ a0 (C0_30.out.up (by repeat (first | exact Chg.refl _ _ | apply Chg.drew | apply Chg.drewN | refine Chg.alloc ?_ _)))).mono ?_
  rintro e w31 ⟨v31, rfl, k1, g1⟩
  obtain ⟨A31, c31, rfl, hl31, hc31, -⟩ := k1.shape
  have K1 := Lib.hid k1
  clear k1
  have G1 := Lib.hid g1
  obtain ⟨hy31, hz31⟩ := up_pre (show Up w24 _ from (by repeat (first | exact Chg.refl _ _ | apply Chg.drew | apply Chg.drewN | refine Chg.alloc ?_ _))) G1.out
  clear g1
  have U_32 := Lib.hid (Chg.trans U_25.out (Chg.trans (by repeat (first | exact Chg.refl _ _ | apply Chg.drew | apply Chg.drewN | refine Chg.alloc ?_ _)) G1.out))
  clear U_25
  have X0_33 := Lib.hid (X0_26.out.up (Chg.trans (by repeat (first | exact Chg.refl _ _ | apply Chg.drew | apply Chg.drewN | refine Chg.alloc ?_ _)) G1.out))
  clear X0_26
  have q0_0_34 := Chg.cell (Chg.trans (by repeat (first | exact Chg.refl _ _ | apply Chg.drew | apply Chg.drewN | refine Chg.alloc ?_ _)) G1.out) q0_0_27 id
  clear q0_0_27
  have q0_1_35 := Chg.cell (Chg.trans (by repeat (first | exact Chg.refl _ _ | apply Chg.drew | apply Chg.drewN | refine Chg.alloc ?_ _)) G1.out) q0_1_28 id
  clear q0_1_28
  have W0_36 := Lib.hid (W0_29.out.up (Chg.trans (by repeat (first | exact Chg.refl _ _ | apply Chg.drew | apply Chg.drewN | refine Chg.alloc ?_ _)) G1.out))
  clear W0_29
  have C0_37 := Lib.hid (C0_30.out.up (Chg.trans (by repeat (first | exact Chg.refl _ _ | apply Chg.drew | apply Chg.drewN | refine Chg.alloc ?_ _)) G1.out))
  clear C0_30
  obtain ⟨x0_0_38c, x0_0_38f⟩ := (show CellF w31 ⟨w24.heap.size, 0, none⟩ (.slice As24 a0.forms.length cs24) from CellF.up G1.out (by repeat (first | ((refine cellF_at ?_ rfl); (simp; done)) | refine CellF.up ((Chg.refl _ _).alloc _) ?_)))
  obtain ⟨x0_1_39c, x0_1_39f⟩ := (show CellF w31 ⟨w24.heap.size, 1, none⟩ (.slice Zs24 a0.sts.length zs24) from CellF.up G1.out (by repeat (first | ((refine cellF_at ?_ rfl); (simp; done)) | refine CellF.up ((Chg.refl _ _).alloc _) ?_)))
  clear G1
  have R0_40 := Lib.hid (K1.out)
  clear K1
  go_wp2_with fail
  refine (eqEvs _ _ _ _ _ ((eopM a0).1) (R0_40.out.up (by repeat (first | exact Chg.refl _ _ | apply Chg.drew | apply Chg.drewN | refine Chg.alloc ?_ _))) (W0_36.out.up (by repeat (first | exact Chg.refl _ _ | apply Chg.drew | apply Chg.drewN | refine Chg.alloc ?_ _)))).mono ?_
  rintro e w41 ⟨rfl, g1⟩
  have G1 := Lib.hid g1
  obtain ⟨hy41, hz41⟩ := up_pre (show Up w31 _ from (by repeat (first | exact Chg.refl _ _ | apply Chg.drew | apply Chg.drewN | refine Chg.alloc ?_ _))) G1.out
  clear g1
  have U_42 := Lib.hid (Chg.trans U_32.out (Chg.trans (by repeat (first | exact Chg.refl _ _ | apply Chg.drew | apply Chg.drewN | refine Chg.alloc ?_ _)) G1.out))
  clear U_32
  have X0_43 := Lib.hid (X0_33.out.up (Chg.trans (by repeat (first | exact Chg.refl _ _ | apply Chg.drew | apply Chg.drewN | refine Chg.alloc ?_ _)) G1.out))
  clear X0_33
  have q0_0_44 := Chg.cell (Chg.trans (by repeat (first | exact Chg.refl _ _ | apply Chg.drew | apply Chg.drewN | refine Chg.alloc ?_ _)) G1.out) q0_0_34 id
  clear q0_0_34
  have q0_1_45 := Chg.cell (Chg.trans (by repeat (first | exact Chg.refl _ _ | apply Chg.drew | apply Chg.drewN | refine Chg.alloc ?_ _)) G1.out) q0_1_35 id
  clear q0_1_35
  have W0_46 := Lib.hid (W0_36.out.up (Chg.trans (by repeat (first | exact Chg.refl _ _ | apply Chg.drew | apply Chg.drewN | refine Chg.alloc ?_ _)) G1.out))
  clear W0_36
  have C0_47 := Lib.hid (C0_37.out.up (Chg.trans (by repeat (first | exact Chg.refl _ _ | apply Chg.drew | apply Chg.drewN | refine Chg.alloc ?_ _)) G1.out))
  clear C0_37
  obtain ⟨x0_0_48c, x0_0_48f⟩ := CellF.up (Chg.trans (by repeat (first | exact Chg.refl _ _ | apply Chg.drew | apply Chg.drewN | refine Chg.alloc ?_ _)) G1.out) ⟨x0_0_38c, x0_0_38f⟩
  clear x0_0_38c x0_0_38f
  obtain ⟨x0_1_49c, x0_1_49f⟩ := CellF.up (Chg.trans (by repeat (first | exact Chg.refl _ _ | apply Chg.drew | apply Chg.drewN | refine Chg.alloc ?_ _)) G1.out) ⟨x0_1_39c, x0_1_39f⟩
  clear x0_1_39c x0_1_39f
  have R0_50 := Lib.hid (R0_40.out.up (Chg.trans (by repeat (first | exact Chg.refl _ _ | apply Chg.drew | apply Chg.drewN | refine Chg.alloc ?_ _)) G1.out))
  clear R0_40
  clear G1
  go_wp2
  go_region_held3 (fun w' => w'.cell? ⟨w.heap.size, 0, none⟩ = some (.slice A0 a0.forms.length c0) ∧ w'.cell? ⟨w.heap.size, 1, none⟩ = some (.slice Z0 a0.sts.length z0) ∧ w'.cell? ⟨w24.heap.size, 0, none⟩ = some (.slice As24 a0.forms.length cs24) ∧ w'.cell? ⟨w24.heap.size, 1, none⟩ = some (.slice Zs24 a0.sts.length zs24))
      (first | (exact ⟨q0_0_44, q0_1_45, x0_0_48c, x0_1_49c⟩) | (obtain ⟨p0, p1, p2, p3⟩ : (World.cell? _ _ = _ ∧ World.cell? _ _ = _ ∧ World.cell? _ _ = _ ∧ World.cell? _ _ = _) := (by assumption); exact ⟨Chg.cell g1 p0 id, Chg.cell g1 p1 id, Chg.cell g1 p2 id, Chg.cell g1 p3 id⟩))
      (first | (go_at_call 12; refine (toProofA_any _ _ _ a0 (by omega) (X0_43.out.up (by repeat (first | exact Chg.refl _ _ | apply Chg.drew | apply Chg.drewN | refine Chg.alloc ?_ _)))).mono ?_; rintro e w51 ⟨v51, rfl, k1, g1⟩; obtain ⟨As51, cs51, Zs51, zs51, rfl, ys51⟩ := openProof k1; have K1 := Lib.hid k1; clear k1 ys51; have G1 := Lib.hid g1; obtain ⟨hy51, hz51⟩ := up_pre (show Up w41 _ from (by repeat (first | exact Chg.refl _ _ | apply Chg.drew | apply Chg.drewN | refine Chg.alloc ?_ _))) G1.out; have U_53 := Lib.hid (Chg.trans U_42.out (Chg.trans (by repeat (first | exact Chg.refl _ _ | apply Chg.drew | apply Chg.drewN | refine Chg.alloc ?_ _)) G1.out)); have X0_54 := Lib.hid (X0_43.out.up (Chg.trans (by repeat (first | exact Chg.refl _ _ | apply Chg.drew | apply Chg.drewN | refine Chg.alloc ?_ _)) G1.out)); have W0_55 := Lib.hid (W0_46.out.up (Chg.trans (by repeat (first | exact Chg.refl _ _ | apply Chg.drew | apply Chg.drewN | refine Chg.alloc ?_ _)) G1.out)); have C0_56 := Lib.hid (C0_47.out.up (Chg.trans (by repeat (first | exact Chg.refl _ _ | apply Chg.drew | apply Chg.drewN | refine Chg.alloc ?_ _)) G1.out)); have R0_57 := Lib.hid (R0_50.out.up (Chg.trans (by repeat (first | exact Chg.refl _ _ | apply Chg.drew | apply Chg.drewN | refine Chg.alloc ?_ _)) G1.out))) | (go_at_call 14; refine (eqProofA_same _ _ _ _ _ a0 (C0_56.out.up (by repeat (first | exact Chg.refl _ _ | apply Chg.drew | apply Chg.drewN | refine Chg.alloc ?_ _))) (K1.out.up (by repeat (first | exact Chg.refl _ _ | apply Chg.drew | apply Chg.drewN | refine Chg.alloc ?_ _)))).mono ?_; rintro e w52 ⟨rfl, g1⟩; have G2 := Lib.hid g1; obtain ⟨hy52, hz52⟩ := up_pre (show Up w51 _ from (by repeat (first | exact Chg.refl _ _ | apply Chg.drew | apply Chg.drewN | refine Chg.alloc ?_ _))) G2.out; have U_58 := Lib.hid (Chg.trans U_53.out (Chg.trans (by repeat (first | exact Chg.refl _ _ | apply Chg.drew | apply Chg.drewN | refine Chg.alloc ?_ _)) G2.out)); have X0_59 := Lib.hid (X0_54.out.up (Chg.trans (by repeat (first | exact Chg.refl _ _ | apply Chg.drew | apply Chg.drewN | refine Chg.alloc ?_ _)) G2.out)); have W0_60 := Lib.hid (W0_55.out.up (Chg.trans (by repeat (first | exact Chg.refl _ _ | apply Chg.drew | apply Chg.drewN | refine Chg.alloc ?_ _)) G2.out)); have C0_61 := Lib.hid (C0_56.out.up (Chg.trans (by repeat (first | exact Chg.refl _ _ | apply Chg.drew | apply Chg.drewN | refine Chg.alloc ?_ _)) G2.out)); have R0_62 := Lib.hid (R0_57.out.up (Chg.trans (by repeat (first | exact Chg.refl _ _ | apply Chg.drew | apply Chg.drewN | refine Chg.alloc ?_ _)) G2.out))))
  have q0_0_63 := Chg.cell (Chg.trans (Chg.trans (by repeat (first | exact Chg.refl _ _ | apply Chg.drew | apply Chg.drewN | refine Chg.alloc ?_ _)) G1.out) (Chg.trans (by repeat (first | exact Chg.refl _ _ | apply Chg.drew | apply Chg.drewN | refine Chg.alloc ?_ _)) G2.out)) q0_0_44 id
  have q0_1_64 := Chg.cell (Chg.trans (Chg.trans (by repeat (first | exact Chg.refl _ _ | apply Chg.drew | apply Chg.drewN | refine Chg.alloc ?_ _)) G1.out) (Chg.trans (by repeat (first | exact Chg.refl _ _ | apply Chg.drew | apply Chg.drewN | refine Chg.alloc ?_ _)) G2.out)) q0_1_45 id
  obtain ⟨x0_0_65c, x0_0_65f⟩ := CellF.up (Chg.trans (Chg.trans (by repeat (first | exact Chg.refl _ _ | apply Chg.drew | apply Chg.drewN | refine Chg.alloc ?_ _)) G1.out) (Chg.trans (by repeat (first | exact Chg.refl _ _ | apply Chg.drew | apply Chg.drewN | refine Chg.alloc ?_ _)) G2.out)) ⟨x0_0_48c, x0_0_48f⟩
  obtain ⟨x0_1_66c, x0_1_66f⟩ := CellF.up (Chg.trans (Chg.trans (by repeat (first | exact Chg.refl _ _ | apply Chg.drew | apply Chg.drewN | refine Chg.alloc ?_ _)) G1.out) (Chg.trans (by repeat (first | exact Chg.refl _ _ | apply Chg.drew | apply Chg.drewN | refine Chg.alloc ?_ _)) G2.out)) ⟨x0_1_49c, x0_1_49f⟩
  clear g1 G1 G2 K1
  clear U_42
  clear X0_43
  clear q0_0_44
  clear q0_1_45
  clear W0_46
  clear C0_47
  clear x0_0_48c x0_0_48f
  clear x0_1_49c x0_1_49f
  clear R0_50
  clear U_53
  clear X0_54
  clear W0_55
  clear C0_56
  clear R0_57
  have hp0 : (0 : Int) ≤ (1 : Int) := by omega
  have hr0' : cP a0 ≤ 8388608 := by have := cP_le a0; omega
  have hq0 : (1 : Int) + cP a0 ≤ 4611686018427387904 := by omega
  go_wp2_with fail
  refine (markProofA_any _ _ _ a0 ((1 : Int)) hp0 hq0 (C0_61.out.up (by repeat (first | exact Chg.refl _ _ | apply Chg.drew | apply Chg.drewN | refine Chg.alloc ?_ _)))).mono ?_
  rintro e w67 ⟨rfl, g1⟩
  have G1 := Lib.hid g1
  obtain ⟨hy67, hz67⟩ := up_pre (show Up w52 _ from (by repeat (first | exact Chg.refl _ _ | apply Chg.drew | apply Chg.drewN | refine Chg.alloc ?_ _))) G1.out
  clear g1
  clear C0_61
  clear x0_0_65c x0_0_65f
  clear x0_1_66c x0_1_66f
  have U_68 := Lib.hid (Chg.new (Chg.trans U_58.out (by repeat (first | exact Chg.refl _ _ | apply Chg.drew | apply Chg.drewN | refine Chg.alloc ?_ _))) G1.out (fun i hi h2 => by simp only [New] at h2; first | omega | (simp at h2; omega)))
  clear U_58
  have X0_69 := Lib.hid ((X0_59.out.up (by repeat (first | exact Chg.refl _ _ | apply Chg.drew | apply Chg.drewN | refine Chg.alloc ?_ _))).keep G1.out (fun b hb h1 h2 => by simp only [New] at h1 h2; first | omega | (simp at h1 h2; omega)))
  clear X0_59
  have W0_70 := Lib.hid ((W0_60.out.up (by repeat (first | exact Chg.refl _ _ | apply Chg.drew | apply Chg.drewN | refine Chg.alloc ?_ _))).keep G1.out (fun b hb h1 h2 => by simp only [New] at h1 h2; first | omega | (simp at h1 h2; omega)))
  clear W0_60
  have R0_71 := Lib.hid ((R0_62.out.up (by repeat (first | exact Chg.refl _ _ | apply Chg.drew | apply Chg.drewN | refine Chg.alloc ?_ _))).keep G1.out (fun b hb h1 h2 => by simp only [New] at h1 h2; first | omega | (simp at h1 h2; omega)))
  clear R0_62
  have q0_0_72 := Chg.cell G1.out (Chg.cell (S := Nowhere) (by repeat (first | exact Chg.refl _ _ | apply Chg.drew | apply Chg.drewN | refine Chg.alloc ?_ _)) q0_0_63 id) (fun h2 => by simp only [New] at h2; first | omega | (simp at h2; omega))
  clear q0_0_63
  have q0_1_73 := Chg.cell G1.out (Chg.cell (S := Nowhere) (by repeat (first | exact Chg.refl _ _ | apply Chg.drew | apply Chg.drewN | refine Chg.alloc ?_ _)) q0_1_64 id) (fun h2 => by simp only [New] at h2; first | omega | (simp at h2; omega))
  clear q0_1_64
  clear G1
  have hneg : decide (((1 : Int) + cP a0 : Int) < 0) = false := decide_eq_false (by omega)
  go_wp2_with fail
  refine (eqEvs _ _ _ _ _ ((eopM a0).1) (R0_71.out.up (by repeat (first | exact Chg.refl _ _ | apply Chg.drew | apply Chg.drewN | refine Chg.alloc ?_ _))) (W0_70.out.up (by repeat (first | exact Chg.refl _ _ | apply Chg.drew | apply Chg.drewN | refine Chg.alloc ?_ _)))).mono ?_
  rintro e w74 ⟨rfl, g1⟩
  have G1 := Lib.hid g1
  obtain ⟨hy74, hz74⟩ := up_pre (show Up w67 _ from (by repeat (first | exact Chg.refl _ _ | apply Chg.drew | apply Chg.drewN | refine Chg.alloc ?_ _))) G1.out
  clear g1
  have U_75 := Lib.hid (Chg.trans U_68.out (Chg.trans (by repeat (first | exact Chg.refl _ _ | apply Chg.drew | apply Chg.drewN | refine Chg.alloc ?_ _)) G1.out))
  clear U_68
  have X0_76 := Lib.hid (X0_69.out.up (Chg.trans (by repeat (first | exact Chg.refl _ _ | apply Chg.drew | apply Chg.drewN | refine Chg.alloc ?_ _)) G1.out))
  clear X0_69
  have W0_77 := Lib.hid (W0_70.out.up (Chg.trans (by repeat (first | exact Chg.refl _ _ | apply Chg.drew | apply Chg.drewN | refine Chg.alloc ?_ _)) G1.out))
  clear W0_70
  have R0_78 := Lib.hid (R0_71.out.up (Chg.trans (by repeat (first | exact Chg.refl _ _ | apply Chg.drew | apply Chg.drewN | refine Chg.alloc ?_ _)) G1.out))
  clear R0_71
  have q0_0_79 := Chg.cell (Chg.trans (by repeat (first | exact Chg.refl _ _ | apply Chg.drew | apply Chg.drewN | refine Chg.alloc ?_ _)) G1.out) q0_0_72 id
  clear q0_0_72
  have q0_1_80 := Chg.cell (Chg.trans (by repeat (first | exact Chg.refl _ _ | apply Chg.drew | apply Chg.drewN | refine Chg.alloc ?_ _)) G1.out) q0_1_73 id
  clear q0_1_73
  clear G1
  clear hneg
  have HR := Lib.hid (show cntEvs (eopM a0).1 ≤ 9000000 by have := eopM_len a0; unfold cntEvs; omega)
  have hr1_0 : (0 : Int) ≤ 1 := by omega
  have hr2_0 : (1 : Int) + cntEvs ((eopM a0).1) ≤ 4611686018427387904 := by have := HR.out; omega
  go_wp2_with fail
  refine (markEvs _ _ _ ((eopM a0).1) (1) hr1_0 hr2_0 (R0_78.out.up (by repeat (first | exact Chg.refl _ _ | apply Chg.drew | apply Chg.drewN | refine Chg.alloc ?_ _)))).mono ?_
  rintro e w81 ⟨rfl, g1, k1⟩
  have G1 := Lib.hid g1
  obtain ⟨hy81, hz81⟩ := up_pre (show Up w74 _ from (by repeat (first | exact Chg.refl _ _ | apply Chg.drew | apply Chg.drewN | refine Chg.alloc ?_ _))) G1.out
  have K1 := Lib.hid k1
  clear g1 k1
  clear R0_78
  have U_82 := Lib.hid (Chg.new (Chg.trans U_75.out (by repeat (first | exact Chg.refl _ _ | apply Chg.drew | apply Chg.drewN | refine Chg.alloc ?_ _))) G1.out (fun i hi h2 => by simp only [New] at h2; first | omega | (simp at h2; omega)))
  clear U_75
  have X0_83 := Lib.hid ((X0_76.out.up (by repeat (first | exact Chg.refl _ _ | apply Chg.drew | apply Chg.drewN | refine Chg.alloc ?_ _))).keep G1.out (fun b hb h1 h2 => by simp only [New] at h1 h2; first | omega | (simp at h1 h2; omega)))
  clear X0_76
  have W0_84 := Lib.hid ((W0_77.out.up (by repeat (first | exact Chg.refl _ _ | apply Chg.drew | apply Chg.drewN | refine Chg.alloc ?_ _))).keep G1.out (fun b hb h1 h2 => by simp only [New] at h1 h2; first | omega | (simp at h1 h2; omega)))
  clear W0_77
  have q0_0_85 := Chg.cell G1.out (Chg.cell (S := Nowhere) (by repeat (first | exact Chg.refl _ _ | apply Chg.drew | apply Chg.drewN | refine Chg.alloc ?_ _)) q0_0_79 id) (fun h2 => by simp only [New] at h2; first | omega | (simp at h2; omega))
  clear q0_0_79
  have q0_1_86 := Chg.cell G1.out (Chg.cell (S := Nowhere) (by repeat (first | exact Chg.refl _ _ | apply Chg.drew | apply Chg.drewN | refine Chg.alloc ?_ _)) q0_1_80 id) (fun h2 => by simp only [New] at h2; first | omega | (simp at h2; omega))
  clear q0_1_80
  clear G1
  have M0_87 := Lib.hid (K1.out)
  clear K1
  have hneg0 : decide ((1 : Int) + cntEvs ((eopM a0).1) < 0) = false := decide_eq_false (by omega)
  go_wp2_with fail
  refine (heldEvs _ _ _ ((eopM a0).1) (1) hr1_0 hr2_0 (M0_87.out.up (by repeat (first | exact Chg.refl _ _ | apply Chg.drew | apply Chg.drewN | refine Chg.alloc ?_ _)))).mono ?_
  rintro e w88 ⟨rfl, g1⟩
  have G1 := Lib.hid g1
  obtain ⟨hy88, hz88⟩ := up_pre (show Up w81 _ from (by repeat (first | exact Chg.refl _ _ | apply Chg.drew | apply Chg.drewN | refine Chg.alloc ?_ _))) G1.out
  clear g1
  have U_89 := Lib.hid (Chg.trans U_82.out (Chg.trans (by repeat (first | exact Chg.refl _ _ | apply Chg.drew | apply Chg.drewN | refine Chg.alloc ?_ _)) G1.out))
  clear U_82
  have X0_90 := Lib.hid (X0_83.out.up (Chg.trans (by repeat (first | exact Chg.refl _ _ | apply Chg.drew | apply Chg.drewN | refine Chg.alloc ?_ _)) G1.out))
  clear X0_83
  have W0_91 := Lib.hid (W0_84.out.up (Chg.trans (by repeat (first | exact Chg.refl _ _ | apply Chg.drew | apply Chg.drewN | refine Chg.alloc ?_ _)) G1.out))
  clear W0_84
  have q0_0_92 := Chg.cell (Chg.trans (by repeat (first | exact Chg.refl _ _ | apply Chg.drew | apply Chg.drewN | refine Chg.alloc ?_ _)) G1.out) q0_0_85 id
  clear q0_0_85
  have q0_1_93 := Chg.cell (Chg.trans (by repeat (first | exact Chg.refl _ _ | apply Chg.drew | apply Chg.drewN | refine Chg.alloc ?_ _)) G1.out) q0_1_86 id
  clear q0_1_86
  have M0_94 := Lib.hid (M0_87.out.up (Chg.trans (by repeat (first | exact Chg.refl _ _ | apply Chg.drew | apply Chg.drewN | refine Chg.alloc ?_ _)) G1.out))
  clear M0_87
  clear G1
  go_wp2_with fail
  refine (toProofA_any _ _ _ a0 (by omega) (X0_90.out.up (by repeat (first | exact Chg.refl _ _ | apply Chg.drew | apply Chg.drewN | refine Chg.alloc ?_ _)))).mono ?_
  rintro e w95 ⟨v95, rfl, k1, g1⟩
  have K1 := Lib.hid k1
  clear k1
  have G1 := Lib.hid g1
  obtain ⟨hy95, hz95⟩ := up_pre (show Up w88 _ from (by repeat (first | exact Chg.refl _ _ | apply Chg.drew | apply Chg.drewN | refine Chg.alloc ?_ _))) G1.out
  clear g1
  have U_96 := Lib.hid (Chg.trans U_89.out (Chg.trans (by repeat (first | exact Chg.refl _ _ | apply Chg.drew | apply Chg.drewN | refine Chg.alloc ?_ _)) G1.out))
  clear U_89
  have X0_97 := Lib.hid (X0_90.out.up (Chg.trans (by repeat (first | exact Chg.refl _ _ | apply Chg.drew | apply Chg.drewN | refine Chg.alloc ?_ _)) G1.out))
  clear X0_90
  have W0_98 := Lib.hid (W0_91.out.up (Chg.trans (by repeat (first | exact Chg.refl _ _ | apply Chg.drew | apply Chg.drewN | refine Chg.alloc ?_ _)) G1.out))
  clear W0_91
  have q0_0_99 := Chg.cell (Chg.trans (by repeat (first | exact Chg.refl _ _ | apply Chg.drew | apply Chg.drewN | refine Chg.alloc ?_ _)) G1.out) q0_0_92 id
  clear q0_0_92
  have q0_1_100 := Chg.cell (Chg.trans (by repeat (first | exact Chg.refl _ _ | apply Chg.drew | apply Chg.drewN | refine Chg.alloc ?_ _)) G1.out) q0_1_93 id
  clear q0_1_93
  have M0_101 := Lib.hid (M0_94.out.up (Chg.trans (by repeat (first | exact Chg.refl _ _ | apply Chg.drew | apply Chg.drewN | refine Chg.alloc ?_ _)) G1.out))
  clear M0_94
  clear G1
  have E0_102 := Lib.hid (K1.out)
  clear K1
  obtain ⟨As95, cs95, Zs95, zs95, rfl, ys95⟩ := openProof E0_102.out
  clear ys95
  go_wp2_with fail
  refine (pEventsOfProof_A _ _ _ a0 (E0_102.out.up (by repeat (first | exact Chg.refl _ _ | apply Chg.drew | apply Chg.drewN | refine Chg.alloc ?_ _)))).mono ?_
  rintro e w103 ⟨v103, rfl, k1, g1⟩
  obtain ⟨A103, c103, rfl, hl103, hc103, -⟩ := k1.shape
  have K1 := Lib.hid k1
  clear k1
  have G1 := Lib.hid g1
  obtain ⟨hy103, hz103⟩ := up_pre (show Up w95 _ from (by repeat (first | exact Chg.refl _ _ | apply Chg.drew | apply Chg.drewN | refine Chg.alloc ?_ _))) G1.out
  clear g1
  have U_104 := Lib.hid (Chg.trans U_96.out (Chg.trans (by repeat (first | exact Chg.refl _ _ | apply Chg.drew | apply Chg.drewN | refine Chg.alloc ?_ _)) G1.out))
  clear U_96
  have X0_105 := Lib.hid (X0_97.out.up (Chg.trans (by repeat (first | exact Chg.refl _ _ | apply Chg.drew | apply Chg.drewN | refine Chg.alloc ?_ _)) G1.out))
  clear X0_97
  have W0_106 := Lib.hid (W0_98.out.up (Chg.trans (by repeat (first | exact Chg.refl _ _ | apply Chg.drew | apply Chg.drewN | refine Chg.alloc ?_ _)) G1.out))
  clear W0_98
  have q0_0_107 := Chg.cell (Chg.trans (by repeat (first | exact Chg.refl _ _ | apply Chg.drew | apply Chg.drewN | refine Chg.alloc ?_ _)) G1.out) q0_0_99 id
  clear q0_0_99
  have q0_1_108 := Chg.cell (Chg.trans (by repeat (first | exact Chg.refl _ _ | apply Chg.drew | apply Chg.drewN | refine Chg.alloc ?_ _)) G1.out) q0_1_100 id
  clear q0_1_100
  have M0_109 := Lib.hid (M0_101.out.up (Chg.trans (by repeat (first | exact Chg.refl _ _ | apply Chg.drew | apply Chg.drewN | refine Chg.alloc ?_ _)) G1.out))
  clear M0_101
  have E0_110 := Lib.hid (E0_102.out.up (Chg.trans (by repeat (first | exact Chg.refl _ _ | apply Chg.drew | apply Chg.drewN | refine Chg.alloc ?_ _)) G1.out))
  clear E0_102
  clear G1
  have H0_111 := Lib.hid (K1.out)
  clear K1
  go_wp2_with fail
  refine (eqEvs _ _ _ _ _ ((eopM a0).1) (H0_111.out.up (by repeat (first | exact Chg.refl _ _ | apply Chg.drew | apply Chg.drewN | refine Chg.alloc ?_ _))) (W0_106.out.up (by repeat (first | exact Chg.refl _ _ | apply Chg.drew | apply Chg.drewN | refine Chg.alloc ?_ _)))).mono ?_
  rintro e w112 ⟨rfl, g1⟩
  have G1 := Lib.hid g1
  obtain ⟨hy112, hz112⟩ := up_pre (show Up w103 _ from (by repeat (first | exact Chg.refl _ _ | apply Chg.drew | apply Chg.drewN | refine Chg.alloc ?_ _))) G1.out
  clear g1
  have U_113 := Lib.hid (Chg.trans U_104.out (Chg.trans (by repeat (first | exact Chg.refl _ _ | apply Chg.drew | apply Chg.drewN | refine Chg.alloc ?_ _)) G1.out))
  clear U_104
  have X0_114 := Lib.hid (X0_105.out.up (Chg.trans (by repeat (first | exact Chg.refl _ _ | apply Chg.drew | apply Chg.drewN | refine Chg.alloc ?_ _)) G1.out))
  clear X0_105
  have W0_115 := Lib.hid (W0_106.out.up (Chg.trans (by repeat (first | exact Chg.refl _ _ | apply Chg.drew | apply Chg.drewN | refine Chg.alloc ?_ _)) G1.out))
  clear W0_106
  have q0_0_116 := Chg.cell (Chg.trans (by repeat (first | exact Chg.refl _ _ | apply Chg.drew | apply Chg.drewN | refine Chg.alloc ?_ _)) G1.out) q0_0_107 id
  clear q0_0_107
  have q0_1_117 := Chg.cell (Chg.trans (by repeat (first | exact Chg.refl _ _ | apply Chg.drew | apply Chg.drewN | refine Chg.alloc ?_ _)) G1.out) q0_1_108 id
  clear q0_1_108
  have M0_118 := Lib.hid (M0_109.out.up (Chg.trans (by repeat (first | exact Chg.refl _ _ | apply Chg.drew | apply Chg.drewN | refine Chg.alloc ?_ _)) G1.out))
  clear M0_109
  have E0_119 := Lib.hid (E0_110.out.up (Chg.trans (by repeat (first | exact Chg.refl _ _ | apply Chg.drew | apply Chg.drewN | refine Chg.alloc ?_ _)) G1.out))
  clear E0_110
  have H0_120 := Lib.hid (H0_111.out.up (Chg.trans (by repeat (first | exact Chg.refl _ _ | apply Chg.drew | apply Chg.drewN | refine Chg.alloc ?_ _)) G1.out))
  clear H0_111
  clear G1
  go_wp2_with fail
  refine (heldEvs _ _ _ ((eopM a0).1) (1) hr1_0 hr2_0 (M0_118.out.up (by repeat (first | exact Chg.refl _ _ | apply Chg.drew | apply Chg.drewN | refine Chg.alloc ?_ _)))).mono ?_
  rintro e w121 ⟨rfl, g1⟩
  have G1 := Lib.hid g1
  obtain ⟨hy121, hz121⟩ := up_pre (show Up w112 _ from (by repeat (first | exact Chg.refl _ _ | apply Chg.drew | apply Chg.drewN | refine Chg.alloc ?_ _))) G1.out
  clear g1
  have U_122 := Lib.hid (Chg.trans U_113.out (Chg.trans (by repeat (first | exact Chg.refl _ _ | apply Chg.drew | apply Chg.drewN | refine Chg.alloc ?_ _)) G1.out))
  clear U_113
  have X0_123 := Lib.hid (X0_114.out.up (Chg.trans (by repeat (first | exact Chg.refl _ _ | apply Chg.drew | apply Chg.drewN | refine Chg.alloc ?_ _)) G1.out))
  clear X0_114
  have W0_124 := Lib.hid (W0_115.out.up (Chg.trans (by repeat (first | exact Chg.refl _ _ | apply Chg.drew | apply Chg.drewN | refine Chg.alloc ?_ _)) G1.out))
  clear W0_115
  have q0_0_125 := Chg.cell (Chg.trans (by repeat (first | exact Chg.refl _ _ | apply Chg.drew | apply Chg.drewN | refine Chg.alloc ?_ _)) G1.out) q0_0_116 id
  clear q0_0_116
  have q0_1_126 := Chg.cell (Chg.trans (by repeat (first | exact Chg.refl _ _ | apply Chg.drew | apply Chg.drewN | refine Chg.alloc ?_ _)) G1.out) q0_1_117 id
  clear q0_1_117
  have M0_127 := Lib.hid (M0_118.out.up (Chg.trans (by repeat (first | exact Chg.refl _ _ | apply Chg.drew | apply Chg.drewN | refine Chg.alloc ?_ _)) G1.out))
  clear M0_118
  have E0_128 := Lib.hid (E0_119.out.up (Chg.trans (by repeat (first | exact Chg.refl _ _ | apply Chg.drew | apply Chg.drewN | refine Chg.alloc ?_ _)) G1.out))
  clear E0_119
  have H0_129 := Lib.hid (H0_120.out.up (Chg.trans (by repeat (first | exact Chg.refl _ _ | apply Chg.drew | apply Chg.drewN | refine Chg.alloc ?_ _)) G1.out))
  clear H0_120
  clear G1
  go_wp2
  go_ret
  exact ⟨rfl, Up.below (Chg.trans U_122.out (by repeat (first | exact Chg.refl _ _ | apply Chg.drew | apply Chg.drewN | refine Chg.alloc ?_ _)))⟩
set_option maxRecDepth 100000 in
theorem walk (w : World) (v0 : Value) (a0 : ProofM) (ha0 : ProofA w (fun b => b < w.heap.size) v0 a0) :
    Calls Try.prog 7 #[v0] w fun e w' => e = .returned (.bool true) ∧ Below w.heap.size w w' := by
  by_cases hbt : (szP a0 : Int) ≤ 1048576
  rotate_left
  · skip
    obtain ⟨A0, c0, Z0, z0, rfl, y0⟩ := openProof ha0
    have X0 := Lib.hid ha0
    clear ha0 y0
    have U0 := Lib.hid (Chg.refl Nowhere w)
    have hd : decide ((-1 : Int) < 0) = true := rfl
    have U_1 := Lib.hid (Chg.trans U0.out ((Chg.refl Nowhere w).alloc (.cells #[.slice A0 a0.forms.length c0, .slice Z0 a0.sts.length z0] 25)))
    clear U0
    have X_2 := Lib.hid (X0.out.up ((Chg.refl Nowhere w).alloc (.cells #[.slice A0 a0.forms.length c0, .slice Z0 a0.sts.length z0] 25)))
    clear X0
    have q0_3 := (show (w.alloc (.cells #[.slice A0 a0.forms.length c0, .slice Z0 a0.sts.length z0] 25)).cell? ⟨w.heap.size, 0, none⟩ = some (.slice A0 a0.forms.length c0) from cell_new _ _ _ _)
    have q1_4 := (show (w.alloc (.cells #[.slice A0 a0.forms.length c0, .slice Z0 a0.sts.length z0] 25)).cell? ⟨w.heap.size, 1, none⟩ = some (.slice Z0 a0.sts.length z0) from cell_new _ _ _ _)
    have hbx5 : w.heap.size < (w.alloc (.cells #[.slice A0 a0.forms.length c0, .slice Z0 a0.sts.length z0] 25)).heap.size := by simp
    go_enter Try.func7, Try.ntmps7
    go_wp2_with fail
    refine (szProofA_no _ _ _ a0 1048576 (by omega) (by omega) (X_2.out.up (by repeat (first | exact Chg.refl _ _ | apply Chg.drew | apply Chg.drewN | refine Chg.alloc ?_ _)))).mono ?_
    rintro e w6 ⟨rfl, g1⟩
    have G1 := Lib.hid g1
    have hz6 := G1.out.size
    clear g1
    have U_7 := Lib.hid (Chg.trans U_1.out (Chg.trans (by repeat (first | exact Chg.refl _ _ | apply Chg.drew | apply Chg.drewN | refine Chg.alloc ?_ _)) G1.out))
    clear U_1
    have X_8 := Lib.hid (X_2.out.up (Chg.trans (by repeat (first | exact Chg.refl _ _ | apply Chg.drew | apply Chg.drewN | refine Chg.alloc ?_ _)) G1.out))
    clear X_2
    have q0_9 := Chg.cell (Chg.trans (by repeat (first | exact Chg.refl _ _ | apply Chg.drew | apply Chg.drewN | refine Chg.alloc ?_ _)) G1.out) q0_3 id
    clear q0_3
    have q1_10 := Chg.cell (Chg.trans (by repeat (first | exact Chg.refl _ _ | apply Chg.drew | apply Chg.drewN | refine Chg.alloc ?_ _)) G1.out) q1_4 id
    clear q1_4
    clear G1
    go_wp2
    go_ret
    exact ⟨rfl, Up.below (Chg.trans U_7.out (by repeat (first | exact Chg.refl _ _ | apply Chg.drew | apply Chg.drewN | refine Chg.alloc ?_ _)))⟩
  exact walk0 w v0 a0 ha0 hbt
end fnExactEventsOfProof
end Go.Proofs.Ytjgdcjhmfbefdaa
