/- Arguments that are slices of records of whole numbers, as lists. No condition. Arguments that are structs with a slice of numbers. No condition. Arguments that are nested slices, and slices of structs with slices. No condition. Arguments that are proofs. No condition. The laws' helpers on nested slices. No condition. The laws' helpers on nested slices. No condition. Carriers as data: slices of them; the laws' own helpers on them: equal, marked, held. No condition but room for the numbers. The laws' own copies of slices of carriers, and their sizes. No condition but room. The laws' helpers on nested slices. No condition. -/
import Derived.Test.YtchfjglofmphfaaMoves
import Derived.Test.YtchfjglofmphfaaPD3
import Derived.Deep.Slices
import Derived.Deep.Fields
import Derived.ChangeSame
import Derived.Test.YtchfjglofmphfaaPD5
import Derived.Lib.SmallJoins
import Derived.Test.YtchfjglofmphfaaPD12
import Derived.Test.YtchfjglofmphfaaPD13
import Derived.Test.YtchfjglofmphfaaPD2
import Derived.Test.YtchfjglofmphfaaPD6
import Derived.StillTailTactics
import Derived.Laws.AppendOwnNone
import Derived.Test.YtchfjglofmphfaaPD9
namespace Go.Proofs.Ytchfjglofmphfaa
open Go.ChangeShapes Go.WideShapes Go.ChangeAt Go.RowKit Go.Deep
section
variable {H : Type} {enc : TypeId × Value → H} {P : Program} {w : World}
/-- from 'each of the first m elements reads as a record' to one list -/
theorem rows_of {α : Type} {Q : Nat → α → Prop} : ∀ (m : Nat), (∀ i, i < m → ∃ y, Q i y) → ∃ ys : List α, ys.length = m ∧ ∀ i (h : i < ys.length), Q i ys[i]
  | 0, _ => ⟨[], rfl, fun i h => absurd h (by simp)⟩
  | m + 1, h => by
    obtain ⟨ys, hl, hq⟩ := rows_of m (fun i hi => h i (by omega))
    obtain ⟨y, hy⟩ := h m (by omega)
    refine ⟨ys ++ [y], by simp [hl], fun i hi => ?_⟩
    by_cases e : i < ys.length
    · rw [List.getElem_append_left e]; exact hq i e
    · have hi' : i = m := by simp at hi; omega
      subst hi'
      rw [List.getElem_append_right (by omega)]
      simpa [hl] using hy
theorem open_rows {α : Type} (f : α → List Value) (k : Nat) (ok : α → Prop) (hf : ∀ x, (f x).length = k) {t e : TypeId} {v : Value} {d : DataW H} {p : List MemPlace} {base : Nat}
    (ht : P.underlying t = some (.slice e)) (hC : P.cellsOf e = k) (hv : Value.okWide P w .any base t v) (hk : 0 < k)
    (hdec : ∀ n cs x, DataW.trod enc P w 0 (fun _ => true) true n e cs = some x → ∃ y, cs = f y ∧ ok y)
    (h : DataW.Trod enc P w 0 (fun _ => true) true t v d p) (hz : ∀ b off, MemPlace.cell b off ∈ p → w.frozen? ⟨b, off, none⟩ = false) :
    ∃ xs : List α, Raw w (fun b => b < w.heap.size) k v xs.length (xs.flatMap f) ∧ ∀ x ∈ xs, ok x := by
  obtain ⟨a0, len, cap, rfl⟩ := okWide_slice ht hv
  obtain ⟨fuel, hfu⟩ := h
  rcases open_slice ht hfu with ⟨hcs, hx⟩ | ⟨a, len', cap', m, n, D, Pl, hcs, _, hl, hm, hmm, hx, hi⟩
  · simp [Value.cells] at hcs
    obtain ⟨rfl, rfl, rfl⟩ := hcs
    exact ⟨[], Raw.nil _ _ _ _ _ (by omega) (by simp), by simp⟩
  · simp [Value.cells] at hcs
    obtain ⟨rfl, rfl, rfl⟩ := hcs
    simp at hmm
    rw [hC] at hi hx
    obtain ⟨ys, hyl, hy⟩ := rows_of (Q := fun i y => ok y ∧ ∀ j u, (f y)[j]? = some u → w.cell? (a.add (i * k + j)) = some u) len (fun i hil => by
      obtain ⟨cs', hc, htr⟩ := hi i (by omega)
      obtain ⟨y, rfl, hok⟩ := hdec _ _ _ htr
      obtain ⟨_, hcl, hat⟩ := World.cells?_some hc
      refine ⟨y, hok, fun j u hu => ?_⟩
      have hj : j < k := by
        obtain ⟨h1, _⟩ := List.getElem?_eq_some_iff.1 hu
        rw [hf] at h1; exact h1
      rw [← Go.Deep.add_add, hat j hj, hu])
    subst hyl
    unfold Go.maxLen at hm
    have hspot : 0 < ys.length → ∃ b o, a = ⟨b, o, none⟩ := fun hp => by
      obtain ⟨b, o, s⟩ := a
      have h0 := (hy 0 hp).2 0 _ (List.getElem?_eq_getElem (by rw [hf]; exact hk))
      have hs : s = none := by simpa [Addr.add] using World.cell?_spot h0
      subst hs
      exact ⟨b, o, rfl⟩
    refine ⟨ys, ⟨?_, some a, cap, rfl, hl, by omega, fun hp => ?_, by simp⟩, fun x hx => ?_⟩
    · exact flat_length f k hf ys
    · obtain ⟨b, o, rfl⟩ := hspot hp
      have h0 := (hy 0 hp).2 0 _ (List.getElem?_eq_getElem (by rw [hf]; exact hk))
      have hb : b < w.heap.size := by
        have := World.block_lt_of_cell? w _ h0
        simpa [Addr.add] using this
      refine ⟨b, o, rfl, hb, hb, fun q hq => ?_⟩
      have hlen := flat_length f k hf ys
      have hqk : q < ys.length * k := by omega
      have hdi : q / k < ys.length := Nat.div_lt_of_lt_mul (by rw [Nat.mul_comm]; exact hqk)
      have hmo : q % k < k := Nat.mod_lt _ hk
      have hde : q / k * k + q % k = q := by rw [Nat.mul_comm]; exact Nat.div_add_mod q k
      have hg := flat_get f k hf ys (q / k) hdi (q % k) hmo
      rw [hde] at hg
      have hcell := (hy (q / k) hdi).2 (q % k) _ (by rw [← hg]; exact List.getElem?_eq_getElem hq)
      rw [hde, Go.WideShapes.add_plain] at hcell
      refine ⟨hcell, hz b (o + q) ?_⟩
      simp only [Prod.mk.injEq] at hx
      rw [hx.2]
      refine List.mem_append_left _ ?_
      simp [MemPlace.row]
      have : ys.length * k ≤ m * k := Nat.mul_le_mul_right k (by omega)
      omega
    · obtain ⟨i, hi, rfl⟩ := List.getElem_of_mem hx
      exact (hy i hi).1
theorem struct_sub {t : TypeId} {n : Nat} {cs : List Value} {x : DataW H × List MemPlace} {fs : Array Field} (ht : P.underlying t = some (.struct fs)) (h : DataW.trod enc P w 0 (fun _ => true) true n t cs = some x)
    {i : Nat} {f : Field} (hf : fs[i]? = some f) : ∃ m y, DataW.trod enc P w 0 (fun _ => true) true m f.type ((cs.drop f.offset).take (P.cellsOf f.type)) = some y := by
  obtain ⟨ys, m, _, _, _, hl, hg⟩ := DataW.trod_struct ht h
  have hi := (Array.getElem?_eq_some_iff.1 hf).1
  exact ⟨m, ys[i]'(by omega), (hg i f hf).trans (List.getElem?_eq_getElem (by omega))⟩
theorem struct_int {t : TypeId} {n : Nat} {cs : List Value} {x : DataW H × List MemPlace} {fs : Array Field} (ht : P.underlying t = some (.struct fs)) (h : DataW.trod enc P w 0 (fun _ => true) true n t cs = some x)
    {i : Nat} {f : Field} (hf : fs[i]? = some f) (hu : P.underlying f.type = some (.int .i64)) (hc : P.cellsOf f.type = 1) : ∃ z, cs[f.offset]? = some (.int .i64 z) ∧ I64 z := by
  obtain ⟨m, y, hy⟩ := struct_sub ht h hf
  rw [hc] at hy
  obtain ⟨z, he, _, hw⟩ := DataW.trod_int hu hy
  refine ⟨z, ?_, I64.of_wf hw⟩
  have := congrArg (fun l => l[0]?) he
  simpa using this
theorem struct_len {t : TypeId} {n : Nat} {cs : List Value} {x : DataW H × List MemPlace} {fs : Array Field} (ht : P.underlying t = some (.struct fs)) (h : DataW.trod enc P w 0 (fun _ => true) true n t cs = some x) :
    cs.length = P.cellsOf t := by
  obtain ⟨_, _, _, _, hl, _⟩ := DataW.trod_struct ht h
  exact hl
theorem len2 {cs : List Value} (h : cs.length = 2) : ∃ a b, cs = [a, b] := by
  match cs, h with
  | [a, b], _ => exact ⟨a, b, rfl⟩
theorem len8 {cs : List Value} (h : cs.length = 8) : ∃ a b c d e f g i, cs = [a, b, c, d, e, f, g, i] := by
  match cs, h with
  | [a, b, c, d, e, f, g, i], _ => exact ⟨a, b, c, d, e, f, g, i, rfl⟩
end
theorem int1 : Try.prog.cellsOf 2 = 1 := by kernel_rfl
section
variable {H : Type} {enc : TypeId × Value → H} {w : World}
end
end Go.Proofs.Ytchfjglofmphfaa
namespace Go.Proofs.Ytchfjglofmphfaa
open Go.ChangeShapes Go.WideShapes Go.ChangeAt Go.RowKit Go.Deep
theorem open_IntsT {H : Type} {enc : TypeId × Value → H} {P : Program} {w : World} {t e : TypeId} {n : Nat} {u : Value} {y : DataW H × List MemPlace}
    (ht : P.underlying t = some (.slice e)) (he : P.underlying e = some (.int .i64)) (hC : P.cellsOf e = 1)
    (h : DataW.trod enc P w 0 (fun _ => true) true n t [u] = some y) (hz : ∀ b off, MemPlace.cell b off ∈ y.2 → w.frozen? ⟨b, off, none⟩ = false) :
    ∃ xs, Ints w (fun b => b < w.heap.size) u xs := by
  rcases open_ints ht he hC h with ⟨hcs, hx⟩ | ⟨a, len', cap', zs, hcs, _, hl, hm, hlen, hx, hcell, hwz⟩
  · simp at hcs
    subst hcs
    exact ⟨[], Ints.nil _ _ _ _ (by omega)⟩
  · simp at hcs
    subst hcs
    unfold Go.maxLen at hm
    simp at hlen
    have hzl : (zs.take len').length = len' := by simp; omega
    refine ⟨zs.take len', some a, cap', by rw [hzl], by rw [hzl]; exact hl, by omega, fun x hx => I64.of_wf (hwz x (List.mem_of_mem_take hx)), fun hp => ?_, by simp⟩
    rw [hzl] at hp
    obtain ⟨b, off, rfl, hc⟩ := ints_at hcell (by omega)
    have hb : b < w.heap.size := World.block_lt_of_cell? w _ (hc 0 (by omega))
    refine ⟨b, off, rfl, hb, hb, fun j hj => ?_⟩
    have hj' : j < len' := by rwa [hzl] at hj
    have hjz : j < zs.length := by omega
    refine ⟨by rw [hc j hjz]; simp [hjz], hz b (off + j) ?_⟩
    rw [hx]
    simp [MemPlace.row]
    exact hjz
end Go.Proofs.Ytchfjglofmphfaa
section
set_option linter.unusedSimpArgs false
set_option linter.unusedVariables false
namespace Go.Proofs.Ytchfjglofmphfaa
open Go.ChangeShapes Go.WideShapes Go.ChangeAt Go.RowKit Go.Deep
theorem flat_chunk {α : Type} (f : α → List Value) (k : Nat) (hf : ∀ x, (f x).length = k) (xs : List α) (i : Nat) (hi : i < xs.length) : ((xs.flatMap f).drop (i * k)).take k = f xs[i] := by
  refine List.ext_getElem? fun j => ?_
  by_cases hj : j < k
  · rw [List.getElem?_take_of_lt hj, List.getElem?_drop, flat_get f k hf xs i hi j hj]
  · rw [List.getElem?_eq_none (by simp; omega), List.getElem?_eq_none (by rw [hf]; omega)]
theorem open_nst {α : Type} {H : Type} {enc : TypeId × Value → H} {P : Program} {w : World} (E : World → List Value → α → Prop) (k : Nat) (hk : 0 < k) {t e : TypeId} {n : Nat} {u : Value} {y : DataW H × List MemPlace}
    (ht : P.underlying t = some (.slice e)) (hC : P.cellsOf e = k)
    (hdec : ∀ n cs x, DataW.trod enc P w 0 (fun _ => true) true n e cs = some x → (∀ b off, MemPlace.cell b off ∈ x.2 → w.frozen? ⟨b, off, none⟩ = false) → cs.length = k → ∃ a : α, E w cs a)
    (h : DataW.trod enc P w 0 (fun _ => true) true n t [u] = some y) (hz : ∀ b off, MemPlace.cell b off ∈ y.2 → w.frozen? ⟨b, off, none⟩ = false) :
    ∃ xs, Nst k E w (fun b => b < w.heap.size) u xs := by
  rcases open_slice ht h with ⟨hcs, hx⟩ | ⟨a, len, cap, m, n, D, Pl, hcs, _, hl, hm, hmm, hx, hi⟩
  · simp at hcs
    subst hcs
    exact ⟨[], Nst.nil _ _ _ _ (by omega)⟩
  · simp at hcs
    subst hcs
    simp at hmm
    rw [hC] at hi hx
    unfold Go.maxLen at hm
    obtain ⟨ys, hyl, hy⟩ := rows_of (Q := fun i (p : {p : List Value × α // p.1.length = k}) => E w p.1.1 p.1.2 ∧ ∀ j v, p.1.1[j]? = some v → w.cell? (a.add (i * k + j)) = some v) len (fun i hil => by
      obtain ⟨cs', hc, htr⟩ := hi i (by omega)
      obtain ⟨_, hcl, hat⟩ := World.cells?_some hc
      obtain ⟨r, hr⟩ := hdec _ _ _ htr (fun b off hm9 => hz b off (by
        rw [hx]
        exact List.mem_append_right _ (List.mem_flatMap.2 ⟨i, by simp; omega, hm9⟩))) hcl
      refine ⟨⟨(cs', r), hcl⟩, hr, fun j v hv => ?_⟩
      have hj : j < k := by
        obtain ⟨h1, _⟩ := List.getElem?_eq_some_iff.1 hv
        have h1 : j < cs'.length := h1
        omega
      rw [← Go.Deep.add_add, hat j hj]
      exact hv)
    subst hyl
    have hf : ∀ x : {p : List Value × α // p.1.length = k}, (fun p : {p : List Value × α // p.1.length = k} => p.1.1) x = x.1.1 := fun _ => rfl
    have hfl : ∀ x : {p : List Value × α // p.1.length = k}, x.1.1.length = k := fun x => x.2
    have hlen := flat_length (fun p : {p : List Value × α // p.1.length = k} => p.1.1) k hfl ys
    refine ⟨ys.map fun p => p.1.2, ys.flatMap fun p => p.1.1, ⟨by rw [hlen, List.length_map], some a, cap, by rw [List.length_map], by rw [List.length_map]; exact hl, by omega, fun hp => ?_, by simp⟩, fun i hi' => ?_⟩
    · rw [List.length_map] at hp
      have h0 := (hy 0 hp).2 0 _ (List.getElem?_eq_getElem (by rw [hfl]; exact hk))
      obtain ⟨b, o, s⟩ := a
      have hs : s = none := by simpa [Addr.add] using World.cell?_spot h0
      subst hs
      have hb : b < w.heap.size := by
        have := World.block_lt_of_cell? w _ h0
        simpa [Addr.add] using this
      refine ⟨b, o, rfl, hb, hb, fun q hq => ?_⟩
      have hqk : q < ys.length * k := by omega
      have hdi : q / k < ys.length := Nat.div_lt_of_lt_mul (by rw [Nat.mul_comm]; exact hqk)
      have hmo : q % k < k := Nat.mod_lt _ hk
      have hde : q / k * k + q % k = q := by rw [Nat.mul_comm]; exact Nat.div_add_mod q k
      have hg := flat_get (fun p : {p : List Value × α // p.1.length = k} => p.1.1) k hfl ys (q / k) hdi (q % k) hmo
      rw [hde] at hg
      have hcell := (hy (q / k) hdi).2 (q % k) _ (by rw [← hg]; exact List.getElem?_eq_getElem hq)
      rw [hde, Go.WideShapes.add_plain] at hcell
      refine ⟨hcell, hz b (o + q) ?_⟩
      rw [hx]
      refine List.mem_append_left _ ?_
      simp [MemPlace.row]
      have : ys.length * k ≤ m * k := Nat.mul_le_mul_right k (by omega)
      omega
    · rw [List.length_map] at hi'
      rw [flat_chunk (fun p : {p : List Value × α // p.1.length = k} => p.1.1) k hfl ys i hi', List.getElem_map]
      exact (hy i hi').1
theorem flat_of_chunks {α : Type} (f : α → List Value) (k : Nat) (hk : 0 < k) (hf : ∀ x, (f x).length = k) (xs : List α) (cs : List Value) (hl : cs.length = xs.length * k) (h : ∀ i (hi : i < xs.length), (cs.drop (i * k)).take k = f xs[i]) : cs = xs.flatMap f := by
  have hlen := flat_length f k hf xs
  refine List.ext_getElem? fun q => ?_
  by_cases hq : q < xs.length * k
  · have hdi : q / k < xs.length := Nat.div_lt_of_lt_mul (by rw [Nat.mul_comm]; exact hq)
    have hmo : q % k < k := Nat.mod_lt _ hk
    have hde : q / k * k + q % k = q := by rw [Nat.mul_comm]; exact Nat.div_add_mod q k
    have hg := flat_get f k hf xs (q / k) hdi (q % k) hmo
    rw [hde, ← h _ hdi, List.getElem?_take_of_lt hmo, List.getElem?_drop, hde] at hg
    exact hg.symm
  · rw [List.getElem?_eq_none (by omega), List.getElem?_eq_none (by omega)]
section
variable {H : Type} {enc : TypeId × Value → H} {P : Program} {w : World}
theorem struct_subz {t : TypeId} {n : Nat} {cs : List Value} {x : DataW H × List MemPlace} {fs : Array Field} (ht : P.underlying t = some (.struct fs)) (h : DataW.trod enc P w 0 (fun _ => true) true n t cs = some x)
    (hz : ∀ b off, MemPlace.cell b off ∈ x.2 → w.frozen? ⟨b, off, none⟩ = false) {i : Nat} {f : Field} (hf : fs[i]? = some f) :
    ∃ m y, DataW.trod enc P w 0 (fun _ => true) true m f.type ((cs.drop f.offset).take (P.cellsOf f.type)) = some y ∧ ∀ b off, MemPlace.cell b off ∈ y.2 → w.frozen? ⟨b, off, none⟩ = false := by
  obtain ⟨ys, m, _, hx, _, hl, hg⟩ := DataW.trod_struct ht h
  have hi := (Array.getElem?_eq_some_iff.1 hf).1
  refine ⟨m, ys[i]'(by omega), (hg i f hf).trans (List.getElem?_eq_getElem (by omega)), fun b off hm => hz b off ?_⟩
  rw [hx]
  exact List.mem_flatMap.2 ⟨_, List.getElem_mem _, hm⟩
theorem len1 {cs : List Value} (h : cs.length = 1) : ∃ a, cs = [a] := by
  match cs, h with
  | [a], _ => exact ⟨a, rfl⟩
theorem len3 {cs : List Value} (h : cs.length = 3) : ∃ a b c, cs = [a, b, c] := by
  match cs, h with
  | [a, b, c], _ => exact ⟨a, b, c, rfl⟩
theorem len6 {cs : List Value} (h : cs.length = 6) : ∃ a b c d e f, cs = [a, b, c, d, e, f] := by
  match cs, h with
  | [a, b, c, d, e, f], _ => exact ⟨a, b, c, d, e, f, rfl⟩
end
end Go.Proofs.Ytchfjglofmphfaa
end
section
set_option linter.unusedSimpArgs false
set_option linter.unusedVariables false
namespace Go.Proofs.Ytchfjglofmphfaa
open Go.ChangeShapes Go.WideShapes Go.ChangeAt Go.RowKit Go.Deep
section
variable {H : Type} {enc : TypeId × Value → H} {w : World}
theorem sl1 : Try.prog.cellsOf 25 = 1 := by kernel_rfl
theorem dec_IntsE (n : Nat) (cs : List Value) (x : DataW H × List MemPlace) (h : DataW.trod enc Try.prog w 0 (fun _ => true) true n 25 cs = some x) (hz : ∀ b off, MemPlace.cell b off ∈ x.2 → w.frozen? ⟨b, off, none⟩ = false) (hl : cs.length = 1) :
    ∃ a, IntsE (fun b => b < w.heap.size) w cs a := by
  obtain ⟨u, rfl⟩ := len1 hl
  obtain ⟨xs, hx⟩ := open_IntsT Try.underlying25 Try.underlying2 (by kernel_rfl) h hz
  obtain ⟨A, c, rfl, k1, k2, -⟩ := hx.shape
  exact ⟨xs, A, c, rfl, hx, k1, k2⟩
theorem open_IntSST {n : Nat} {u : Value} {y : DataW H × List MemPlace} (h : DataW.trod enc Try.prog w 0 (fun _ => true) true n 22 [u] = some y) (hz : ∀ b off, MemPlace.cell b off ∈ y.2 → w.frozen? ⟨b, off, none⟩ = false) :
    ∃ xs, IntSSV w (fun b => b < w.heap.size) (fun b => b < w.heap.size) (fun b => b < w.heap.size) u xs :=
  open_nst (IntsE (fun b => b < w.heap.size)) 1 (by omega) Try.underlying22 sl1 (fun n cs x h hz hl => dec_IntsE n cs x h hz hl) h hz
set_option maxRecDepth 100000 in
theorem dec_Event (n : Nat) (cs : List Value) (x : DataW H × List MemPlace) (h : DataW.trod enc Try.prog w 0 (fun _ => true) true n 145 cs = some x) : ∃ y : EvM, cs = y.cells ∧ y.ok := by
  obtain ⟨a0, a1, a2, a3, a4, a5, rfl⟩ := len6 ((struct_len Try.underlying145 h).trans (by kernel_rfl))
  obtain ⟨z0, e0, i0⟩ := struct_int Try.underlying145 h (i := 0) rfl Try.underlying2 int1
  obtain ⟨z1, e1, i1⟩ := struct_int Try.underlying145 h (i := 1) rfl Try.underlying2 int1
  obtain ⟨z2, e2, i2⟩ := struct_int Try.underlying145 h (i := 2) rfl Try.underlying2 int1
  obtain ⟨z3, e3, i3⟩ := struct_int Try.underlying145 h (i := 3) rfl Try.underlying2 int1
  obtain ⟨z4, e4, i4⟩ := struct_int Try.underlying145 h (i := 4) rfl Try.underlying2 int1
  obtain ⟨z5, e5, i5⟩ := struct_int Try.underlying145 h (i := 5) rfl Try.underlying2 int1
  simp at e0 e1 e2 e3 e4 e5
  subst e0 e1 e2 e3 e4 e5
  exact ⟨⟨z0, z1, z2, z3, z4, z5⟩, rfl, i0, i1, i2, i3, i4, i5⟩
theorem open_EvsT {n : Nat} {u : Value} {y : DataW H × List MemPlace} (h : DataW.trod enc Try.prog w 0 (fun _ => true) true n 79 [u] = some y) (hz : ∀ b off, MemPlace.cell b off ∈ y.2 → w.frozen? ⟨b, off, none⟩ = false) :
    ∃ xs, Evs w (fun b => b < w.heap.size) u xs := by
  obtain ⟨xs, cs, h1, h2⟩ := open_nst (fun _ cs (y : EvM) => cs = y.cells ∧ y.ok) 6 (by omega) Try.underlying79 (show Try.prog.cellsOf 145 = 6 by kernel_rfl) (fun n cs x h hz hl => dec_Event n cs x h) h hz
  have e := flat_of_chunks EvM.cells 6 (by omega) EvM.cells_length xs cs h1.1 (fun i hi => (h2 i hi).1)
  subst e
  refine ⟨xs, h1, fun x hx => ?_⟩
  obtain ⟨i, hi, rfl⟩ := List.getElem_of_mem hx
  exact (h2 i hi).2
end
/-- a proof, as an argument -/
def ProofA (w : World) (S : Nat → Prop) (v : Value) (p : ProofM) : Prop := ProofV w S S S v p
theorem ProofA.up {w w' : World} {S : Nat → Prop} {v : Value} {p : ProofM} (h : ProofA w S v p) (g : Up w w') : ProofA w' S v p := ProofV.up h g
def szP (p : ProofM) : Nat := szF (fun x => szF List.length x.fs) p.forms + szF List.length p.sts
theorem openProof {w : World} {S : Nat → Prop} {v : Value} {p : ProofM} (h : ProofA w S v p) : ∃ A c Z z, v = .agg #[.slice A p.forms.length c, .slice Z p.sts.length z] ∧ ProofA w S v p :=
  let ⟨A, c, Z, z, he, hr⟩ := h; ⟨A, c, Z, z, he, A, c, Z, z, he, hr⟩
end Go.Proofs.Ytchfjglofmphfaa
end
section
set_option linter.unusedSimpArgs false
set_option linter.unusedVariables false
set_option maxRecDepth 100000
set_option maxHeartbeats 1000000
namespace Go.Proofs.Ytchfjglofmphfaa
open Go.ChangeShapes Go.WideShapes Go.ChangeAt Go.RowKit
def IntsL (w : World) (M H L : Nat → Prop) (v : Value) (xs : List Int) : Prop := Ints w L v xs
theorem IntsL.keep {M H L T : Nat → Prop} {w w' : World} {v : Value} {xs : List Int} (h : IntsL w M H L v xs) (g : Chg T w w') (hd : ∀ b, M b ∨ H b ∨ L b → ¬ T b) : IntsL w' M H L v xs := Ints.keep h g (fun b _ hb => hd b (.inr (.inr hb)))
theorem IntsL.up {M H L : Nat → Prop} {w w' : World} {v : Value} {xs : List Int} (h : IntsL w M H L v xs) (g : Up w w') : IntsL w' M H L v xs := Ints.up h g
theorem IntsL.mono {M H L M' H' L' : Nat → Prop} {w : World} {v : Value} {xs : List Int} (h : IntsL w M H L v xs) (hm : ∀ b, b < w.heap.size → M b → M' b) (hr : ∀ b, b < w.heap.size → H b → H' b) (hl : ∀ b, b < w.heap.size → L b → L' b) : IntsL w M' H' L' v xs := Ints.mono h hl
theorem IntsL.shape {M H L : Nat → Prop} {w : World} {v : Value} {xs : List Int} (h : IntsL w M H L v xs) : ∃ A c, v = .slice A xs.length c ∧ xs.length ≤ c ∧ c ≤ 9223372036854775807 ∧ (A = none → c = 0) := Ints.shape h
theorem szIntsL_ok (w : World) (M H L : Nat → Prop) (v : Value) (xs : List Int) (k : Int) (hk : 0 ≤ k ∧ k ≤ 1048576) (hl : (xs.length : Int) ≤ k) (h : IntsL w M H L v xs) :
    Calls Try.prog 45 #[v, .int .i64 k] w fun e w' => e = .returned (.int .i64 (k - xs.length)) ∧ Up w w' :=
  (szInts_ok w L v xs k hk hl h).mono fun _ _ ⟨he, hw⟩ => ⟨he, hw ▸ Chg.refl _ _⟩
theorem szIntsL_no (w : World) (M H L : Nat → Prop) (v : Value) (xs : List Int) (k : Int) (hk : 0 ≤ k ∧ k ≤ 1048576) (hl : k < (xs.length : Int)) (h : IntsL w M H L v xs) :
    Calls Try.prog 45 #[v, .int .i64 k] w fun e w' => e = .returned (.int .i64 (-1)) ∧ Up w w' :=
  (szInts_no w L v xs k hk hl h).mono fun _ _ ⟨he, hw⟩ => ⟨he, hw ▸ Chg.refl _ _⟩
theorem toIntsL_any (w : World) (M H L : Nat → Prop) (v : Value) (xs : List Int) (hb : xs.length ≤ 1048576) (h : IntsL w M H L v xs) :
    Calls Try.prog 53 #[v] w fun e w' => ∃ u M' H' L', e = .returned u ∧ ApartN w.heap.size w'.heap.size M' H' L' ∧ IntsL w' M' H' L' u xs ∧ Up w w' :=
  (toInts w L v xs (by unfold cntInts; omega) h).mono fun _ w' ⟨u, he, hi, hg⟩ => ⟨u, Nowhere, Nowhere, New w.heap.size w'.heap.size, he, ⟨fun b hb => hb.elim (fun h => h.elim) fun h => h.elim (fun h => h.elim) fun h => h, fun b h => h.elim, fun b h => h.elim, fun b h => h.elim⟩, hi, hg⟩
theorem eqIntsL_same (w : World) (M H L M' H' L' : Nat → Prop) (v u : Value) (xs : List Int) (h : IntsL w M H L v xs) (h2 : IntsL w M' H' L' u xs) :
    Calls Try.prog 61 #[v, u] w fun e w' => e = .returned (.bool true) ∧ Up w w' :=
  (eqInt64S_same w L L' v u xs h h2).mono fun _ _ h => ⟨h.1, h.2.up⟩
end Go.Proofs.Ytchfjglofmphfaa
end
section
set_option linter.unusedSimpArgs false
set_option linter.unusedVariables false
set_option maxRecDepth 100000
set_option maxHeartbeats 1000000
namespace Go.Proofs.Ytchfjglofmphfaa
open Go.ChangeShapes Go.WideShapes Go.ChangeAt Go.RowKit
structure InfM where
  kd : Int
  car : Int
  bed : Int
  at_ : Int
  dir : Int
  ps : List Int
def InfoE (M H L : Nat → Prop) (w : World) (vs : List Value) (x : InfM) : Prop := ∃ A c, vs = [.int .i64 x.kd, .int .i64 x.car, .int .i64 x.bed, .int .i64 x.at_, .int .i64 x.dir, .slice A x.ps.length c] ∧ IntsL w M H L (.slice A x.ps.length c) x.ps ∧ (x.ps.length ≤ c ∧ c ≤ 9223372036854775807) ∧ I64 x.kd ∧ I64 x.car ∧ I64 x.bed ∧ I64 x.at_ ∧ I64 x.dir
theorem InfoE.keep {M H L T : Nat → Prop} {w w' : World} {vs : List Value} {x : InfM} (h : InfoE M H L w vs x) (g : Chg T w w') (hd : ∀ b, M b ∨ H b ∨ L b → ¬ T b) : InfoE M H L w' vs x := let ⟨A, c, he, h0, h1, h2, h3, h4, h5, h6⟩ := h; ⟨A, c, he, h0.keep g hd, h1, h2, h3, h4, h5, h6⟩
theorem InfoE.up {M H L : Nat → Prop} {w w' : World} {vs : List Value} {x : InfM} (h : InfoE M H L w vs x) (g : Up w w') : InfoE M H L w' vs x := h.keep g fun _ _ h => h
theorem InfoE.mono {M H L M' H' L' : Nat → Prop} {w : World} {vs : List Value} {x : InfM} (h : InfoE M H L w vs x) (hm : ∀ b, b < w.heap.size → M b → M' b) (hr : ∀ b, b < w.heap.size → H b → H' b) (hl : ∀ b, b < w.heap.size → L b → L' b) : InfoE M' H' L' w vs x := let ⟨A, c, he, h0, h1, h2, h3, h4, h5, h6⟩ := h; ⟨A, c, he, h0.mono hm hr hl, h1, h2, h3, h4, h5, h6⟩
def InfoV (w : World) (M H L : Nat → Prop) (v : Value) (x : InfM) : Prop := ∃ A c, v = .agg #[.int .i64 x.kd, .int .i64 x.car, .int .i64 x.bed, .int .i64 x.at_, .int .i64 x.dir, .slice A x.ps.length c] ∧ IntsL w M H L (.slice A x.ps.length c) x.ps ∧ (x.ps.length ≤ c ∧ c ≤ 9223372036854775807) ∧ I64 x.kd ∧ I64 x.car ∧ I64 x.bed ∧ I64 x.at_ ∧ I64 x.dir
theorem InfoV.keep {M H L T : Nat → Prop} {w w' : World} {v : Value} {x : InfM} (h : InfoV w M H L v x) (g : Chg T w w') (hd : ∀ b, M b ∨ H b ∨ L b → ¬ T b) : InfoV w' M H L v x := let ⟨A, c, he, h0, h1, h2, h3, h4, h5, h6⟩ := h; ⟨A, c, he, h0.keep g hd, h1, h2, h3, h4, h5, h6⟩
theorem InfoV.up {M H L : Nat → Prop} {w w' : World} {v : Value} {x : InfM} (h : InfoV w M H L v x) (g : Up w w') : InfoV w' M H L v x := h.keep g fun _ _ h => h
theorem InfoV.mono {M H L M' H' L' : Nat → Prop} {w : World} {v : Value} {x : InfM} (h : InfoV w M H L v x) (hm : ∀ b, b < w.heap.size → M b → M' b) (hr : ∀ b, b < w.heap.size → H b → H' b) (hl : ∀ b, b < w.heap.size → L b → L' b) : InfoV w M' H' L' v x := let ⟨A, c, he, h0, h1, h2, h3, h4, h5, h6⟩ := h; ⟨A, c, he, h0.mono hm hr hl, h1, h2, h3, h4, h5, h6⟩
theorem InfoE.val {M H L : Nat → Prop} {w : World} {vs : List Value} {x : InfM} (h : InfoE M H L w vs x) : ∃ A c, vs = [.int .i64 x.kd, .int .i64 x.car, .int .i64 x.bed, .int .i64 x.at_, .int .i64 x.dir, .slice A x.ps.length c] ∧ InfoV w M H L (.agg #[.int .i64 x.kd, .int .i64 x.car, .int .i64 x.bed, .int .i64 x.at_, .int .i64 x.dir, .slice A x.ps.length c]) x :=
  let ⟨A, c, he, h0, h1, h2, h3, h4, h5, h6⟩ := h; ⟨A, c, he, A, c, rfl, h0, h1, h2, h3, h4, h5, h6⟩
theorem InfoV.val {M H L : Nat → Prop} {w : World} {v : Value} {x : InfM} (h : InfoV w M H L v x) : ∃ A c, v = .agg #[.int .i64 x.kd, .int .i64 x.car, .int .i64 x.bed, .int .i64 x.at_, .int .i64 x.dir, .slice A x.ps.length c] ∧ InfoV w M H L (.agg #[.int .i64 x.kd, .int .i64 x.car, .int .i64 x.bed, .int .i64 x.at_, .int .i64 x.dir, .slice A x.ps.length c]) x := by
  obtain ⟨A, c, rfl, h0, h1, h2, h3, h4, h5, h6⟩ := h
  exact ⟨_, _, rfl, _, _, rfl, h0, h1, h2, h3, h4, h5, h6⟩
theorem InfoV.parts {M H L : Nat → Prop} {w : World} {v : Value} {x : InfM} (h : InfoV w M H L v x) : ∃ A c, v = .agg #[.int .i64 x.kd, .int .i64 x.car, .int .i64 x.bed, .int .i64 x.at_, .int .i64 x.dir, .slice A x.ps.length c] ∧ IntsL w M H L (.slice A x.ps.length c) x.ps ∧ (x.ps.length ≤ c ∧ c ≤ 9223372036854775807) ∧ I64 x.kd ∧ I64 x.car ∧ I64 x.bed ∧ I64 x.at_ ∧ I64 x.dir := h
theorem InfoE.mk {M H L : Nat → Prop} {w : World} {x : InfM} {B : Option Addr} {d : Nat} (h : InfoV w M H L (.agg #[.int .i64 x.kd, .int .i64 x.car, .int .i64 x.bed, .int .i64 x.at_, .int .i64 x.dir, .slice B x.ps.length d]) x) : InfoE M H L w [.int .i64 x.kd, .int .i64 x.car, .int .i64 x.bed, .int .i64 x.at_, .int .i64 x.dir, .slice B x.ps.length d] x := by
  obtain ⟨A, c, he, h0, h1, h2, h3, h4, h5, h6⟩ := h
  simp only [Value.agg.injEq, Array.mk.injEq, List.cons.injEq, Value.slice.injEq, true_and, and_true] at he
  obtain ⟨rfl, rfl⟩ := he
  exact ⟨_, _, rfl, h0, h1, h2, h3, h4, h5, h6⟩
def InfoSV (w : World) (M H L : Nat → Prop) (v : Value) (xs : List InfM) : Prop := Nst 6 (InfoE M H L) w M v xs
theorem InfoSV.keep {M H L T : Nat → Prop} {w w' : World} {v : Value} {xs : List InfM} (h : InfoSV w M H L v xs) (g : Chg T w w') (hd : ∀ b, M b ∨ H b ∨ L b → ¬ T b) : InfoSV w' M H L v xs :=
  Nst.keep h (fun _ _ k => InfoE.keep k g hd) g (fun b _ h => hd b (.inl h))
theorem InfoSV.up {M H L : Nat → Prop} {w w' : World} {v : Value} {xs : List InfM} (h : InfoSV w M H L v xs) (g : Up w w') : InfoSV w' M H L v xs := h.keep g fun _ _ h => h
theorem InfoSV.mono {M H L M' H' L' : Nat → Prop} {w : World} {v : Value} {xs : List InfM} (h : InfoSV w M H L v xs) (hm : ∀ b, b < w.heap.size → M b → M' b) (hr : ∀ b, b < w.heap.size → H b → H' b) (hl : ∀ b, b < w.heap.size → L b → L' b) : InfoSV w M' H' L' v xs :=
  Nst.mono h (fun _ _ k => InfoE.mono k hm hr hl) hm
theorem InfoSV.shape {M H L : Nat → Prop} {w : World} {v : Value} {xs : List InfM} (h : InfoSV w M H L v xs) : ∃ A c, v = .slice A xs.length c ∧ xs.length ≤ c ∧ c ≤ 9223372036854775807 ∧ (A = none → c = 0) := Nst.shape h
theorem InfoSV.at_ {M H L : Nat → Prop} {w : World} {v : Value} {xs : List InfM} (h : InfoSV w M H L v xs) {i : Nat} (hi : i < xs.length) : ∃ b o c vs, v = .slice (some ⟨b, o, none⟩) xs.length c ∧ M b ∧ b < w.heap.size ∧ vs.length = 6 ∧ InfoE M H L w vs xs[i] ∧
    ∀ j u, vs[j]? = some u → w.cell? ⟨b, o + i * 6 + j, none⟩ = some u ∧ w.frozen? ⟨b, o + i * 6 + j, none⟩ = false := Nst.at_ h hi
theorem szInfo_ok (w : World) (M H L : Nat → Prop) (v : Value) (x : InfM) (k : Int) (hk : 0 ≤ k ∧ k ≤ 1048576) (hl : (x.ps.length : Int) ≤ k) (h : InfoV w M H L v x) :
    Calls Try.prog 103 #[v, .int .i64 k] w fun e w' => e = .returned (.int .i64 (k - (x.ps.length))) ∧ Up w w' := by
  obtain ⟨A, c, rfl, h0, h1, h2, h3, h4, h5, h6⟩ := h
  have U0 := Lib.hid ((Chg.refl Nowhere w).alloc (.cells #[.int .i64 x.kd, .int .i64 x.car, .int .i64 x.bed, .int .i64 x.at_, .int .i64 x.dir, .slice A x.ps.length c] 159))
  have H0 := Lib.hid (h0.up U0.out)
  have q0 := (show (w.alloc (.cells #[.int .i64 x.kd, .int .i64 x.car, .int .i64 x.bed, .int .i64 x.at_, .int .i64 x.dir, .slice A x.ps.length c] 159)).cell? ⟨w.heap.size, 5, none⟩ = some (.slice A x.ps.length c) from cell_new _ _ _ _)
  clear h0 h1 h2 h3 h4 h5 h6
  have G0 := Lib.hid U0.out
  go_enter Try.func103, Try.ntmps103
  have HB0 : Hid (0 ≤ k ∧ k ≤ 1048576) := Lib.hid (by omega)
  have HX0 : Hid ((x.ps.length : Int) ≤ k) := Lib.hid (by omega)
  have hd0 : decide (k - (x.ps.length : Int) < 0) = false := decide_eq_false (by omega)
  go_wp2_with fail
  with_reducible refine (szIntsL_ok _ M H L _ x.ps _ HB0.out HX0.out H0.out).mono ?_
  rintro e w1 ⟨rfl, g1⟩
  have G1 := Lib.hid (Chg.trans G0.out g1)
  clear g1 q0
  go_wp2
  go_ret
  exact ⟨rfl, G1.out⟩
theorem szInfo_no (w : World) (M H L : Nat → Prop) (v : Value) (x : InfM) (k : Int) (hk : 0 ≤ k ∧ k ≤ 1048576) (hl : k < (x.ps.length : Int)) (h : InfoV w M H L v x) :
    Calls Try.prog 103 #[v, .int .i64 k] w fun e w' => e = .returned (.int .i64 (-1)) ∧ Up w w' := by
  obtain ⟨A, c, rfl, h0, h1, h2, h3, h4, h5, h6⟩ := h
  have U0 := Lib.hid ((Chg.refl Nowhere w).alloc (.cells #[.int .i64 x.kd, .int .i64 x.car, .int .i64 x.bed, .int .i64 x.at_, .int .i64 x.dir, .slice A x.ps.length c] 159))
  have H0 := Lib.hid (h0.up U0.out)
  have q0 := (show (w.alloc (.cells #[.int .i64 x.kd, .int .i64 x.car, .int .i64 x.bed, .int .i64 x.at_, .int .i64 x.dir, .slice A x.ps.length c] 159)).cell? ⟨w.heap.size, 5, none⟩ = some (.slice A x.ps.length c) from cell_new _ _ _ _)
  clear h0 h1 h2 h3 h4 h5 h6
  have G0 := Lib.hid U0.out
  go_enter Try.func103, Try.ntmps103
  have HB0 : Hid (0 ≤ k ∧ k ≤ 1048576) := Lib.hid (by omega)
  have HX0 : Hid (k < (x.ps.length : Int)) := Lib.hid (by omega)
  have hd : decide ((-1 : Int) < 0) = true := rfl
  go_wp2_with fail
  with_reducible refine (szIntsL_no _ M H L _ x.ps _ HB0.out HX0.out H0.out).mono ?_
  rintro e w1 ⟨rfl, g1⟩
  have G1 := Lib.hid (Chg.trans G0.out g1)
  clear g1 q0
  go_wp2
  go_ret
  exact ⟨rfl, G1.out⟩
theorem toInfo_any (w : World) (M H L : Nat → Prop) (v : Value) (x : InfM) (hb : x.ps.length ≤ 1048576) (h : InfoV w M H L v x) :
    Calls Try.prog 112 #[v] w fun e w' => ∃ u M' H' L', e = .returned u ∧ ApartN w.heap.size w'.heap.size M' H' L' ∧ InfoV w' M' H' L' u x ∧ Up w w' := by
  obtain ⟨A, c, rfl, h0, h1, h2, h3, h4, h5, h6⟩ := h
  have H0 := Lib.hid h0
  have H1 := Lib.hid h1
  have H2 := Lib.hid h2
  have H3 := Lib.hid h3
  have H4 := Lib.hid h4
  have H5 := Lib.hid h5
  have H6 := Lib.hid h6
  clear h0 h1 h2 h3 h4 h5 h6
  have hw0 := Lib.hid (show Up w (w.alloc (.cells #[.int .i64 x.kd, .int .i64 x.car, .int .i64 x.bed, .int .i64 x.at_, .int .i64 x.dir, .slice A x.ps.length c] 159)) from (Chg.refl Nowhere w).alloc _)
  go_enter Try.func112, Try.ntmps112
  have q0 := (show (w.alloc (.cells #[.int .i64 x.kd, .int .i64 x.car, .int .i64 x.bed, .int .i64 x.at_, .int .i64 x.dir, .slice A x.ps.length c] 159)).cell? ⟨w.heap.size, 0, none⟩ = some (.int .i64 x.kd) from cell_new _ _ _ _)
  have q1 := (show (w.alloc (.cells #[.int .i64 x.kd, .int .i64 x.car, .int .i64 x.bed, .int .i64 x.at_, .int .i64 x.dir, .slice A x.ps.length c] 159)).cell? ⟨w.heap.size, 1, none⟩ = some (.int .i64 x.car) from cell_new _ _ _ _)
  have q2 := (show (w.alloc (.cells #[.int .i64 x.kd, .int .i64 x.car, .int .i64 x.bed, .int .i64 x.at_, .int .i64 x.dir, .slice A x.ps.length c] 159)).cell? ⟨w.heap.size, 2, none⟩ = some (.int .i64 x.bed) from cell_new _ _ _ _)
  have q3 := (show (w.alloc (.cells #[.int .i64 x.kd, .int .i64 x.car, .int .i64 x.bed, .int .i64 x.at_, .int .i64 x.dir, .slice A x.ps.length c] 159)).cell? ⟨w.heap.size, 3, none⟩ = some (.int .i64 x.at_) from cell_new _ _ _ _)
  have q4 := (show (w.alloc (.cells #[.int .i64 x.kd, .int .i64 x.car, .int .i64 x.bed, .int .i64 x.at_, .int .i64 x.dir, .slice A x.ps.length c] 159)).cell? ⟨w.heap.size, 4, none⟩ = some (.int .i64 x.dir) from cell_new _ _ _ _)
  have q5 := (show (w.alloc (.cells #[.int .i64 x.kd, .int .i64 x.car, .int .i64 x.bed, .int .i64 x.at_, .int .i64 x.dir, .slice A x.ps.length c] 159)).cell? ⟨w.heap.size, 5, none⟩ = some (.slice A x.ps.length c) from cell_new _ _ _ _)
  have hbx : w.heap.size < (w.alloc (.cells #[.int .i64 x.kd, .int .i64 x.car, .int .i64 x.bed, .int .i64 x.at_, .int .i64 x.dir, .slice A x.ps.length c] 159)).heap.size := by simp
  go_wp2_with fail
  refine (toIntsL_any _ M H L _ x.ps (by omega) (H0.out.up (by repeat (first | exact Chg.refl _ _ | apply Chg.drew | apply Chg.drewN | refine Chg.alloc ?_ _)))).mono ?_
  rintro e w1 ⟨v1, M1, H1', L1, rfl, ap1, k1, g1⟩
  obtain ⟨B1, d1, rfl, hl1, hc1, -⟩ := k1.shape
  have U1 := Lib.hid (show Up w w1 from Chg.trans (by repeat (first | exact Chg.refl _ _ | apply Chg.drew | apply Chg.drewN | refine Chg.alloc ?_ _)) g1)
  have hs1 : w.heap.size + 1 + 1 + 1 ≤ w1.heap.size := by have := g1.size; simpa using this
  have HA1 : Hid (ApartN (w.heap.size + 1 + 1 + 1) w1.heap.size M1 H1' L1) := Lib.hid (by simpa using ap1)
  have q0 := Chg.cell (Chg.trans (by repeat (first | exact Chg.refl _ _ | apply Chg.drew | apply Chg.drewN | refine Chg.alloc ?_ _)) g1) q0 id
  have q1 := Chg.cell (Chg.trans (by repeat (first | exact Chg.refl _ _ | apply Chg.drew | apply Chg.drewN | refine Chg.alloc ?_ _)) g1) q1 id
  have q2 := Chg.cell (Chg.trans (by repeat (first | exact Chg.refl _ _ | apply Chg.drew | apply Chg.drewN | refine Chg.alloc ?_ _)) g1) q2 id
  have q3 := Chg.cell (Chg.trans (by repeat (first | exact Chg.refl _ _ | apply Chg.drew | apply Chg.drewN | refine Chg.alloc ?_ _)) g1) q3 id
  have q4 := Chg.cell (Chg.trans (by repeat (first | exact Chg.refl _ _ | apply Chg.drew | apply Chg.drewN | refine Chg.alloc ?_ _)) g1) q4 id
  have q5 := Chg.cell (Chg.trans (by repeat (first | exact Chg.refl _ _ | apply Chg.drew | apply Chg.drewN | refine Chg.alloc ?_ _)) g1) q5 id
  have x0 := (show CellF w1 ⟨w.heap.size + 1 + 1, 0, none⟩ (.int .i64 x.kd) from CellF.up g1 (by repeat (first | ((refine cellF_at ?_ rfl); (simp; done)) | refine CellF.up ((Chg.refl _ _).alloc _) ?_)))
  have x1 := (show CellF w1 ⟨w.heap.size + 1 + 1, 1, none⟩ (.int .i64 x.car) from CellF.up g1 (by repeat (first | ((refine cellF_at ?_ rfl); (simp; done)) | refine CellF.up ((Chg.refl _ _).alloc _) ?_)))
  have x2 := (show CellF w1 ⟨w.heap.size + 1 + 1, 2, none⟩ (.int .i64 x.bed) from CellF.up g1 (by repeat (first | ((refine cellF_at ?_ rfl); (simp; done)) | refine CellF.up ((Chg.refl _ _).alloc _) ?_)))
  have x3 := (show CellF w1 ⟨w.heap.size + 1 + 1, 3, none⟩ (.int .i64 x.at_) from CellF.up g1 (by repeat (first | ((refine cellF_at ?_ rfl); (simp; done)) | refine CellF.up ((Chg.refl _ _).alloc _) ?_)))
  have x4 := (show CellF w1 ⟨w.heap.size + 1 + 1, 4, none⟩ (.int .i64 x.dir) from CellF.up g1 (by repeat (first | ((refine cellF_at ?_ rfl); (simp; done)) | refine CellF.up ((Chg.refl _ _).alloc _) ?_)))
  have x5 := (show CellF w1 ⟨w.heap.size + 1 + 1, 5, none⟩ (.slice none 0 0) from CellF.up g1 (by repeat (first | ((refine cellF_at ?_ rfl); (simp; done)) | refine CellF.up ((Chg.refl _ _).alloc _) ?_)))
  have y0 := (show CellF w1 ⟨w.heap.size + 1, 0, none⟩ (.int .i64 0) from CellF.up g1 (by repeat (first | ((refine cellF_at ?_ rfl); (simp; done)) | refine CellF.up ((Chg.refl _ _).alloc _) ?_)))
  have y1 := (show CellF w1 ⟨w.heap.size + 1, 1, none⟩ (.int .i64 0) from CellF.up g1 (by repeat (first | ((refine cellF_at ?_ rfl); (simp; done)) | refine CellF.up ((Chg.refl _ _).alloc _) ?_)))
  have y2 := (show CellF w1 ⟨w.heap.size + 1, 2, none⟩ (.int .i64 0) from CellF.up g1 (by repeat (first | ((refine cellF_at ?_ rfl); (simp; done)) | refine CellF.up ((Chg.refl _ _).alloc _) ?_)))
  have y3 := (show CellF w1 ⟨w.heap.size + 1, 3, none⟩ (.int .i64 0) from CellF.up g1 (by repeat (first | ((refine cellF_at ?_ rfl); (simp; done)) | refine CellF.up ((Chg.refl _ _).alloc _) ?_)))
  have y4 := (show CellF w1 ⟨w.heap.size + 1, 4, none⟩ (.int .i64 0) from CellF.up g1 (by repeat (first | ((refine cellF_at ?_ rfl); (simp; done)) | refine CellF.up ((Chg.refl _ _).alloc _) ?_)))
  have y5 := (show CellF w1 ⟨w.heap.size + 1, 5, none⟩ (.slice none 0 0) from CellF.up g1 (by repeat (first | ((refine cellF_at ?_ rfl); (simp; done)) | refine CellF.up ((Chg.refl _ _).alloc _) ?_)))
  have K1 := Lib.hid k1
  clear ap1 k1
  clear g1
  obtain ⟨x0c, x0f⟩ := x0
  obtain ⟨y0c, y0f⟩ := y0
  obtain ⟨x1c, x1f⟩ := x1
  obtain ⟨y1c, y1f⟩ := y1
  obtain ⟨x2c, x2f⟩ := x2
  obtain ⟨y2c, y2f⟩ := y2
  obtain ⟨x3c, x3f⟩ := x3
  obtain ⟨y3c, y3f⟩ := y3
  obtain ⟨x4c, x4f⟩ := x4
  obtain ⟨y4c, y4f⟩ := y4
  obtain ⟨x5c, x5f⟩ := x5
  obtain ⟨y5c, y5f⟩ := y5
  go_wp2
  have HC := Lib.hid (show Chg (fun b => b = w.heap.size + 1 ∨ b = w.heap.size + 1 + 1) w1 _ from Chg.setCell (Chg.setCell (Chg.setCell (Chg.setCell (Chg.setCell (Chg.setCell (Chg.setCell (Chg.refl _ _) (p := ⟨w.heap.size + 1 + 1, 5, none⟩) (.inl (.inr rfl)) (.slice B1 x.ps.length d1)) (p := ⟨w.heap.size + 1, 0, none⟩) (.inl (.inl rfl)) (.int .i64 x.kd)) (p := ⟨w.heap.size + 1, 1, none⟩) (.inl (.inl rfl)) (.int .i64 x.car)) (p := ⟨w.heap.size + 1, 2, none⟩) (.inl (.inl rfl)) (.int .i64 x.bed)) (p := ⟨w.heap.size + 1, 3, none⟩) (.inl (.inl rfl)) (.int .i64 x.at_)) (p := ⟨w.heap.size + 1, 4, none⟩) (.inl (.inl rfl)) (.int .i64 x.dir)) (p := ⟨w.heap.size + 1, 5, none⟩) (.inl (.inl rfl)) (.slice B1 x.ps.length d1))
  have HK : Hid (∀ b, b < w.heap.size + 1 + 1 + 1 → ¬ ((M1) b ∨ (H1') b ∨ (L1) b)) := Lib.hid fun b hb h => by have := (HA1.out.1 b h).1; omega
  exact bodyPost_ret (v := .agg #[.int .i64 x.kd, .int .i64 x.car, .int .i64 x.bed, .int .i64 x.at_, .int .i64 x.dir, .slice B1 x.ps.length d1]) (by simp [results, Try.results112, go_sem, y0c, y1c, y2c, y3c, y4c, y5c]) rfl ⟨_, _, _, _, rfl, HA1.out.widen (by omega) (by have := HC.out.size; omega), ⟨_, _, rfl, (K1.out.keep HC.out (fun b hb hd => HK.out b (by omega) hb)).mono (fun b _ hb => hb) (fun b _ hb => hb) (fun b _ hb => hb), ⟨hl1, hc1⟩, H2.out, H3.out, H4.out, H5.out, H6.out⟩, Chg.new U1.out HC.out (fun i hi hd => by omega)⟩
theorem eqInfo_same (w : World) (M H L M' H' L' : Nat → Prop) (v u : Value) (x : InfM) (hv : InfoV w M H L v x) (hu : InfoV w M' H' L' u x) :
    Calls Try.prog 118 #[v, u] w fun e w' => e = .returned (.bool true) ∧ Up w w' := by
  obtain ⟨A, c, rfl, h0, h1, h2, h3, h4, h5, h6⟩ := hv
  obtain ⟨B, d, rfl, g0, g1, g2, g3, g4, g5, g6⟩ := hu
  have U0 := Lib.hid (show Up w ((w.alloc (.cells #[.int .i64 x.kd, .int .i64 x.car, .int .i64 x.bed, .int .i64 x.at_, .int .i64 x.dir, .slice A x.ps.length c] 164)).alloc (.cells #[.int .i64 x.kd, .int .i64 x.car, .int .i64 x.bed, .int .i64 x.at_, .int .i64 x.dir, .slice B x.ps.length d] 164)) from (by repeat (first | exact Chg.refl _ _ | apply Chg.drew | apply Chg.drewN | refine Chg.alloc ?_ _)))
  have H0 := Lib.hid (h0.up U0.out)
  have G0 := Lib.hid (g0.up U0.out)
  clear h0 h1 h2 h3 h4 h5 h6 g0 g1 g2 g3 g4 g5 g6
  have e0 : (x.kd != x.kd) = false := by simp
  have e1 : (x.car != x.car) = false := by simp
  have e2 : (x.bed != x.bed) = false := by simp
  have e3 : (x.at_ != x.at_) = false := by simp
  have e4 : (x.dir != x.dir) = false := by simp
  have q0 := Chg.cell ((Chg.refl Nowhere (w.alloc (.cells #[.int .i64 x.kd, .int .i64 x.car, .int .i64 x.bed, .int .i64 x.at_, .int .i64 x.dir, .slice A x.ps.length c] 164))).alloc (.cells #[.int .i64 x.kd, .int .i64 x.car, .int .i64 x.bed, .int .i64 x.at_, .int .i64 x.dir, .slice B x.ps.length d] 164)) (show (w.alloc (.cells #[.int .i64 x.kd, .int .i64 x.car, .int .i64 x.bed, .int .i64 x.at_, .int .i64 x.dir, .slice A x.ps.length c] 164)).cell? ⟨w.heap.size, 0, none⟩ = some (.int .i64 x.kd) from cell_new _ _ _ _) id
  have q1 := Chg.cell ((Chg.refl Nowhere (w.alloc (.cells #[.int .i64 x.kd, .int .i64 x.car, .int .i64 x.bed, .int .i64 x.at_, .int .i64 x.dir, .slice A x.ps.length c] 164))).alloc (.cells #[.int .i64 x.kd, .int .i64 x.car, .int .i64 x.bed, .int .i64 x.at_, .int .i64 x.dir, .slice B x.ps.length d] 164)) (show (w.alloc (.cells #[.int .i64 x.kd, .int .i64 x.car, .int .i64 x.bed, .int .i64 x.at_, .int .i64 x.dir, .slice A x.ps.length c] 164)).cell? ⟨w.heap.size, 1, none⟩ = some (.int .i64 x.car) from cell_new _ _ _ _) id
  have q2 := Chg.cell ((Chg.refl Nowhere (w.alloc (.cells #[.int .i64 x.kd, .int .i64 x.car, .int .i64 x.bed, .int .i64 x.at_, .int .i64 x.dir, .slice A x.ps.length c] 164))).alloc (.cells #[.int .i64 x.kd, .int .i64 x.car, .int .i64 x.bed, .int .i64 x.at_, .int .i64 x.dir, .slice B x.ps.length d] 164)) (show (w.alloc (.cells #[.int .i64 x.kd, .int .i64 x.car, .int .i64 x.bed, .int .i64 x.at_, .int .i64 x.dir, .slice A x.ps.length c] 164)).cell? ⟨w.heap.size, 2, none⟩ = some (.int .i64 x.bed) from cell_new _ _ _ _) id
  have q3 := Chg.cell ((Chg.refl Nowhere (w.alloc (.cells #[.int .i64 x.kd, .int .i64 x.car, .int .i64 x.bed, .int .i64 x.at_, .int .i64 x.dir, .slice A x.ps.length c] 164))).alloc (.cells #[.int .i64 x.kd, .int .i64 x.car, .int .i64 x.bed, .int .i64 x.at_, .int .i64 x.dir, .slice B x.ps.length d] 164)) (show (w.alloc (.cells #[.int .i64 x.kd, .int .i64 x.car, .int .i64 x.bed, .int .i64 x.at_, .int .i64 x.dir, .slice A x.ps.length c] 164)).cell? ⟨w.heap.size, 3, none⟩ = some (.int .i64 x.at_) from cell_new _ _ _ _) id
  have q4 := Chg.cell ((Chg.refl Nowhere (w.alloc (.cells #[.int .i64 x.kd, .int .i64 x.car, .int .i64 x.bed, .int .i64 x.at_, .int .i64 x.dir, .slice A x.ps.length c] 164))).alloc (.cells #[.int .i64 x.kd, .int .i64 x.car, .int .i64 x.bed, .int .i64 x.at_, .int .i64 x.dir, .slice B x.ps.length d] 164)) (show (w.alloc (.cells #[.int .i64 x.kd, .int .i64 x.car, .int .i64 x.bed, .int .i64 x.at_, .int .i64 x.dir, .slice A x.ps.length c] 164)).cell? ⟨w.heap.size, 4, none⟩ = some (.int .i64 x.dir) from cell_new _ _ _ _) id
  have q5 := Chg.cell ((Chg.refl Nowhere (w.alloc (.cells #[.int .i64 x.kd, .int .i64 x.car, .int .i64 x.bed, .int .i64 x.at_, .int .i64 x.dir, .slice A x.ps.length c] 164))).alloc (.cells #[.int .i64 x.kd, .int .i64 x.car, .int .i64 x.bed, .int .i64 x.at_, .int .i64 x.dir, .slice B x.ps.length d] 164)) (show (w.alloc (.cells #[.int .i64 x.kd, .int .i64 x.car, .int .i64 x.bed, .int .i64 x.at_, .int .i64 x.dir, .slice A x.ps.length c] 164)).cell? ⟨w.heap.size, 5, none⟩ = some (.slice A x.ps.length c) from cell_new _ _ _ _) id
  have p0 := (show ((w.alloc (.cells #[.int .i64 x.kd, .int .i64 x.car, .int .i64 x.bed, .int .i64 x.at_, .int .i64 x.dir, .slice A x.ps.length c] 164)).alloc (.cells #[.int .i64 x.kd, .int .i64 x.car, .int .i64 x.bed, .int .i64 x.at_, .int .i64 x.dir, .slice B x.ps.length d] 164)).cell? ⟨w.heap.size + 1, 0, none⟩ = some (.int .i64 x.kd) from (cellF_at (by simp) rfl).1)
  have p1 := (show ((w.alloc (.cells #[.int .i64 x.kd, .int .i64 x.car, .int .i64 x.bed, .int .i64 x.at_, .int .i64 x.dir, .slice A x.ps.length c] 164)).alloc (.cells #[.int .i64 x.kd, .int .i64 x.car, .int .i64 x.bed, .int .i64 x.at_, .int .i64 x.dir, .slice B x.ps.length d] 164)).cell? ⟨w.heap.size + 1, 1, none⟩ = some (.int .i64 x.car) from (cellF_at (by simp) rfl).1)
  have p2 := (show ((w.alloc (.cells #[.int .i64 x.kd, .int .i64 x.car, .int .i64 x.bed, .int .i64 x.at_, .int .i64 x.dir, .slice A x.ps.length c] 164)).alloc (.cells #[.int .i64 x.kd, .int .i64 x.car, .int .i64 x.bed, .int .i64 x.at_, .int .i64 x.dir, .slice B x.ps.length d] 164)).cell? ⟨w.heap.size + 1, 2, none⟩ = some (.int .i64 x.bed) from (cellF_at (by simp) rfl).1)
  have p3 := (show ((w.alloc (.cells #[.int .i64 x.kd, .int .i64 x.car, .int .i64 x.bed, .int .i64 x.at_, .int .i64 x.dir, .slice A x.ps.length c] 164)).alloc (.cells #[.int .i64 x.kd, .int .i64 x.car, .int .i64 x.bed, .int .i64 x.at_, .int .i64 x.dir, .slice B x.ps.length d] 164)).cell? ⟨w.heap.size + 1, 3, none⟩ = some (.int .i64 x.at_) from (cellF_at (by simp) rfl).1)
  have p4 := (show ((w.alloc (.cells #[.int .i64 x.kd, .int .i64 x.car, .int .i64 x.bed, .int .i64 x.at_, .int .i64 x.dir, .slice A x.ps.length c] 164)).alloc (.cells #[.int .i64 x.kd, .int .i64 x.car, .int .i64 x.bed, .int .i64 x.at_, .int .i64 x.dir, .slice B x.ps.length d] 164)).cell? ⟨w.heap.size + 1, 4, none⟩ = some (.int .i64 x.dir) from (cellF_at (by simp) rfl).1)
  have p5 := (show ((w.alloc (.cells #[.int .i64 x.kd, .int .i64 x.car, .int .i64 x.bed, .int .i64 x.at_, .int .i64 x.dir, .slice A x.ps.length c] 164)).alloc (.cells #[.int .i64 x.kd, .int .i64 x.car, .int .i64 x.bed, .int .i64 x.at_, .int .i64 x.dir, .slice B x.ps.length d] 164)).cell? ⟨w.heap.size + 1, 5, none⟩ = some (.slice B x.ps.length d) from (cellF_at (by simp) rfl).1)
  go_enter Try.func118, Try.ntmps118
  go_wp2_with fail
  refine (eqIntsL_same _ M H L M' H' L' _ _ x.ps (H0.out.up (by repeat (first | exact Chg.refl _ _ | apply Chg.drew | apply Chg.drewN | refine Chg.alloc ?_ _))) (G0.out.up (by repeat (first | exact Chg.refl _ _ | apply Chg.drew | apply Chg.drewN | refine Chg.alloc ?_ _)))).mono ?_
  rintro e w1 ⟨rfl, g1⟩
  have GX := Lib.hid (Chg.trans (by repeat (first | exact Chg.refl _ _ | apply Chg.drew | apply Chg.drewN | refine Chg.alloc ?_ _)) g1)
  clear g1
  have U1 := Lib.hid (Chg.trans U0.out GX.out)
  clear U0
  have q0 := Chg.cell GX.out q0 id
  have p0 := Chg.cell GX.out p0 id
  have q1 := Chg.cell GX.out q1 id
  have p1 := Chg.cell GX.out p1 id
  have q2 := Chg.cell GX.out q2 id
  have p2 := Chg.cell GX.out p2 id
  have q3 := Chg.cell GX.out q3 id
  have p3 := Chg.cell GX.out p3 id
  have q4 := Chg.cell GX.out q4 id
  have p4 := Chg.cell GX.out p4 id
  have q5 := Chg.cell GX.out q5 id
  have p5 := Chg.cell GX.out p5 id
  clear GX
  go_wp2
  go_ret
  exact ⟨rfl, Chg.trans U1.out (by repeat (first | exact Chg.refl _ _ | apply Chg.drew | apply Chg.drewN | refine Chg.alloc ?_ _))⟩
theorem szInfoSV_ok (w : World) (M H L : Nat → Prop) (v : Value) (xs : List (InfM)) (k : Int) (hk : 0 ≤ k ∧ k ≤ 1048576) (hl : (szF (fun x => x.ps.length) xs : Int) ≤ k) (h : InfoSV w M H L v xs) :
    Calls Try.prog 44 #[v, .int .i64 k] w fun e w' => e = .returned (.int .i64 (k - szF (fun x => x.ps.length) xs)) ∧ Up w w' := by
  obtain ⟨A, c, rfl, hlc, hcm, -⟩ := h.shape
  have H := Lib.hid h
  have HC : Hid (szF (fun x => x.ps.length) xs = xs.length + cntF (fun x => x.ps.length) xs xs.length) := Lib.hid rfl
  have HL := Lib.hid hl
  clear h hl
  have hd : decide (k - (xs.length : Int) < 0) = false := decide_eq_false (by have := HL.out; have := HC.out; omega)
  go_enter Try.func44, Try.ntmps44
  go_wp2
  go_loopw [1, 5] (fun q i wr => ∃ (j : Nat), j ≤ xs.length ∧ i = .int .i64 j ∧ q = .int .i64 (k - xs.length - cntF (fun x => x.ps.length) xs j) ∧ Hid (0 ≤ k - xs.length - cntF (fun x => x.ps.length) xs j) ∧ Hid (Up w wr)) (fun _ i _ => xs.length - (intOf i).toNat)
  case atStart => exact ⟨0, by omega, rfl, by simp [cntF], Lib.hid (by have := HL.out; have := HC.out; simp [cntF]; omega), Chg.refl _ _⟩
  case round =>
    obtain ⟨j, hj, rfl, rfl, hp, hu⟩ := hrel
    by_cases hlt : j < xs.length
    · have HS := Lib.hid (cntF_succ (f := (fun x => x.ps.length)) hlt)
      have HM := Lib.hid (cntF_le (f := (fun x => x.ps.length)) (xs := xs) (show j + 1 ≤ xs.length by omega))
      obtain ⟨b3, o3, c3', vs3, he3, -, -, -, hE3, hc3⟩ := (H.out.up hu.out).at_ hlt
      obtain ⟨rfl, rfl⟩ : A = some ⟨b3, o3, none⟩ ∧ c = c3' := by simpa using he3
      obtain ⟨A3, k3, rfl, hv3⟩ := InfoE.val hE3
      have f0 := (hc3 0 _ rfl).1
      have f1 := (hc3 1 _ rfl).1
      have f2 := (hc3 2 _ rfl).1
      have f3 := (hc3 3 _ rfl).1
      have f4 := (hc3 4 _ rfl).1
      have f5 := (hc3 5 _ rfl).1
      rw [Nat.add_zero] at f0
      have HV3 := Lib.hid hv3
      clear hc3 hv3 he3
      obtain ⟨q, hq⟩ : ∃ q, q = k - (xs.length : Int) - cntF (fun x => x.ps.length) xs j := ⟨_, rfl⟩
      rw [← hq] at hp ⊢
      have HQ := Lib.hid hq
      have HB : Hid (0 ≤ q ∧ q ≤ 1048576) := Lib.hid (by have := hp.out; omega)
      clear hq
      have HX : Hid ((xs[j].ps.length : Int) ≤ q) := Lib.hid (by have h1 := HS.out; have h2 := HM.out; have h3 := HL.out; have h4 := HC.out; have h5 := HQ.out; omega)
      go_wp2_with fail
      with_reducible refine (szInfo_ok _ _ _ _ _ _ _ HB.out HX.out HV3.out).mono ?_
      rintro e w1 ⟨rfl, g1⟩
      have G1 := Lib.hid (Chg.trans hu.out g1)
      have hd2 : decide (q - (xs[j].ps.length : Int) < 0) = false := decide_eq_false (by have := HX.out; omega)
      clear f0 f1 f2 f3 f4 f5 g1
      go_wp2
      go_roundw
      case rel => exact ⟨j + 1, by omega, by go_num, by rw [HS.out, HQ.out]; congr 1; omega, Lib.hid (by have h1 := HS.out; have h2 := HQ.out; have h3 := HX.out; omega), G1.out⟩
      case measure => first | (simp [intOf]; done) | (simp [intOf]; omega)
    · obtain rfl : j = xs.length := by omega
      go_wp2
      go_ret
      exact ⟨ret_int (by rw [HC.out]; omega), hu.out⟩
theorem szInfoSV_no (w : World) (M H L : Nat → Prop) (v : Value) (xs : List (InfM)) (k : Int) (hk : 0 ≤ k ∧ k ≤ 1048576) (hl : k < (szF (fun x => x.ps.length) xs : Int)) (h : InfoSV w M H L v xs) :
    Calls Try.prog 44 #[v, .int .i64 k] w fun e w' => e = .returned (.int .i64 (-1)) ∧ Up w w' := by
  obtain ⟨A, c, rfl, hlc, hcm, -⟩ := h.shape
  have H := Lib.hid h
  have HC : Hid (szF (fun x => x.ps.length) xs = xs.length + cntF (fun x => x.ps.length) xs xs.length) := Lib.hid rfl
  have HL := Lib.hid hl
  clear h hl
  by_cases h0 : k < (xs.length : Int)
  · have hd : decide (k - (xs.length : Int) < 0) = true := decide_eq_true (by omega)
    go_enter Try.func44, Try.ntmps44
    go_wp2
    go_ret
    exact ⟨rfl, Chg.refl _ _⟩
  have hd : decide (k - (xs.length : Int) < 0) = false := decide_eq_false (by have := HL.out; have := HC.out; omega)
  go_enter Try.func44, Try.ntmps44
  go_wp2
  go_loopw [1, 5] (fun q i wr => ∃ (j : Nat), j ≤ xs.length ∧ i = .int .i64 j ∧ q = .int .i64 (k - xs.length - cntF (fun x => x.ps.length) xs j) ∧ Hid (0 ≤ k - xs.length - cntF (fun x => x.ps.length) xs j) ∧ Hid (Up w wr)) (fun _ i _ => xs.length - (intOf i).toNat)
  case atStart => exact ⟨0, by omega, rfl, by simp [cntF], Lib.hid (by have := HL.out; have := HC.out; simp [cntF]; omega), Chg.refl _ _⟩
  case round =>
    obtain ⟨j, hj, rfl, rfl, hp, hu⟩ := hrel
    by_cases hlt : j < xs.length
    · have HS := Lib.hid (cntF_succ (f := (fun x => x.ps.length)) hlt)
      have HM := Lib.hid (cntF_le (f := (fun x => x.ps.length)) (xs := xs) (show j + 1 ≤ xs.length by omega))
      obtain ⟨b3, o3, c3', vs3, he3, -, -, -, hE3, hc3⟩ := (H.out.up hu.out).at_ hlt
      obtain ⟨rfl, rfl⟩ : A = some ⟨b3, o3, none⟩ ∧ c = c3' := by simpa using he3
      obtain ⟨A3, k3, rfl, hv3⟩ := InfoE.val hE3
      have f0 := (hc3 0 _ rfl).1
      have f1 := (hc3 1 _ rfl).1
      have f2 := (hc3 2 _ rfl).1
      have f3 := (hc3 3 _ rfl).1
      have f4 := (hc3 4 _ rfl).1
      have f5 := (hc3 5 _ rfl).1
      rw [Nat.add_zero] at f0
      have HV3 := Lib.hid hv3
      clear hc3 hv3 he3
      obtain ⟨q, hq⟩ : ∃ q, q = k - (xs.length : Int) - cntF (fun x => x.ps.length) xs j := ⟨_, rfl⟩
      rw [← hq] at hp ⊢
      have HQ := Lib.hid hq
      have HB : Hid (0 ≤ q ∧ q ≤ 1048576) := Lib.hid (by have := hp.out; omega)
      clear hq
      by_cases hx : (xs[j].ps.length : Int) ≤ q
      rotate_left
      · have HX : Hid (q < (xs[j].ps.length : Int)) := Lib.hid (by omega)
        clear hx
        go_wp2_with fail
        with_reducible refine (szInfo_no _ _ _ _ _ _ _ HB.out HX.out HV3.out).mono ?_
        rintro e w1 ⟨rfl, g1⟩
        have G1 := Lib.hid (Chg.trans hu.out g1)
        have hd2 : decide ((-1 : Int) < 0) = true := rfl
        clear f0 f1 f2 f3 f4 f5 g1
        go_wp2
        go_ret
        exact ⟨by simp, G1.out⟩
      have HX := Lib.hid hx
      clear hx
      go_wp2_with fail
      with_reducible refine (szInfo_ok _ _ _ _ _ _ _ HB.out HX.out HV3.out).mono ?_
      rintro e w1 ⟨rfl, g1⟩
      have G1 := Lib.hid (Chg.trans hu.out g1)
      have hd2 : decide (q - (xs[j].ps.length : Int) < 0) = false := decide_eq_false (by have := HX.out; omega)
      clear f0 f1 f2 f3 f4 f5 g1
      go_wp2
      go_roundw
      case rel => exact ⟨j + 1, by omega, by go_num, by rw [HS.out, HQ.out]; congr 1; omega, Lib.hid (by have h1 := HS.out; have h2 := HQ.out; have h3 := HX.out; omega), G1.out⟩
      case measure => first | (simp [intOf]; done) | (simp [intOf]; omega)
    · obtain rfl : j = xs.length := by omega
      exact absurd hp.out (by have := HL.out; have := HC.out; omega)
theorem infoInfoSV : (Try.prog.info? 164).map (fun i => (i.zero, i.size, i.bytes)) = some (some (.agg #[.int .i64 0, .int .i64 0, .int .i64 0, .int .i64 0, .int .i64 0, .slice none 0 0]), 6, 64) := by kernel_rfl
theorem toInfoSV_any (w : World) (M H L : Nat → Prop) (v : Value) (xs : List (InfM)) (hb : szF (fun x => x.ps.length) xs ≤ 1048576) (h : InfoSV w M H L v xs) :
    Calls Try.prog 52 #[v] w fun e w' => ∃ u M' H' L', e = .returned u ∧ ApartN w.heap.size w'.heap.size M' H' L' ∧ InfoSV w' M' H' L' u xs ∧ Up w w' := by
  obtain ⟨A, c, rfl, hlc, hcm, -⟩ := h.shape
  have H := Lib.hid h
  have hbl : xs.length ≤ 1048576 := by unfold szF at hb; omega
  have HB := Lib.hid hb
  clear h hb
  obtain ⟨i0, hi, hz0, hz1, hz2⟩ := info_parts infoInfoSV
  have hmk : ∀ u : World, (Instr.makeSlice 33 (.int .i64 (xs.length : Int)) (.int .i64 (xs.length : Int))).run Try.prog u =
      .ok (.slice (some ⟨u.heap.size, 0, none⟩) xs.length xs.length) (u.alloc (.cells (madeCells #[Value.int .i64 0, Value.int .i64 0, Value.int .i64 0, Value.int .i64 0, Value.int .i64 0, Value.slice none 0 0] (xs.length * 6)) 164)) := fun u => by
    have h := run_make (P := Try.prog) u 33 164 i0 (.agg #[.int .i64 0, .int .i64 0, .int .i64 0, .int .i64 0, .int .i64 0, .slice none 0 0]) Try.underlying33 hi hz0 .i64 .i64 (xs.length : Int) (xs.length : Int) (by omega) (Int.le_refl _) (by rw [hz2]; omega) (by omega)
    simpa [hz1, Value.cells] using h
  go_enter Try.func52, Try.ntmps52
  go_wp2
  have Hi := Lib.hid hmk
  clear hmk hi hz0 hz1 hz2
  go_loopw [4] (fun i wr => ∃ (j : Nat) (cs : List Value) (M' H' L' : Nat → Prop), j ≤ xs.length ∧ i = .int .i64 j ∧ Hid (Up w wr) ∧ w.heap.size < wr.heap.size ∧ Hid (ApartN (w.heap.size + 1) wr.heap.size M' H' L') ∧ Hid (Copying wr w.heap.size 6 xs.length j cs) ∧ Hid (ChunkIn 6 (InfoE M' H' L') wr cs xs j)) (fun i _ => xs.length - (intOf i).toNat)
  case atStart => exact ⟨0, [], Nowhere, Nowhere, Nowhere, by omega, rfl, (Chg.refl _ _).alloc _, by simp, ApartN.none _ _, Copying.start _ _ _ _ _ _ (by simp [size_madeCells]), ChunkIn.start⟩
  case round =>
    obtain ⟨j, cs, M1, H1, L1, hj, rfl, hg, hsz, hap, hcs, hin⟩ := hrel
    by_cases hlt : j < xs.length
    · have HBJ : Hid (xs[j].ps.length ≤ 1048576) := Lib.hid (by have h1 := szF_at (f := (fun x => x.ps.length)) hlt; have h3 := HB.out; omega)
      obtain ⟨b3, o3, c3', vs3, he3, -, -, -, hE3, hc3⟩ := (H.out.up hg.out).at_ hlt
      obtain ⟨rfl, rfl⟩ : A = some ⟨b3, o3, none⟩ ∧ c = c3' := by simpa using he3
      obtain ⟨A3, k3, rfl, hv3⟩ := InfoE.val hE3
      have f0 := (hc3 0 _ rfl).1
      have f1 := (hc3 1 _ rfl).1
      have f2 := (hc3 2 _ rfl).1
      have f3 := (hc3 3 _ rfl).1
      have f4 := (hc3 4 _ rfl).1
      have f5 := (hc3 5 _ rfl).1
      rw [Nat.add_zero] at f0
      have HV3 := Lib.hid hv3
      clear hc3 hv3 he3
      go_wp2_with fail
      with_reducible refine (toInfo_any _ _ _ _ _ xs[j] HBJ.out HV3.out).mono ?_
      rintro e w2 ⟨u, M2, H2, L2, rfl, ap2, k2, g2⟩
      obtain ⟨A4, k4, rfl, kk2⟩ := InfoV.val k2
      have HA2 := Lib.hid (ApartN.un hap.out ap2 (by omega) g2.size)
      have hcs := Lib.hid (Copying.up hcs.out g2)
      have hin := Lib.hid (ChunkIn.keep (E' := InfoE (Un M1 M2) (Un H1 H2) (Un L1 L2)) hin.out (fun _ _ h => (InfoE.up h g2).mono (fun _ _ h => .inl h) (fun _ _ h => .inl h) (fun _ _ h => .inl h)))
      have HG := Lib.hid (Chg.trans hg.out g2)
      have K4 := Lib.hid (InfoE.mono (InfoE.mk kk2) (M' := Un M1 M2) (H' := Un H1 H2) (L' := Un L1 L2) (fun _ _ h => .inr h) (fun _ _ h => .inr h) (fun _ _ h => .inr h))
      have hsz2 := Nat.lt_of_lt_of_le hsz g2.size
      have HN : Hid (∀ b, Un M1 M2 b ∨ Un H1 H2 b ∨ Un L1 L2 b → ¬ b = w.heap.size) := Lib.hid fun b hb he => by have := (HA2.out.1 b hb).1; omega
      clear g2 k2 kk2 ap2 f0 f1 f2 f3 f4 f5
      obtain ⟨u0, x0, q0⟩ := hcs.out.cell hlt 0 (by omega)
      obtain ⟨u1, x1, q1⟩ := hcs.out.cell hlt 1 (by omega)
      obtain ⟨u2, x2, q2⟩ := hcs.out.cell hlt 2 (by omega)
      obtain ⟨u3, x3, q3⟩ := hcs.out.cell hlt 3 (by omega)
      obtain ⟨u4, x4, q4⟩ := hcs.out.cell hlt 4 (by omega)
      obtain ⟨u5, x5, q5⟩ := hcs.out.cell hlt 5 (by omega)
      rw [Nat.add_zero] at x0 q0
      go_wp2
      go_roundw
      case rel =>
        exact ⟨j + 1, cs ++ [.int .i64 xs[j].kd, .int .i64 xs[j].car, .int .i64 xs[j].bed, .int .i64 xs[j].at_, .int .i64 xs[j].dir, .slice A4 xs[j].ps.length k4], _, _, _, by omega, by go_num, Chg.setCellsNew (Nat.le_refl _) [.int .i64 xs[j].kd, .int .i64 xs[j].car, .int .i64 xs[j].bed, .int .i64 xs[j].at_, .int .i64 xs[j].dir, .slice A4 xs[j].ps.length k4] (j * 6) HG.out, by simpa [World.setCell] using hsz2, Lib.hid (by simpa [World.setCell] using HA2.out), by exact Copying.nextm hcs.out hlt hin.out.1 (vs := [.int .i64 xs[j].kd, .int .i64 xs[j].car, .int .i64 xs[j].bed, .int .i64 xs[j].at_, .int .i64 xs[j].dir, .slice A4 xs[j].ps.length k4]) rfl, Lib.hid (ChunkIn.keep (E' := InfoE (Un M1 M2) (Un H1 H2) (Un L1 L2)) (ChunkIn.next hin.out hlt rfl (vs := [.int .i64 xs[j].kd, .int .i64 xs[j].car, .int .i64 xs[j].bed, .int .i64 xs[j].at_, .int .i64 xs[j].dir, .slice A4 xs[j].ps.length k4]) K4.out) (fun _ _ h => InfoE.keep h (T := fun b => b = w.heap.size) (Chg.setCells (S := fun b => b = w.heap.size) rfl [.int .i64 xs[j].kd, .int .i64 xs[j].car, .int .i64 xs[j].bed, .int .i64 xs[j].at_, .int .i64 xs[j].dir, .slice A4 xs[j].ps.length k4] (j * 6) (Chg.refl _ _)) (fun b h1 => HN.out b h1)))⟩
      case measure => first | (simp [intOf]; done) | (simp [intOf]; omega)
    · obtain rfl : j = xs.length := by omega
      go_wp2
      go_ret
      exact ⟨_, _, _, _, rfl, ApartN.addRow hap.out (Nat.le_refl _) hsz, (Nst.done (R := fun b => b = w.heap.size) hcs.out hin.out rfl hsz (by omega)).mono (fun vs x h => InfoE.mono h (fun _ _ h => .inr h) (fun _ _ h => h) (fun _ _ h => h)) (fun _ _ h => .inl h), hg.out⟩
theorem eqInfoSV_same (w : World) (M H L M' H' L' : Nat → Prop) (v u : Value) (xs : List (InfM)) (h : InfoSV w M H L v xs) (h2 : InfoSV w M' H' L' u xs) :
    Calls Try.prog 60 #[v, u] w fun e w' => e = .returned (.bool true) ∧ Up w w' := by
  obtain ⟨A, c, rfl, hlc, hcm, -⟩ := h.shape
  obtain ⟨A2, c2, rfl, hlc2, hcm2, -⟩ := h2.shape
  have H := Lib.hid h
  have H2 := Lib.hid h2
  clear h h2
  go_enter Try.func60, Try.ntmps60
  go_wp2
  go_loopw [5] (fun i wr => ∃ (j : Nat), j ≤ xs.length ∧ i = .int .i64 j ∧ Hid (Up w wr)) (fun i _ => xs.length - (intOf i).toNat)
  case atStart => exact ⟨0, by omega, rfl, Chg.refl _ _⟩
  case round =>
    obtain ⟨j, hj, rfl, hu⟩ := hrel
    by_cases hlt : j < xs.length
    · obtain ⟨b3, o3, c3', vs3, he3, -, -, -, hE3, hc3⟩ := (H.out.up hu.out).at_ hlt
      obtain ⟨rfl, rfl⟩ : A = some ⟨b3, o3, none⟩ ∧ c = c3' := by simpa using he3
      obtain ⟨A3, k3, rfl, hv3⟩ := InfoE.val hE3
      have f0 := (hc3 0 _ rfl).1
      have f1 := (hc3 1 _ rfl).1
      have f2 := (hc3 2 _ rfl).1
      have f3 := (hc3 3 _ rfl).1
      have f4 := (hc3 4 _ rfl).1
      have f5 := (hc3 5 _ rfl).1
      rw [Nat.add_zero] at f0
      have HV3 := Lib.hid hv3
      clear hc3 hv3 he3
      obtain ⟨b5, o5, c5', vs5, he5, -, -, -, hE5, hc5⟩ := (H2.out.up hu.out).at_ hlt
      obtain ⟨rfl, rfl⟩ : A2 = some ⟨b5, o5, none⟩ ∧ c2 = c5' := by simpa using he5
      obtain ⟨A5, k5, rfl, hv5⟩ := InfoE.val hE5
      have e0 := (hc5 0 _ rfl).1
      have e1 := (hc5 1 _ rfl).1
      have e2 := (hc5 2 _ rfl).1
      have e3 := (hc5 3 _ rfl).1
      have e4 := (hc5 4 _ rfl).1
      have e5 := (hc5 5 _ rfl).1
      rw [Nat.add_zero] at e0
      have HV5 := Lib.hid hv5
      clear hc5 hv5 he5
      go_wp2
      have qf0 := up_cell f0
      have qf1 := up_cell f1
      have qf2 := up_cell f2
      have qf3 := up_cell f3
      have qf4 := up_cell f4
      have qf5 := up_cell f5
      have qe0 := up_cell e0
      have qe1 := up_cell e1
      have qe2 := up_cell e2
      have qe3 := up_cell e3
      have qe4 := up_cell e4
      have qe5 := up_cell e5
      clear f0 f1 f2 f3 f4 f5 e0 e1 e2 e3 e4 e5
      refine wp_region_up (by kernel_rfl) (by kernel_rfl) ?_
      repeat (go_big_quiet_step (first | (go_at_call 118; with_reducible exact calls_up (eqInfo_same _ _ _ _ _ _ _ _ _ _ (HV3.out.up (UpOf.up _)) (HV5.out.up (UpOf.up _))))))
      refine wpQuiet_nil ?_
      rintro _ ⟨u, rfl⟩
      go_wp2
      go_roundw
      case rel => exact ⟨j + 1, by omega, by go_num, Lib.hid (Chg.trans hu.out u.up)⟩
      case measure => first | (simp [intOf]; done) | (simp [intOf]; omega)
    · obtain rfl : j = xs.length := by omega
      go_wp2
      go_ret
      exact ⟨rfl, hu.out⟩
end Go.Proofs.Ytchfjglofmphfaa
end
namespace Go.Proofs.Ytchfjglofmphfaa
open Go.ChangeShapes Go.WideShapes Go.ChangeAt Go.RowKit
structure CarM where
  isin : Bool
  pos : Int
def CarM.cells (x : CarM) : List Value := [.bool x.isin, .int .i64 x.pos]
def CarM.ok (x : CarM) : Prop := I64 x.pos
theorem CarM.cells_length (x : CarM) : x.cells.length = 2 := rfl
abbrev CarM.val (x : CarM) : Value := .agg #[.bool x.isin, .int .i64 x.pos]
/-- a slice that reads as the list xs -/
def Cars (w : World) (S : Nat → Prop) (v : Value) (xs : List CarM) : Prop := Raw w S 2 v xs.length (xs.flatMap CarM.cells) ∧ ∀ x ∈ xs, x.ok
section
variable {S T : Nat → Prop} {w w' : World} {v : Value} {xs : List CarM}
theorem Cars.keep (h : Cars w S v xs) (g : Chg T w w') (hd : ∀ b, b < w.heap.size → S b → ¬ T b) : Cars w' S v xs := ⟨h.1.keep g hd, h.2⟩
theorem Cars.up (h : Cars w S v xs) (g : Up w w') : Cars w' S v xs := ⟨h.1.up g, h.2⟩
theorem Cars.alloc' (h : Cars w S v xs) (o : Obj) : Cars (w.alloc o) S v xs := h.up ((Chg.refl _ _).alloc o)
theorem Cars.mono (h : Cars w S v xs) (hs : ∀ b, b < w.heap.size → S b → T b) : Cars w T v xs := ⟨h.1.mono hs, h.2⟩
theorem Cars.shape (h : Cars w S v xs) : ∃ A c, v = .slice A xs.length c ∧ xs.length ≤ c ∧ c ≤ 9223372036854775807 ∧ (A = none → c = 0) := h.1.shape
theorem Cars.nil (w : World) (S : Nat → Prop) (c : Nat) (A : Option Addr) (hc : c ≤ 9223372036854775807) (hA : A = none → c = 0 := by simp) : Cars w S (.slice A 0 c) [] := ⟨Raw.nil w S 2 c A hc hA, by simp⟩
theorem Cars.at_ (h : Cars w S v xs) {i : Nat} (hi : i < xs.length) : ∃ b o c, v = .slice (some ⟨b, o, none⟩) xs.length c ∧ S b ∧ b < w.heap.size ∧
    ∀ j u, (xs[i].cells)[j]? = some u → w.cell? ⟨b, o + i * 2 + j, none⟩ = some u ∧ w.frozen? ⟨b, o + i * 2 + j, none⟩ = false := Raw.at_ CarM.cells_length h.1 hi
end
theorem eqCarrier_same (w : World) (x : CarM) : Calls Try.prog 117 #[x.val, x.val] w fun e w' => e = .returned (.bool true) ∧ Up w w' := by
  go_enter Try.func117, Try.ntmps117
  go_wp2
  go_ret
  exact ⟨rfl, by repeat (first | exact Chg.refl _ _ | apply Chg.drew | apply Chg.drewN | refine Chg.alloc ?_ _)⟩
set_option maxRecDepth 100000 in
set_option maxHeartbeats 2000000 in
theorem eqCars (w : World) (S T : Nat → Prop) (v u : Value) (xs : List CarM) (h : Cars w S v xs) (h2 : Cars w T u xs) :
    Calls Try.prog 59 #[v, u] w fun e w' => e = .returned (.bool true) ∧ Up w w' := by
  obtain ⟨A, c, rfl, hlc, hcm, -⟩ := h.shape
  obtain ⟨A2, c2, rfl, hlc2, hcm2, -⟩ := h2.shape
  have hz : ((xs.length : Int) != xs.length) = false := by simp
  have H := Lib.hid h
  have H2 := Lib.hid h2
  clear h h2
  go_enter Try.func59, Try.ntmps59
  go_wp2
  go_loopw [5] (fun i wr => ∃ j : Nat, j ≤ xs.length ∧ i = .int .i64 j ∧ Hid (Up w wr)) (fun i _ => xs.length - (intOf i).toNat)
  case atStart => exact ⟨0, by omega, rfl, Chg.refl _ _⟩
  case round =>
    obtain ⟨j, hj, rfl, hg⟩ := hrel
    by_cases hlt : j < xs.length
    · obtain ⟨b, o, c', he, -, -, hc⟩ := (H.out.up hg.out).at_ hlt
      obtain ⟨b2, o2, c2', he2, -, -, hc2⟩ := (H2.out.up hg.out).at_ hlt
      obtain ⟨rfl, rfl⟩ : A = some ⟨b, o, none⟩ ∧ c = c' := by simpa using he
      obtain ⟨rfl, rfl⟩ : A2 = some ⟨b2, o2, none⟩ ∧ c2 = c2' := by simpa using he2
      have f0 := (hc 0 _ rfl).1
      have f1 := (hc 1 _ rfl).1
      have g0 := (hc2 0 _ rfl).1
      have g1 := (hc2 1 _ rfl).1
      rw [Nat.add_zero] at f0 g0
      clear hc hc2 he he2
      go_wp2
      go_still_tail 8, (by kernel_rfl)
      go_wp2_with fail
      refine (eqCarrier_same _ xs[j]).mono ?_
      rintro e w1 ⟨rfl, k1⟩
      have K1 := Lib.hid k1
      clear k1
      go_wp2
      go_roundw
      case rel => exact ⟨j + 1, by omega, by go_num, (hg.out.drew).trans K1.out⟩
      case measure => simp [intOf]; omega
    · go_wp2
      go_ret
      exact ⟨rfl, hg.out⟩
end Go.Proofs.Ytchfjglofmphfaa
namespace Go.Proofs.Ytchfjglofmphfaa
open Go.ChangeShapes Go.WideShapes Go.ChangeAt Go.RowKit
def cntCars (xs : List CarM) : Nat := xs.length * 2
theorem infoCars : (Try.prog.info? 161).map (fun i => (i.zero, i.size, i.bytes)) = some (some (CarM.mk false 0).val, 2, 16) := by kernel_rfl
theorem szCars_ok (w : World) (S : Nat → Prop) (v : Value) (xs : List CarM) (k : Int) (hk : 0 ≤ k ∧ k ≤ 1048576) (hl : (xs.length : Int) ≤ k) (h : Cars w S v xs) :
    Calls Try.prog 43 #[v, .int .i64 k] w fun e w' => e = .returned (.int .i64 (k - xs.length)) ∧ w = w' := by
  obtain ⟨A, c, rfl, hlc, hcm, -⟩ := h.shape
  clear h
  have hd : decide (k - (xs.length : Int) < 0) = false := decide_eq_false (by omega)
  go_enter Try.func43, Try.ntmps43
  go_wp2
  go_ret
  exact ⟨rfl, rfl⟩
theorem szCars_no (w : World) (S : Nat → Prop) (v : Value) (xs : List CarM) (k : Int) (hk : 0 ≤ k ∧ k ≤ 1048576) (hl : k < (xs.length : Int)) (h : Cars w S v xs) :
    Calls Try.prog 43 #[v, .int .i64 k] w fun e w' => e = .returned (.int .i64 (-1)) ∧ w = w' := by
  obtain ⟨A, c, rfl, hlc, hcm, -⟩ := h.shape
  clear h
  have hd : decide (k - (xs.length : Int) < 0) = true := decide_eq_true (by omega)
  go_enter Try.func43, Try.ntmps43
  go_wp2
  go_ret
  exact ⟨rfl, rfl⟩
theorem toCarrier_any (w : World) (x : CarM) :
    Calls Try.prog 111 #[x.val] w fun e w' => e = .returned x.val ∧ Up w w' := by
  go_enter Try.func111, Try.ntmps111
  go_wp2
  exact bodyPost_ret (v := x.val) (by simp [results, Try.results111, go_sem]) rfl ⟨rfl, by repeat (first | exact Chg.refl _ _ | refine Chg.alloc ?_ _)⟩
set_option maxRecDepth 100000 in
set_option maxHeartbeats 4000000 in
theorem toCars (w : World) (S : Nat → Prop) (v : Value) (xs : List CarM) (hb : cntCars xs ≤ 8388608) (h : Cars w S v xs) :
    Calls Try.prog 51 #[v] w fun e w' => ∃ u, e = .returned u ∧ Cars w' (New w.heap.size w'.heap.size) u xs ∧ Up w w' := by
  unfold cntCars at hb
  obtain ⟨A, c, rfl, hlc, hcm, -⟩ := h.shape
  have H := Lib.hid h
  clear h
  obtain ⟨i0, hi, hz0, hz1, hz2⟩ := info_parts infoCars
  have hmk : ∀ u : World, (Instr.makeSlice 32 (.int .i64 (xs.length : Int)) (.int .i64 (xs.length : Int))).run Try.prog u =
      .ok (.slice (some ⟨u.heap.size, 0, none⟩) xs.length xs.length) (u.alloc (.cells (madeCells (CarM.mk false 0).cells.toArray (xs.length * 2)) 161)) := fun u => by
    have h := run_make (P := Try.prog) u 32 161 i0 (CarM.mk false 0).val Try.underlying32 hi hz0 .i64 .i64 (xs.length : Int) (xs.length : Int) (by omega) (Int.le_refl _) (by rw [hz2]; omega) (by omega)
    simpa [hz1, Value.cells, CarM.cells] using h
  go_enter Try.func51, Try.ntmps51
  go_wp2
  have Hi := Lib.hid hmk
  clear hmk hi hz0 hz1 hz2
  go_loopw [4] (fun i wr => ∃ j : Nat, j ≤ xs.length ∧ i = .int .i64 j ∧ Hid (Up w wr) ∧ w.heap.size < wr.heap.size ∧
      Hid (Copying wr w.heap.size 2 xs.length j (xs.flatMap CarM.cells))) (fun i _ => xs.length - (intOf i).toNat)
  case atStart => exact ⟨0, by omega, rfl, (Chg.refl _ _).alloc _, by simp, Copying.start _ _ _ _ _ _ (by simp [size_madeCells])⟩
  case round =>
    obtain ⟨j, hj, rfl, hg, hsz, hcs⟩ := hrel
    by_cases hlt : j < xs.length
    · obtain ⟨b, o, c', he, -, hbl, hc⟩ := (H.out.up hg.out).at_ hlt
      obtain ⟨rfl, rfl⟩ : A = some ⟨b, o, none⟩ ∧ c = c' := by simpa using he
      have f0 := (hc 0 _ rfl).1
      have f1 := (hc 1 _ rfl).1
      rw [Nat.add_zero] at f0
      clear hc he
      go_wp2_with fail
      refine (toCarrier_any _ xs[j]).mono ?_
      rintro e w2 ⟨rfl, g2⟩
      have hcs := Lib.hid (Copying.up hcs.out g2)
      have hg := Lib.hid (Chg.trans hg.out g2)
      have hsz := Nat.lt_of_lt_of_le hsz g2.size
      clear g2
      obtain ⟨u0, c0, q0⟩ := hcs.out.cell hlt 0 (by omega)
      obtain ⟨u1, c1, q1⟩ := hcs.out.cell hlt 1 (by omega)
      rw [Nat.add_zero] at c0 q0
      go_wp2
      go_roundw
      case rel =>
        refine ⟨j + 1, by omega, by go_num, Chg.setCellsNew (Nat.le_refl _) xs[j].cells (j * 2) hg.out, ?_, Copying.next hcs.out hlt (vs := xs[j].cells) rfl (fun i hi => ?_)⟩
        · simpa [World.setCell] using hsz
        · rw [flat_get CarM.cells 2 CarM.cells_length xs j hlt i hi]
          exact List.getElem?_eq_getElem hi
      case measure => simp [intOf]; omega
    · obtain rfl : j = xs.length := by omega
      go_wp2
      go_ret
      exact ⟨_, rfl, ⟨Copying.done hcs.out ⟨Nat.le_refl _, hsz⟩ hsz (flat_length CarM.cells 2 CarM.cells_length xs) (by omega), H.out.2⟩, hg.out⟩
end Go.Proofs.Ytchfjglofmphfaa
section
set_option linter.unusedSimpArgs false
set_option linter.unusedVariables false
set_option maxRecDepth 100000
set_option maxHeartbeats 1000000
namespace Go.Proofs.Ytchfjglofmphfaa
open Go.ChangeShapes Go.WideShapes Go.ChangeAt Go.RowKit
def CarsL (w : World) (M H L : Nat → Prop) (v : Value) (xs : List CarM) : Prop := Cars w L v xs
theorem CarsL.keep {M H L T : Nat → Prop} {w w' : World} {v : Value} {xs : List CarM} (h : CarsL w M H L v xs) (g : Chg T w w') (hd : ∀ b, M b ∨ H b ∨ L b → ¬ T b) : CarsL w' M H L v xs := Cars.keep h g (fun b _ hb => hd b (.inr (.inr hb)))
theorem CarsL.up {M H L : Nat → Prop} {w w' : World} {v : Value} {xs : List CarM} (h : CarsL w M H L v xs) (g : Up w w') : CarsL w' M H L v xs := Cars.up h g
theorem CarsL.mono {M H L M' H' L' : Nat → Prop} {w : World} {v : Value} {xs : List CarM} (h : CarsL w M H L v xs) (hm : ∀ b, b < w.heap.size → M b → M' b) (hr : ∀ b, b < w.heap.size → H b → H' b) (hl : ∀ b, b < w.heap.size → L b → L' b) : CarsL w M' H' L' v xs := Cars.mono h hl
theorem CarsL.shape {M H L : Nat → Prop} {w : World} {v : Value} {xs : List CarM} (h : CarsL w M H L v xs) : ∃ A c, v = .slice A xs.length c ∧ xs.length ≤ c ∧ c ≤ 9223372036854775807 ∧ (A = none → c = 0) := Cars.shape h
theorem szCarsL_ok (w : World) (M H L : Nat → Prop) (v : Value) (xs : List CarM) (k : Int) (hk : 0 ≤ k ∧ k ≤ 1048576) (hl : (xs.length : Int) ≤ k) (h : CarsL w M H L v xs) :
    Calls Try.prog 43 #[v, .int .i64 k] w fun e w' => e = .returned (.int .i64 (k - xs.length)) ∧ Up w w' :=
  (szCars_ok w L v xs k hk hl h).mono fun _ _ ⟨he, hw⟩ => ⟨he, hw ▸ Chg.refl _ _⟩
theorem szCarsL_no (w : World) (M H L : Nat → Prop) (v : Value) (xs : List CarM) (k : Int) (hk : 0 ≤ k ∧ k ≤ 1048576) (hl : k < (xs.length : Int)) (h : CarsL w M H L v xs) :
    Calls Try.prog 43 #[v, .int .i64 k] w fun e w' => e = .returned (.int .i64 (-1)) ∧ Up w w' :=
  (szCars_no w L v xs k hk hl h).mono fun _ _ ⟨he, hw⟩ => ⟨he, hw ▸ Chg.refl _ _⟩
theorem toCarsL_any (w : World) (M H L : Nat → Prop) (v : Value) (xs : List CarM) (hb : xs.length ≤ 1048576) (h : CarsL w M H L v xs) :
    Calls Try.prog 51 #[v] w fun e w' => ∃ u M' H' L', e = .returned u ∧ ApartN w.heap.size w'.heap.size M' H' L' ∧ CarsL w' M' H' L' u xs ∧ Up w w' :=
  (toCars w L v xs (by unfold cntCars; omega) h).mono fun _ w' ⟨u, he, hi, hg⟩ => ⟨u, Nowhere, Nowhere, New w.heap.size w'.heap.size, he, ⟨fun b hb => hb.elim (fun h => h.elim) fun h => h.elim (fun h => h.elim) fun h => h, fun b h => h.elim, fun b h => h.elim, fun b h => h.elim⟩, hi, hg⟩
theorem eqCarsL_same (w : World) (M H L M' H' L' : Nat → Prop) (v u : Value) (xs : List CarM) (h : CarsL w M H L v xs) (h2 : CarsL w M' H' L' u xs) :
    Calls Try.prog 59 #[v, u] w fun e w' => e = .returned (.bool true) ∧ Up w w' :=
  eqCars w L L' v u xs h h2
end Go.Proofs.Ytchfjglofmphfaa
end
