/- Arguments that are slices of records of whole numbers, as lists. No condition. Arguments that are structs with a slice of numbers. No condition. Arguments that are nested slices, and slices of structs with slices. No condition. Arguments that are proofs. No condition. Arguments that are machines: carriers and loops. No condition. The laws' helpers on machines in the form that the laws' walk wants. No condition but room. Machines: the lists on a bed, joined. No condition. -/
import Derived.Test.YtchfjglofmphfaaRB1
import Derived.Deep.Slices
import Derived.Deep.Fields
import Derived.ChangeSame
import Derived.Test.YtchfjglofmphfaaRB3
import Derived.Lib.SmallJoins
import Derived.Test.YtchfjglofmphfaaRB4
import Derived.Test.YtchfjglofmphfaaRB8
import Derived.Test.YtchfjglofmphfaaRB6
namespace Go.Proofs.Ytchfjglofmphfaa
open Go.ChangeShapes Go.WideShapes Go.ChangeAt Go.RowKit Go.Deep
section
variable {H : Type} {enc : TypeId × Value → H} {P : Program} {w : World}
/-- from 'each of the first m elements reads as a record' to one list -/
theorem rows_of {α : Type} {Q : Nat → α → Prop} : ∀ (m : Nat), (∀ i, i < m → ∃ y, Q i y) → ∃ ys : List α, ys.length = m ∧ ∀ i (h : i < ys.length), Q i ys[i]
  | 0, _ => ⟨[], rfl, fun i h => absurd h (by simp)⟩
  | m + 1, h => by
    obtain ⟨ys, hl, hq⟩ := rows_of m (fun i hi => h i (by omega))
    obtain ⟨y, hy⟩ := h m (by omega)
    refine ⟨ys ++ [y], by simp [hl], fun i hi => ?_⟩
    by_cases e : i < ys.length
    · rw [List.getElem_append_left e]; exact hq i e
    · have hi' : i = m := by simp at hi; omega
      subst hi'
      rw [List.getElem_append_right (by omega)]
      simpa [hl] using hy
theorem open_rows {α : Type} (f : α → List Value) (k : Nat) (ok : α → Prop) (hf : ∀ x, (f x).length = k) {t e : TypeId} {v : Value} {d : DataW H} {p : List MemPlace} {base : Nat}
    (ht : P.underlying t = some (.slice e)) (hC : P.cellsOf e = k) (hv : Value.okWide P w .any base t v) (hk : 0 < k)
    (hdec : ∀ n cs x, DataW.trod enc P w 0 (fun _ => true) true n e cs = some x → ∃ y, cs = f y ∧ ok y)
    (h : DataW.Trod enc P w 0 (fun _ => true) true t v d p) (hz : ∀ b off, MemPlace.cell b off ∈ p → w.frozen? ⟨b, off, none⟩ = false) :
    ∃ xs : List α, Raw w (fun b => b < w.heap.size) k v xs.length (xs.flatMap f) ∧ ∀ x ∈ xs, ok x := by
  obtain ⟨a0, len, cap, rfl⟩ := okWide_slice ht hv
  obtain ⟨fuel, hfu⟩ := h
  rcases open_slice ht hfu with ⟨hcs, hx⟩ | ⟨a, len', cap', m, n, D, Pl, hcs, _, hl, hm, hmm, hx, hi⟩
  · simp [Value.cells] at hcs
    obtain ⟨rfl, rfl, rfl⟩ := hcs
    exact ⟨[], Raw.nil _ _ _ _ _ (by omega) (by simp), by simp⟩
  · simp [Value.cells] at hcs
    obtain ⟨rfl, rfl, rfl⟩ := hcs
    simp at hmm
    rw [hC] at hi hx
    obtain ⟨ys, hyl, hy⟩ := rows_of (Q := fun i y => ok y ∧ ∀ j u, (f y)[j]? = some u → w.cell? (a.add (i * k + j)) = some u) len (fun i hil => by
      obtain ⟨cs', hc, htr⟩ := hi i (by omega)
      obtain ⟨y, rfl, hok⟩ := hdec _ _ _ htr
      obtain ⟨_, hcl, hat⟩ := World.cells?_some hc
      refine ⟨y, hok, fun j u hu => ?_⟩
      have hj : j < k := by
        obtain ⟨h1, _⟩ := List.getElem?_eq_some_iff.1 hu
        rw [hf] at h1; exact h1
      rw [← Go.Deep.add_add, hat j hj, hu])
    subst hyl
    unfold Go.maxLen at hm
    have hspot : 0 < ys.length → ∃ b o, a = ⟨b, o, none⟩ := fun hp => by
      obtain ⟨b, o, s⟩ := a
      have h0 := (hy 0 hp).2 0 _ (List.getElem?_eq_getElem (by rw [hf]; exact hk))
      have hs : s = none := by simpa [Addr.add] using World.cell?_spot h0
      subst hs
      exact ⟨b, o, rfl⟩
    refine ⟨ys, ⟨?_, some a, cap, rfl, hl, by omega, fun hp => ?_, by simp⟩, fun x hx => ?_⟩
    · exact flat_length f k hf ys
    · obtain ⟨b, o, rfl⟩ := hspot hp
      have h0 := (hy 0 hp).2 0 _ (List.getElem?_eq_getElem (by rw [hf]; exact hk))
      have hb : b < w.heap.size := by
        have := World.block_lt_of_cell? w _ h0
        simpa [Addr.add] using this
      refine ⟨b, o, rfl, hb, hb, fun q hq => ?_⟩
      have hlen := flat_length f k hf ys
      have hqk : q < ys.length * k := by omega
      have hdi : q / k < ys.length := Nat.div_lt_of_lt_mul (by rw [Nat.mul_comm]; exact hqk)
      have hmo : q % k < k := Nat.mod_lt _ hk
      have hde : q / k * k + q % k = q := by rw [Nat.mul_comm]; exact Nat.div_add_mod q k
      have hg := flat_get f k hf ys (q / k) hdi (q % k) hmo
      rw [hde] at hg
      have hcell := (hy (q / k) hdi).2 (q % k) _ (by rw [← hg]; exact List.getElem?_eq_getElem hq)
      rw [hde, Go.WideShapes.add_plain] at hcell
      refine ⟨hcell, hz b (o + q) ?_⟩
      simp only [Prod.mk.injEq] at hx
      rw [hx.2]
      refine List.mem_append_left _ ?_
      simp [MemPlace.row]
      have : ys.length * k ≤ m * k := Nat.mul_le_mul_right k (by omega)
      omega
    · obtain ⟨i, hi, rfl⟩ := List.getElem_of_mem hx
      exact (hy i hi).1
theorem struct_sub {t : TypeId} {n : Nat} {cs : List Value} {x : DataW H × List MemPlace} {fs : Array Field} (ht : P.underlying t = some (.struct fs)) (h : DataW.trod enc P w 0 (fun _ => true) true n t cs = some x)
    {i : Nat} {f : Field} (hf : fs[i]? = some f) : ∃ m y, DataW.trod enc P w 0 (fun _ => true) true m f.type ((cs.drop f.offset).take (P.cellsOf f.type)) = some y := by
  obtain ⟨ys, m, _, _, _, hl, hg⟩ := DataW.trod_struct ht h
  have hi := (Array.getElem?_eq_some_iff.1 hf).1
  exact ⟨m, ys[i]'(by omega), (hg i f hf).trans (List.getElem?_eq_getElem (by omega))⟩
theorem struct_int {t : TypeId} {n : Nat} {cs : List Value} {x : DataW H × List MemPlace} {fs : Array Field} (ht : P.underlying t = some (.struct fs)) (h : DataW.trod enc P w 0 (fun _ => true) true n t cs = some x)
    {i : Nat} {f : Field} (hf : fs[i]? = some f) (hu : P.underlying f.type = some (.int .i64)) (hc : P.cellsOf f.type = 1) : ∃ z, cs[f.offset]? = some (.int .i64 z) ∧ I64 z := by
  obtain ⟨m, y, hy⟩ := struct_sub ht h hf
  rw [hc] at hy
  obtain ⟨z, he, _, hw⟩ := DataW.trod_int hu hy
  refine ⟨z, ?_, I64.of_wf hw⟩
  have := congrArg (fun l => l[0]?) he
  simpa using this
theorem struct_len {t : TypeId} {n : Nat} {cs : List Value} {x : DataW H × List MemPlace} {fs : Array Field} (ht : P.underlying t = some (.struct fs)) (h : DataW.trod enc P w 0 (fun _ => true) true n t cs = some x) :
    cs.length = P.cellsOf t := by
  obtain ⟨_, _, _, _, hl, _⟩ := DataW.trod_struct ht h
  exact hl
theorem len2 {cs : List Value} (h : cs.length = 2) : ∃ a b, cs = [a, b] := by
  match cs, h with
  | [a, b], _ => exact ⟨a, b, rfl⟩
theorem len8 {cs : List Value} (h : cs.length = 8) : ∃ a b c d e f g i, cs = [a, b, c, d, e, f, g, i] := by
  match cs, h with
  | [a, b, c, d, e, f, g, i], _ => exact ⟨a, b, c, d, e, f, g, i, rfl⟩
end
theorem int1 : Try.prog.cellsOf 2 = 1 := by kernel_rfl
section
variable {H : Type} {enc : TypeId × Value → H} {w : World}
end
end Go.Proofs.Ytchfjglofmphfaa
namespace Go.Proofs.Ytchfjglofmphfaa
open Go.ChangeShapes Go.WideShapes Go.ChangeAt Go.RowKit Go.Deep
theorem open_IntsT {H : Type} {enc : TypeId × Value → H} {P : Program} {w : World} {t e : TypeId} {n : Nat} {u : Value} {y : DataW H × List MemPlace}
    (ht : P.underlying t = some (.slice e)) (he : P.underlying e = some (.int .i64)) (hC : P.cellsOf e = 1)
    (h : DataW.trod enc P w 0 (fun _ => true) true n t [u] = some y) (hz : ∀ b off, MemPlace.cell b off ∈ y.2 → w.frozen? ⟨b, off, none⟩ = false) :
    ∃ xs, Ints w (fun b => b < w.heap.size) u xs := by
  rcases open_ints ht he hC h with ⟨hcs, hx⟩ | ⟨a, len', cap', zs, hcs, _, hl, hm, hlen, hx, hcell, hwz⟩
  · simp at hcs
    subst hcs
    exact ⟨[], Ints.nil _ _ _ _ (by omega)⟩
  · simp at hcs
    subst hcs
    unfold Go.maxLen at hm
    simp at hlen
    have hzl : (zs.take len').length = len' := by simp; omega
    refine ⟨zs.take len', some a, cap', by rw [hzl], by rw [hzl]; exact hl, by omega, fun x hx => I64.of_wf (hwz x (List.mem_of_mem_take hx)), fun hp => ?_, by simp⟩
    rw [hzl] at hp
    obtain ⟨b, off, rfl, hc⟩ := ints_at hcell (by omega)
    have hb : b < w.heap.size := World.block_lt_of_cell? w _ (hc 0 (by omega))
    refine ⟨b, off, rfl, hb, hb, fun j hj => ?_⟩
    have hj' : j < len' := by rwa [hzl] at hj
    have hjz : j < zs.length := by omega
    refine ⟨by rw [hc j hjz]; simp [hjz], hz b (off + j) ?_⟩
    rw [hx]
    simp [MemPlace.row]
    exact hjz
end Go.Proofs.Ytchfjglofmphfaa
section
set_option linter.unusedSimpArgs false
set_option linter.unusedVariables false
namespace Go.Proofs.Ytchfjglofmphfaa
open Go.ChangeShapes Go.WideShapes Go.ChangeAt Go.RowKit Go.Deep
theorem flat_chunk {α : Type} (f : α → List Value) (k : Nat) (hf : ∀ x, (f x).length = k) (xs : List α) (i : Nat) (hi : i < xs.length) : ((xs.flatMap f).drop (i * k)).take k = f xs[i] := by
  refine List.ext_getElem? fun j => ?_
  by_cases hj : j < k
  · rw [List.getElem?_take_of_lt hj, List.getElem?_drop, flat_get f k hf xs i hi j hj]
  · rw [List.getElem?_eq_none (by simp; omega), List.getElem?_eq_none (by rw [hf]; omega)]
theorem open_nst {α : Type} {H : Type} {enc : TypeId × Value → H} {P : Program} {w : World} (E : World → List Value → α → Prop) (k : Nat) (hk : 0 < k) {t e : TypeId} {n : Nat} {u : Value} {y : DataW H × List MemPlace}
    (ht : P.underlying t = some (.slice e)) (hC : P.cellsOf e = k)
    (hdec : ∀ n cs x, DataW.trod enc P w 0 (fun _ => true) true n e cs = some x → (∀ b off, MemPlace.cell b off ∈ x.2 → w.frozen? ⟨b, off, none⟩ = false) → cs.length = k → ∃ a : α, E w cs a)
    (h : DataW.trod enc P w 0 (fun _ => true) true n t [u] = some y) (hz : ∀ b off, MemPlace.cell b off ∈ y.2 → w.frozen? ⟨b, off, none⟩ = false) :
    ∃ xs, Nst k E w (fun b => b < w.heap.size) u xs := by
  rcases open_slice ht h with ⟨hcs, hx⟩ | ⟨a, len, cap, m, n, D, Pl, hcs, _, hl, hm, hmm, hx, hi⟩
  · simp at hcs
    subst hcs
    exact ⟨[], Nst.nil _ _ _ _ (by omega)⟩
  · simp at hcs
    subst hcs
    simp at hmm
    rw [hC] at hi hx
    unfold Go.maxLen at hm
    obtain ⟨ys, hyl, hy⟩ := rows_of (Q := fun i (p : {p : List Value × α // p.1.length = k}) => E w p.1.1 p.1.2 ∧ ∀ j v, p.1.1[j]? = some v → w.cell? (a.add (i * k + j)) = some v) len (fun i hil => by
      obtain ⟨cs', hc, htr⟩ := hi i (by omega)
      obtain ⟨_, hcl, hat⟩ := World.cells?_some hc
      obtain ⟨r, hr⟩ := hdec _ _ _ htr (fun b off hm9 => hz b off (by
        rw [hx]
        exact List.mem_append_right _ (List.mem_flatMap.2 ⟨i, by simp; omega, hm9⟩))) hcl
      refine ⟨⟨(cs', r), hcl⟩, hr, fun j v hv => ?_⟩
      have hj : j < k := by
        obtain ⟨h1, _⟩ := List.getElem?_eq_some_iff.1 hv
        have h1 : j < cs'.length := h1
        omega
      rw [← Go.Deep.add_add, hat j hj]
      exact hv)
    subst hyl
    have hf : ∀ x : {p : List Value × α // p.1.length = k}, (fun p : {p : List Value × α // p.1.length = k} => p.1.1) x = x.1.1 := fun _ => rfl
    have hfl : ∀ x : {p : List Value × α // p.1.length = k}, x.1.1.length = k := fun x => x.2
    have hlen := flat_length (fun p : {p : List Value × α // p.1.length = k} => p.1.1) k hfl ys
    refine ⟨ys.map fun p => p.1.2, ys.flatMap fun p => p.1.1, ⟨by rw [hlen, List.length_map], some a, cap, by rw [List.length_map], by rw [List.length_map]; exact hl, by omega, fun hp => ?_, by simp⟩, fun i hi' => ?_⟩
    · rw [List.length_map] at hp
      have h0 := (hy 0 hp).2 0 _ (List.getElem?_eq_getElem (by rw [hfl]; exact hk))
      obtain ⟨b, o, s⟩ := a
      have hs : s = none := by simpa [Addr.add] using World.cell?_spot h0
      subst hs
      have hb : b < w.heap.size := by
        have := World.block_lt_of_cell? w _ h0
        simpa [Addr.add] using this
      refine ⟨b, o, rfl, hb, hb, fun q hq => ?_⟩
      have hqk : q < ys.length * k := by omega
      have hdi : q / k < ys.length := Nat.div_lt_of_lt_mul (by rw [Nat.mul_comm]; exact hqk)
      have hmo : q % k < k := Nat.mod_lt _ hk
      have hde : q / k * k + q % k = q := by rw [Nat.mul_comm]; exact Nat.div_add_mod q k
      have hg := flat_get (fun p : {p : List Value × α // p.1.length = k} => p.1.1) k hfl ys (q / k) hdi (q % k) hmo
      rw [hde] at hg
      have hcell := (hy (q / k) hdi).2 (q % k) _ (by rw [← hg]; exact List.getElem?_eq_getElem hq)
      rw [hde, Go.WideShapes.add_plain] at hcell
      refine ⟨hcell, hz b (o + q) ?_⟩
      rw [hx]
      refine List.mem_append_left _ ?_
      simp [MemPlace.row]
      have : ys.length * k ≤ m * k := Nat.mul_le_mul_right k (by omega)
      omega
    · rw [List.length_map] at hi'
      rw [flat_chunk (fun p : {p : List Value × α // p.1.length = k} => p.1.1) k hfl ys i hi', List.getElem_map]
      exact (hy i hi').1
theorem flat_of_chunks {α : Type} (f : α → List Value) (k : Nat) (hk : 0 < k) (hf : ∀ x, (f x).length = k) (xs : List α) (cs : List Value) (hl : cs.length = xs.length * k) (h : ∀ i (hi : i < xs.length), (cs.drop (i * k)).take k = f xs[i]) : cs = xs.flatMap f := by
  have hlen := flat_length f k hf xs
  refine List.ext_getElem? fun q => ?_
  by_cases hq : q < xs.length * k
  · have hdi : q / k < xs.length := Nat.div_lt_of_lt_mul (by rw [Nat.mul_comm]; exact hq)
    have hmo : q % k < k := Nat.mod_lt _ hk
    have hde : q / k * k + q % k = q := by rw [Nat.mul_comm]; exact Nat.div_add_mod q k
    have hg := flat_get f k hf xs (q / k) hdi (q % k) hmo
    rw [hde, ← h _ hdi, List.getElem?_take_of_lt hmo, List.getElem?_drop, hde] at hg
    exact hg.symm
  · rw [List.getElem?_eq_none (by omega), List.getElem?_eq_none (by omega)]
section
variable {H : Type} {enc : TypeId × Value → H} {P : Program} {w : World}
theorem struct_subz {t : TypeId} {n : Nat} {cs : List Value} {x : DataW H × List MemPlace} {fs : Array Field} (ht : P.underlying t = some (.struct fs)) (h : DataW.trod enc P w 0 (fun _ => true) true n t cs = some x)
    (hz : ∀ b off, MemPlace.cell b off ∈ x.2 → w.frozen? ⟨b, off, none⟩ = false) {i : Nat} {f : Field} (hf : fs[i]? = some f) :
    ∃ m y, DataW.trod enc P w 0 (fun _ => true) true m f.type ((cs.drop f.offset).take (P.cellsOf f.type)) = some y ∧ ∀ b off, MemPlace.cell b off ∈ y.2 → w.frozen? ⟨b, off, none⟩ = false := by
  obtain ⟨ys, m, _, hx, _, hl, hg⟩ := DataW.trod_struct ht h
  have hi := (Array.getElem?_eq_some_iff.1 hf).1
  refine ⟨m, ys[i]'(by omega), (hg i f hf).trans (List.getElem?_eq_getElem (by omega)), fun b off hm => hz b off ?_⟩
  rw [hx]
  exact List.mem_flatMap.2 ⟨_, List.getElem_mem _, hm⟩
theorem len1 {cs : List Value} (h : cs.length = 1) : ∃ a, cs = [a] := by
  match cs, h with
  | [a], _ => exact ⟨a, rfl⟩
theorem len3 {cs : List Value} (h : cs.length = 3) : ∃ a b c, cs = [a, b, c] := by
  match cs, h with
  | [a, b, c], _ => exact ⟨a, b, c, rfl⟩
theorem len6 {cs : List Value} (h : cs.length = 6) : ∃ a b c d e f, cs = [a, b, c, d, e, f] := by
  match cs, h with
  | [a, b, c, d, e, f], _ => exact ⟨a, b, c, d, e, f, rfl⟩
end
end Go.Proofs.Ytchfjglofmphfaa
end
section
set_option linter.unusedSimpArgs false
set_option linter.unusedVariables false
namespace Go.Proofs.Ytchfjglofmphfaa
open Go.ChangeShapes Go.WideShapes Go.ChangeAt Go.RowKit Go.Deep
section
variable {H : Type} {enc : TypeId × Value → H} {w : World}
theorem sl1 : Try.prog.cellsOf 25 = 1 := by kernel_rfl
theorem dec_IntsE (n : Nat) (cs : List Value) (x : DataW H × List MemPlace) (h : DataW.trod enc Try.prog w 0 (fun _ => true) true n 25 cs = some x) (hz : ∀ b off, MemPlace.cell b off ∈ x.2 → w.frozen? ⟨b, off, none⟩ = false) (hl : cs.length = 1) :
    ∃ a, IntsE (fun b => b < w.heap.size) w cs a := by
  obtain ⟨u, rfl⟩ := len1 hl
  obtain ⟨xs, hx⟩ := open_IntsT Try.underlying25 Try.underlying2 (by kernel_rfl) h hz
  obtain ⟨A, c, rfl, k1, k2, -⟩ := hx.shape
  exact ⟨xs, A, c, rfl, hx, k1, k2⟩
theorem open_IntSST {n : Nat} {u : Value} {y : DataW H × List MemPlace} (h : DataW.trod enc Try.prog w 0 (fun _ => true) true n 22 [u] = some y) (hz : ∀ b off, MemPlace.cell b off ∈ y.2 → w.frozen? ⟨b, off, none⟩ = false) :
    ∃ xs, IntSSV w (fun b => b < w.heap.size) (fun b => b < w.heap.size) (fun b => b < w.heap.size) u xs :=
  open_nst (IntsE (fun b => b < w.heap.size)) 1 (by omega) Try.underlying22 sl1 (fun n cs x h hz hl => dec_IntsE n cs x h hz hl) h hz
set_option maxRecDepth 100000 in
theorem dec_Event (n : Nat) (cs : List Value) (x : DataW H × List MemPlace) (h : DataW.trod enc Try.prog w 0 (fun _ => true) true n 145 cs = some x) : ∃ y : EvM, cs = y.cells ∧ y.ok := by
  obtain ⟨a0, a1, a2, a3, a4, a5, rfl⟩ := len6 ((struct_len Try.underlying145 h).trans (by kernel_rfl))
  obtain ⟨z0, e0, i0⟩ := struct_int Try.underlying145 h (i := 0) rfl Try.underlying2 int1
  obtain ⟨z1, e1, i1⟩ := struct_int Try.underlying145 h (i := 1) rfl Try.underlying2 int1
  obtain ⟨z2, e2, i2⟩ := struct_int Try.underlying145 h (i := 2) rfl Try.underlying2 int1
  obtain ⟨z3, e3, i3⟩ := struct_int Try.underlying145 h (i := 3) rfl Try.underlying2 int1
  obtain ⟨z4, e4, i4⟩ := struct_int Try.underlying145 h (i := 4) rfl Try.underlying2 int1
  obtain ⟨z5, e5, i5⟩ := struct_int Try.underlying145 h (i := 5) rfl Try.underlying2 int1
  simp at e0 e1 e2 e3 e4 e5
  subst e0 e1 e2 e3 e4 e5
  exact ⟨⟨z0, z1, z2, z3, z4, z5⟩, rfl, i0, i1, i2, i3, i4, i5⟩
theorem open_EvsT {n : Nat} {u : Value} {y : DataW H × List MemPlace} (h : DataW.trod enc Try.prog w 0 (fun _ => true) true n 79 [u] = some y) (hz : ∀ b off, MemPlace.cell b off ∈ y.2 → w.frozen? ⟨b, off, none⟩ = false) :
    ∃ xs, Evs w (fun b => b < w.heap.size) u xs := by
  obtain ⟨xs, cs, h1, h2⟩ := open_nst (fun _ cs (y : EvM) => cs = y.cells ∧ y.ok) 6 (by omega) Try.underlying79 (show Try.prog.cellsOf 145 = 6 by kernel_rfl) (fun n cs x h hz hl => dec_Event n cs x h) h hz
  have e := flat_of_chunks EvM.cells 6 (by omega) EvM.cells_length xs cs h1.1 (fun i hi => (h2 i hi).1)
  subst e
  refine ⟨xs, h1, fun x hx => ?_⟩
  obtain ⟨i, hi, rfl⟩ := List.getElem_of_mem hx
  exact (h2 i hi).2
end
/-- a proof, as an argument -/
def ProofA (w : World) (S : Nat → Prop) (v : Value) (p : ProofM) : Prop := ProofV w S S S v p
theorem ProofA.up {w w' : World} {S : Nat → Prop} {v : Value} {p : ProofM} (h : ProofA w S v p) (g : Up w w') : ProofA w' S v p := ProofV.up h g
def szP (p : ProofM) : Nat := szF (fun x => szF List.length x.fs) p.forms + szF List.length p.sts
theorem openProof {w : World} {S : Nat → Prop} {v : Value} {p : ProofM} (h : ProofA w S v p) : ∃ A c Z z, v = .agg #[.slice A p.forms.length c, .slice Z p.sts.length z] ∧ ProofA w S v p :=
  let ⟨A, c, Z, z, he, hr⟩ := h; ⟨A, c, Z, z, he, A, c, Z, z, he, hr⟩
end Go.Proofs.Ytchfjglofmphfaa
end
section
set_option linter.unusedSimpArgs false
set_option linter.unusedVariables false
namespace Go.Proofs.Ytchfjglofmphfaa
open Go.ChangeShapes Go.WideShapes Go.ChangeAt Go.RowKit Go.Deep
section
variable {H : Type} {enc : TypeId × Value → H} {w : World}
theorem struct_bool {P : Program} {t : TypeId} {n : Nat} {cs : List Value} {x : DataW H × List MemPlace} {fs : Array Field} (ht : P.underlying t = some (.struct fs)) (h : DataW.trod enc P w 0 (fun _ => true) true n t cs = some x)
    {i : Nat} {f : Field} (hf : fs[i]? = some f) (hu : P.underlying f.type = some .bool) (hc : P.cellsOf f.type = 1) : ∃ z, cs[f.offset]? = some (.bool z) := by
  obtain ⟨m, y, hy⟩ := struct_sub ht h hf
  rw [hc] at hy
  obtain ⟨z, he, -⟩ := DataW.trod_bool hu hy
  refine ⟨z, ?_⟩
  have := congrArg (fun l => l[0]?) he
  simpa using this
set_option maxRecDepth 100000 in
theorem dec_Car (n : Nat) (cs : List Value) (x : DataW H × List MemPlace) (h : DataW.trod enc Try.prog w 0 (fun _ => true) true n 171 cs = some x) : ∃ y : CarM, cs = y.cells ∧ y.ok := by
  obtain ⟨a0, a1, rfl⟩ := len2 ((struct_len Try.underlying171 h).trans (by kernel_rfl))
  obtain ⟨z0, e0⟩ := struct_bool Try.underlying171 h (i := 0) rfl Try.underlying4 (by kernel_rfl)
  obtain ⟨z1, e1, i1⟩ := struct_int Try.underlying171 h (i := 1) rfl Try.underlying2 int1
  simp at e0 e1
  subst e0 e1
  exact ⟨⟨z0, z1⟩, rfl, i1⟩
theorem open_CarsT {n : Nat} {u : Value} {y : DataW H × List MemPlace} (h : DataW.trod enc Try.prog w 0 (fun _ => true) true n 23 [u] = some y) (hz : ∀ b off, MemPlace.cell b off ∈ y.2 → w.frozen? ⟨b, off, none⟩ = false) :
    ∃ xs, Cars w (fun b => b < w.heap.size) u xs := by
  obtain ⟨xs, cs, h1, h2⟩ := open_nst (fun _ cs (y : CarM) => cs = y.cells ∧ y.ok) 2 (by omega) Try.underlying23 (show Try.prog.cellsOf 171 = 2 by kernel_rfl) (fun n cs x h hz hl => dec_Car n cs x h) h hz
  have e := flat_of_chunks CarM.cells 2 (by omega) CarM.cells_length xs cs h1.1 (fun i hi => (h2 i hi).1)
  subst e
  refine ⟨xs, h1, fun x hx => ?_⟩
  obtain ⟨i, hi, rfl⟩ := List.getElem_of_mem hx
  exact (h2 i hi).2
set_option maxRecDepth 100000 in
theorem dec_Info (n : Nat) (cs : List Value) (x : DataW H × List MemPlace) (h : DataW.trod enc Try.prog w 0 (fun _ => true) true n 159 cs = some x) (hz : ∀ b off, MemPlace.cell b off ∈ x.2 → w.frozen? ⟨b, off, none⟩ = false) (hl : cs.length = 6) :
    ∃ y, InfoE (fun b => b < w.heap.size) (fun b => b < w.heap.size) (fun b => b < w.heap.size) w cs y := by
  obtain ⟨a0, a1, a2, a3, a4, a5, rfl⟩ := len6 hl
  obtain ⟨z0, e0, i0⟩ := struct_int Try.underlying159 h (i := 0) rfl Try.underlying2 int1
  obtain ⟨z1, e1, i1⟩ := struct_int Try.underlying159 h (i := 1) rfl Try.underlying2 int1
  obtain ⟨z2, e2, i2⟩ := struct_int Try.underlying159 h (i := 2) rfl Try.underlying2 int1
  obtain ⟨z3, e3, i3⟩ := struct_int Try.underlying159 h (i := 3) rfl Try.underlying2 int1
  obtain ⟨z4, e4, i4⟩ := struct_int Try.underlying159 h (i := 4) rfl Try.underlying2 int1
  obtain ⟨m2, y2, h2, hz2⟩ := struct_subz Try.underlying159 h hz (i := 5) rfl
  obtain ⟨xs, hx⟩ := open_IntsT (u := a5) Try.underlying25 Try.underlying2 (by kernel_rfl) (by simpa [show Try.prog.cellsOf 25 = 1 by kernel_rfl] using h2) hz2
  simp at e0 e1 e2 e3 e4
  subst e0 e1 e2 e3 e4
  obtain ⟨A, c, rfl, k1, k2, -⟩ := hx.shape
  exact ⟨⟨z0, z1, z2, z3, z4, xs⟩, A, c, rfl, hx, ⟨k1, k2⟩, i0, i1, i2, i3, i4⟩
theorem open_InfosT {n : Nat} {u : Value} {y : DataW H × List MemPlace} (h : DataW.trod enc Try.prog w 0 (fun _ => true) true n 24 [u] = some y) (hz : ∀ b off, MemPlace.cell b off ∈ y.2 → w.frozen? ⟨b, off, none⟩ = false) :
    ∃ xs, InfoSV w (fun b => b < w.heap.size) (fun b => b < w.heap.size) (fun b => b < w.heap.size) u xs :=
  open_nst (InfoE (fun b => b < w.heap.size) (fun b => b < w.heap.size) (fun b => b < w.heap.size)) 6 (by omega) Try.underlying24 (show Try.prog.cellsOf 159 = 6 by kernel_rfl) (fun n cs x h hz hl => dec_Info n cs x h hz hl) h hz
end
/-- a machine, as an argument -/
def MacA (w : World) (S : Nat → Prop) (v : Value) (p : MacM) : Prop := MacV w S S S v p
theorem MacA.up {w w' : World} {S : Nat → Prop} {v : Value} {p : MacM} (h : MacA w S v p) (g : Up w w') : MacA w' S v p := MacV.up h g
theorem array7 {α : Type} {cs : Array α} (h : cs.size = 7) : ∃ c0 c1 c2 c3 c4 c5 c6, cs = #[c0, c1, c2, c3, c4, c5, c6] := by
  obtain ⟨l⟩ := cs
  match l, h with
  | [c0, c1, c2, c3, c4, c5, c6], _ => exact ⟨c0, c1, c2, c3, c4, c5, c6, rfl⟩
set_option maxRecDepth 100000 in
theorem open_Machine {H : Type} {enc : TypeId × Value → H} {w : World} {v : Value} {d : DataW H} {p : List MemPlace} {base : Nat}
    (hv : Value.okWide Try.prog w .any base 27 v) (h : DataW.Trod enc Try.prog w 0 (fun _ => true) true 27 v d p)
    (hz : ∀ b off, MemPlace.cell b off ∈ p → w.frozen? ⟨b, off, none⟩ = false) : ∃ r, MacA w (fun b => b < w.heap.size) v r := by
  obtain ⟨cs, rfl, hsz⟩ := okWide_struct Try.underlying27 hv
  obtain ⟨a0, a1, a2, a3, a4, a5, a6, rfl⟩ := array7 (hsz.trans (show Try.prog.cellsOf 27 = 7 by kernel_rfl))
  obtain ⟨fuel, hf⟩ := h
  have hf' : DataW.trod enc Try.prog w 0 (fun _ => true) true fuel 27 [a0, a1, a2, a3, a4, a5, a6] = some (d, p) := hf
  obtain ⟨z0, e0, i0⟩ := struct_int Try.underlying27 hf' (i := 0) rfl Try.underlying2 int1
  obtain ⟨z1, e1, i1⟩ := struct_int Try.underlying27 hf' (i := 1) rfl Try.underlying2 int1
  obtain ⟨m2, y2, h2, hz2⟩ := struct_subz Try.underlying27 hf' hz (i := 2) rfl
  obtain ⟨m3, y3, h3, hz3⟩ := struct_subz Try.underlying27 hf' hz (i := 3) rfl
  obtain ⟨m4, y4, h4, hz4⟩ := struct_subz Try.underlying27 hf' hz (i := 4) rfl
  obtain ⟨m5, y5, h5, hz5⟩ := struct_subz Try.underlying27 hf' hz (i := 5) rfl
  obtain ⟨m6, y6, h6, hz6⟩ := struct_subz Try.underlying27 hf' hz (i := 6) rfl
  obtain ⟨fr, k2⟩ := open_IntSST (u := a2) (by simpa [show Try.prog.cellsOf 22 = 1 by kernel_rfl] using h2) hz2
  obtain ⟨bk, k3⟩ := open_IntSST (u := a3) (by simpa [show Try.prog.cellsOf 22 = 1 by kernel_rfl] using h3) hz3
  obtain ⟨cr, k4⟩ := open_CarsT (u := a4) (by simpa [show Try.prog.cellsOf 23 = 1 by kernel_rfl] using h4) hz4
  obtain ⟨ls, k5⟩ := open_InfosT (u := a5) (by simpa [show Try.prog.cellsOf 24 = 1 by kernel_rfl] using h5) hz5
  obtain ⟨dr, k6⟩ := open_IntsT (u := a6) Try.underlying25 Try.underlying2 (by kernel_rfl) (by simpa [show Try.prog.cellsOf 25 = 1 by kernel_rfl] using h6) hz6
  simp at e0 e1
  subst e0 e1
  obtain ⟨A2, c2, rfl, p2, q2, -⟩ := k2.shape
  obtain ⟨A3, c3, rfl, p3, q3, -⟩ := k3.shape
  obtain ⟨A4, c4, rfl, p4, q4, -⟩ := k4.shape
  obtain ⟨A5, c5, rfl, p5, q5, -⟩ := k5.shape
  obtain ⟨A6, c6, rfl, p6, q6, -⟩ := k6.shape
  exact ⟨⟨z0, z1, fr, bk, cr, ls, dr⟩, A2, c2, A3, c3, A4, c4, A5, c5, A6, c6, rfl, k2, k3, k4, k5, k6, ⟨p2, q2⟩, ⟨p3, q3⟩, ⟨p4, q4⟩, ⟨p5, q5⟩, ⟨p6, q6⟩, i0, i1⟩
end Go.Proofs.Ytchfjglofmphfaa
end
section
set_option linter.unusedSimpArgs false
set_option linter.unusedVariables false
namespace Go.Proofs.Ytchfjglofmphfaa
open Go.ChangeShapes Go.WideShapes Go.ChangeAt Go.RowKit
def szMc (p : MacM) : Nat := szF List.length p.fr + szF List.length p.bk + p.cs.length + szF (fun x => x.ps.length) p.ls + p.dr.length
theorem openMac {w : World} {S : Nat → Prop} {v : Value} {p : MacM} (h : MacA w S v p) : ∃ A0 c0 A1 c1 A2 c2 A3 c3 A4 c4, v = .agg #[.int .i64 p.wd, .int .i64 p.rk, .slice A0 p.fr.length c0, .slice A1 p.bk.length c1, .slice A2 p.cs.length c2, .slice A3 p.ls.length c3, .slice A4 p.dr.length c4] ∧ MacA w S v p :=
  let ⟨A0, c0, A1, c1, A2, c2, A3, c3, A4, c4, he, hr⟩ := h; ⟨A0, c0, A1, c1, A2, c2, A3, c3, A4, c4, he, A0, c0, A1, c1, A2, c2, A3, c3, A4, c4, he, hr⟩
theorem szMacA_ok (w : World) (S : Nat → Prop) (v : Value) (p : MacM) (k : Int) (hk : 0 ≤ k ∧ k ≤ 1048576) (hl : (szMc p : Int) ≤ k) (h : MacA w S v p) :
    Calls Try.prog 7 #[v, .int .i64 k] w fun e w' => e = .returned (.int .i64 (k - szMc p)) ∧ Up w w' :=
  (szMac_ok w S S S v p k hk (by unfold szMc at hl; omega) h).mono fun _ _ ⟨he, hg⟩ => ⟨he.trans (ret_int (by unfold szMc; omega)), hg⟩
theorem szMacA_no (w : World) (S : Nat → Prop) (v : Value) (p : MacM) (k : Int) (hk : 0 ≤ k ∧ k ≤ 1048576) (hl : k < (szMc p : Int)) (h : MacA w S v p) :
    Calls Try.prog 7 #[v, .int .i64 k] w fun e w' => e = .returned (.int .i64 (-1)) ∧ Up w w' :=
  szMac_no w S S S v p k hk (by unfold szMc at hl; omega) h
theorem toMacA_any (w : World) (S : Nat → Prop) (v : Value) (p : MacM) (hb : szMc p ≤ 1048576) (h : MacA w S v p) :
    Calls Try.prog 9 #[v] w fun e w' => ∃ u, e = .returned u ∧ MacA w' (New w.heap.size w'.heap.size) u p ∧ Up w w' :=
  (toMac_any w S S S v p (by unfold szMc at hb; omega) h).mono fun _ _ ⟨u, M, H, L, he, ha, hr, hg⟩ => ⟨u, he, hr.mono (fun b _ h => ha.1 b (.inl h)) (fun b _ h => ha.1 b (.inr (.inl h))) (fun b _ h => ha.1 b (.inr (.inr h))), hg⟩
theorem eqMacA_same (w : World) (S T : Nat → Prop) (v u : Value) (p : MacM) (h : MacA w S v p) (h2 : MacA w T u p) :
    Calls Try.prog 12 #[v, u] w fun e w' => e = .returned (.bool true) ∧ Up w w' := eqMac_same w S S S T T T v u p h h2
end Go.Proofs.Ytchfjglofmphfaa
end
section
set_option linter.unusedSimpArgs false
set_option linter.unusedVariables false
set_option maxRecDepth 100000
set_option maxHeartbeats 4000000
namespace Go.Proofs.Ytchfjglofmphfaa
open Go.ChangeShapes Go.WideShapes Go.ChangeAt Go.RowKit
def lsTo (xss : List (List Int)) (j : Nat) : List Int := (xss.take j).flatten
theorem lsTo_succ {xss : List (List Int)} {j : Nat} (h : j < xss.length) : lsTo xss (j + 1) = lsTo xss j ++ xss[j] := by
  unfold lsTo
  rw [List.take_succ_eq_append_getElem h, List.flatten_append]
  simp
def fitB (xss : List (List Int)) : Prop := ∀ x ∈ xss, x.length ≤ 4
def fitTo (xss : List (List Int)) (j : Nat) : Prop := (lsTo xss j).length ≤ 4 * j
theorem l07Lists_any (w : World) (M H L : Nat → Prop) (v : Value) (xss : List (List Int)) (hl : xss.length ≤ 100000) (h : IntSSV w M H L v xss) :
    Calls Try.prog 105 #[v] w fun e w' => ((∀ i (hi : i < xss.length), xss[i].length ≤ 4) → ∃ u, e = .returned (.tuple #[u, .bool true]) ∧ OwnI w' w.heap.size u xss.flatten) ∧ ((∃ i, ∃ hi : i < xss.length, 4 < xss[i].length) → e = .returned (.tuple #[.slice none 0 0, .bool false])) ∧ Up w w' := by
  obtain ⟨A, c, rfl, hlc, hcm, -⟩ := h.shape
  have HY := Lib.hid h
  clear h
  go_enter Try.func105, Try.ntmps105
  go_wp2
  go_loopw [4, 5] (fun v i wr => ∃ j : Nat, j ≤ xss.length ∧ i = .int .i64 j ∧ Hid (OwnI wr w.heap.size v (lsTo xss j)) ∧ Hid (Up w wr) ∧ Hid (∀ i (hi : i < xss.length), i < j → xss[i].length ≤ 4) ∧ Hid ((lsTo xss j).length ≤ 4 * j)) (fun _ i _ => xss.length - (intOf i).toNat)
  case atStart => exact ⟨0, by omega, rfl, OwnI.made w _ (Nat.le_refl _), (Chg.refl _ _).alloc _, Lib.hid (fun i hi h => by omega), Lib.hid (by simp [lsTo])⟩
  case round =>
    obtain ⟨j, hj, rfl, ho, hu, hf, hn⟩ := hrel
    have hsz := hu.out.size
    by_cases hlt : j < xss.length
    · obtain ⟨b3, o3, c3', vs3, he3, -, -, -, hE3, hc3⟩ := (HY.out.up hu.out).at_ hlt
      obtain ⟨rfl, rfl⟩ : A = some ⟨b3, o3, none⟩ ∧ c = c3' := by simpa using he3
      obtain ⟨A4, k4, rfl, hv4, -⟩ := hE3.val
      have e0 := (hc3 0 _ rfl).1
      simp only [Nat.mul_one, Nat.add_zero] at e0
      have HV4 := Lib.hid hv4
      clear hc3 hv4 he3
      by_cases hx : xss[j].length ≤ 4
      rotate_left
      · have HX := Lib.hid hx
        go_wp2
        go_ret2
        exact ⟨fun h => absurd (h j hlt) HX.out, fun _ => rfl, hu.out⟩
      have HX := Lib.hid hx
      have hnn := hn.out
      have HL := Lib.hid (show (lsTo xss j).length + xss[j].length ≤ 1099511627776 by omega)
      have HS := Lib.hid (lsTo_succ hlt)
      have HN := Lib.hid (show (lsTo xss (j + 1)).length ≤ 4 * (j + 1) by rw [HS.out, List.length_append]; omega)
      have HF := Lib.hid (show ∀ i (hi : i < xss.length), i < j + 1 → xss[i].length ≤ 4 from fun i hi h => if e : i = j then (by subst e; exact HX.out) else hf.out i hi (by omega))
      clear hnn
      go_wp2_with (at_builtin; refine wp_app_intsW rfl _ _ rfl w.heap.size _ (lsTo xss j) rfl ho.out _ _ xss[j] rfl HV4.out HL.out (by omega) ?_; intro v' w' h1 h2 h3 h4; have HO := Lib.hid h1; have HG := Lib.hid h4; clear h1 h2 h3 h4)
      go_roundw
      case rel => exact ⟨j + 1, by omega, by go_num, by rw [HS.out]; exact HO.out, Chg.new hu.out HG.out (fun i hi => by omega), HF, HN⟩
      case measure => first | (simp [intOf]; done) | (simp [intOf]; omega)
    · obtain rfl : j = xss.length := by omega
      have HE := Lib.hid (show lsTo xss xss.length = xss.flatten by unfold lsTo; rw [List.take_length])
      go_wp2
      go_ret2
      exact ⟨fun _ => ⟨_, rfl, by rw [← HE.out]; exact ho.out⟩, fun ⟨i, hi, h⟩ => absurd (hf.out i hi hi) (by omega), hu.out⟩
end Go.Proofs.Ytchfjglofmphfaa
end
