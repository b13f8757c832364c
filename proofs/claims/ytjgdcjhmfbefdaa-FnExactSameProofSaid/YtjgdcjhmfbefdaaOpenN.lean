/- Arguments that are nested slices, and slices of structs with slices. No condition. -/
import Derived.Test.YtjgdcjhmfbefdaaOpenS
import Derived.Test.YtjgdcjhmfbefdaaNs
set_option linter.unusedSimpArgs false
set_option linter.unusedVariables false
namespace Go.Proofs.Ytjgdcjhmfbefdaa
open Go.ChangeShapes Go.WideShapes Go.ChangeAt Go.RowKit Go.Deep
theorem flat_chunk {α : Type} (f : α → List Value) (k : Nat) (hf : ∀ x, (f x).length = k) (xs : List α) (i : Nat) (hi : i < xs.length) : ((xs.flatMap f).drop (i * k)).take k = f xs[i] := by
  refine List.ext_getElem? fun j => ?_
  by_cases hj : j < k
  · rw [List.getElem?_take_of_lt hj, List.getElem?_drop, flat_get f k hf xs i hi j hj]
  · rw [List.getElem?_eq_none (by simp; omega), List.getElem?_eq_none (by rw [hf]; omega)]
theorem open_nst {α : Type} {H : Type} {enc : TypeId × Value → H} {P : Program} {w : World} (E : World → List Value → α → Prop) (k : Nat) (hk : 0 < k) {t e : TypeId} {n : Nat} {u : Value} {y : DataW H × List MemPlace}
    (ht : P.underlying t = some (.slice e)) (hC : P.cellsOf e = k)
    (hdec : ∀ n cs x, DataW.trod enc P w 0 (fun _ => true) true n e cs = some x → (∀ b off, MemPlace.cell b off ∈ x.2 → w.frozen? ⟨b, off, none⟩ = false) → cs.length = k → ∃ a : α, E w cs a)
    (h : DataW.trod enc P w 0 (fun _ => true) true n t [u] = some y) (hz : ∀ b off, MemPlace.cell b off ∈ y.2 → w.frozen? ⟨b, off, none⟩ = false) :
    ∃ xs, Nst k E w (fun b => b < w.heap.size) u xs := by
  rcases open_slice ht h with ⟨hcs, hx⟩ | ⟨a, len, cap, m, n, D, Pl, hcs, _, hl, hm, hmm, hx, hi⟩
  · simp at hcs
    subst hcs
    exact ⟨[], Nst.nil _ _ _ _ (by omega)⟩
  · simp at hcs
    subst hcs
    simp at hmm
    rw [hC] at hi hx
    unfold Go.maxLen at hm
    obtain ⟨ys, hyl, hy⟩ := rows_of (Q := fun i (p : {p : List Value × α // p.1.length = k}) => E w p.1.1 p.1.2 ∧ ∀ j v, p.1.1[j]? = some v → w.cell? (a.add (i * k + j)) = some v) len (fun i hil => by
      obtain ⟨cs', hc, htr⟩ := hi i (by omega)
      obtain ⟨_, hcl, hat⟩ := World.cells?_some hc
      obtain ⟨r, hr⟩ := hdec _ _ _ htr (fun b off hm9 => hz b off (by
        rw [hx]
        exact List.mem_append_right _ (List.mem_flatMap.2 ⟨i, by simp; omega, hm9⟩))) hcl
      refine ⟨⟨(cs', r), hcl⟩, hr, fun j v hv => ?_⟩
      have hj : j < k := by
        obtain ⟨h1, _⟩ := List.getElem?_eq_some_iff.1 hv
        have h1 : j < cs'.length := h1
        omega
      rw [← Go.Deep.add_add, hat j hj]
      exact hv)
    subst hyl
    have hf : ∀ x : {p : List Value × α // p.1.length = k}, (fun p : {p : List Value × α // p.1.length = k} => p.1.1) x = x.1.1 := fun _ => rfl
    have hfl : ∀ x : {p : List Value × α // p.1.length = k}, x.1.1.length = k := fun x => x.2
    have hlen := flat_length (fun p : {p : List Value × α // p.1.length = k} => p.1.1) k hfl ys
    refine ⟨ys.map fun p => p.1.2, ys.flatMap fun p => p.1.1, ⟨by rw [hlen, List.length_map], some a, cap, by rw [List.length_map], by rw [List.length_map]; exact hl, by omega, fun hp => ?_, by simp⟩, fun i hi' => ?_⟩
    · rw [List.length_map] at hp
      have h0 := (hy 0 hp).2 0 _ (List.getElem?_eq_getElem (by rw [hfl]; exact hk))
      obtain ⟨b, o, s⟩ := a
      have hs : s = none := by simpa [Addr.add] using World.cell?_spot h0
      subst hs
      have hb : b < w.heap.size := by
        have := World.block_lt_of_cell? w _ h0
        simpa [Addr.add] using this
      refine ⟨b, o, rfl, hb, hb, fun q hq => ?_⟩
      have hqk : q < ys.length * k := by omega
      have hdi : q / k < ys.length := Nat.div_lt_of_lt_mul (by rw [Nat.mul_comm]; exact hqk)
      have hmo : q % k < k := Nat.mod_lt _ hk
      have hde : q / k * k + q % k = q := by rw [Nat.mul_comm]; exact Nat.div_add_mod q k
      have hg := flat_get (fun p : {p : List Value × α // p.1.length = k} => p.1.1) k hfl ys (q / k) hdi (q % k) hmo
      rw [hde] at hg
      have hcell := (hy (q / k) hdi).2 (q % k) _ (by rw [← hg]; exact List.getElem?_eq_getElem hq)
      rw [hde, Go.WideShapes.add_plain] at hcell
      refine ⟨hcell, hz b (o + q) ?_⟩
      rw [hx]
      refine List.mem_append_left _ ?_
      simp [MemPlace.row]
      have : ys.length * k ≤ m * k := Nat.mul_le_mul_right k (by omega)
      omega
    · rw [List.length_map] at hi'
      rw [flat_chunk (fun p : {p : List Value × α // p.1.length = k} => p.1.1) k hfl ys i hi', List.getElem_map]
      exact (hy i hi').1
theorem flat_of_chunks {α : Type} (f : α → List Value) (k : Nat) (hk : 0 < k) (hf : ∀ x, (f x).length = k) (xs : List α) (cs : List Value) (hl : cs.length = xs.length * k) (h : ∀ i (hi : i < xs.length), (cs.drop (i * k)).take k = f xs[i]) : cs = xs.flatMap f := by
  have hlen := flat_length f k hf xs
  refine List.ext_getElem? fun q => ?_
  by_cases hq : q < xs.length * k
  · have hdi : q / k < xs.length := Nat.div_lt_of_lt_mul (by rw [Nat.mul_comm]; exact hq)
    have hmo : q % k < k := Nat.mod_lt _ hk
    have hde : q / k * k + q % k = q := by rw [Nat.mul_comm]; exact Nat.div_add_mod q k
    have hg := flat_get f k hf xs (q / k) hdi (q % k) hmo
    rw [hde, ← h _ hdi, List.getElem?_take_of_lt hmo, List.getElem?_drop, hde] at hg
    exact hg.symm
  · rw [List.getElem?_eq_none (by omega), List.getElem?_eq_none (by omega)]
section
variable {H : Type} {enc : TypeId × Value → H} {P : Program} {w : World}
theorem struct_subz {t : TypeId} {n : Nat} {cs : List Value} {x : DataW H × List MemPlace} {fs : Array Field} (ht : P.underlying t = some (.struct fs)) (h : DataW.trod enc P w 0 (fun _ => true) true n t cs = some x)
    (hz : ∀ b off, MemPlace.cell b off ∈ x.2 → w.frozen? ⟨b, off, none⟩ = false) {i : Nat} {f : Field} (hf : fs[i]? = some f) :
    ∃ m y, DataW.trod enc P w 0 (fun _ => true) true m f.type ((cs.drop f.offset).take (P.cellsOf f.type)) = some y ∧ ∀ b off, MemPlace.cell b off ∈ y.2 → w.frozen? ⟨b, off, none⟩ = false := by
  obtain ⟨ys, m, _, hx, _, hl, hg⟩ := DataW.trod_struct ht h
  have hi := (Array.getElem?_eq_some_iff.1 hf).1
  refine ⟨m, ys[i]'(by omega), (hg i f hf).trans (List.getElem?_eq_getElem (by omega)), fun b off hm => hz b off ?_⟩
  rw [hx]
  exact List.mem_flatMap.2 ⟨_, List.getElem_mem _, hm⟩
theorem len1 {cs : List Value} (h : cs.length = 1) : ∃ a, cs = [a] := by
  match cs, h with
  | [a], _ => exact ⟨a, rfl⟩
theorem len3 {cs : List Value} (h : cs.length = 3) : ∃ a b c, cs = [a, b, c] := by
  match cs, h with
  | [a, b, c], _ => exact ⟨a, b, c, rfl⟩
theorem len6 {cs : List Value} (h : cs.length = 6) : ∃ a b c d e f, cs = [a, b, c, d, e, f] := by
  match cs, h with
  | [a, b, c, d, e, f], _ => exact ⟨a, b, c, d, e, f, rfl⟩
end
end Go.Proofs.Ytjgdcjhmfbefdaa
