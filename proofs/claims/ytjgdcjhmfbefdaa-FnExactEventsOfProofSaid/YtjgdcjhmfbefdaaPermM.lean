/- Plain words for permutations, their descents and inverses, and for normal forms. No condition. -/
import Derived.Test.YtjgdcjhmfbefdaaPrfM
import Derived.Test.YtjgdcjhmfbefdaaRow5
set_option linter.unusedSimpArgs false
set_option linter.unusedVariables false
namespace Go.Proofs.Ytjgdcjhmfbefdaa
open Go.ChangeShapes Go.WideShapes Go.ChangeAt Go.RowKit
/-- a slice of numbers of which one is set -/
theorem Ints.set {w : World} {S : Nat → Prop} {b o c : Nat} {xs : List Int} (h : Ints w S (.slice (some ⟨b, o, none⟩) xs.length c) xs) {k : Nat} (hk : k < xs.length) {x : Int} (hx : I64 x) : Ints (w.setCell ⟨b, o + k, none⟩ (.int .i64 x)) S (.slice (some ⟨b, o, none⟩) xs.length c) (xs.set k x) := by
  obtain ⟨A, c', hv, h1, h2, h3, h4, h5⟩ := h
  obtain ⟨rfl, rfl⟩ : some ⟨b, o, none⟩ = A ∧ c = c' := by simpa using hv
  obtain ⟨b', o', ha, hs, hb, hc⟩ := h4 (by omega)
  obtain ⟨rfl, rfl⟩ : b = b' ∧ o = o' := by simpa using ha
  refine ⟨_, c, by rw [List.length_set], by rw [List.length_set]; exact h1, h2, fun y hy => ?_, fun _ => ⟨b, o, rfl, hs, by simpa [World.setCell] using hb, fun t ht => ?_⟩, by simp⟩
  · rcases List.mem_or_eq_of_mem_set hy with h | h
    · exact h3 y h
    · rw [h]; exact hx
  · rw [List.length_set] at ht
    obtain ⟨c1, c2⟩ := hc t ht
    by_cases e : t = k
    · subst e
      rw [List.getElem_set_self]
      exact ⟨World.cell?_setCell_same _ _ _ c1, by simpa using c2⟩
    · rw [World.cell?_setCell_other _ _ _ _ (fun h => e (by injection h with _ h _; omega)), List.getElem_set_ne (fun h => e h.symm)]
      exact ⟨c1, by simpa using c2⟩
theorem ints_ixf {w : World} {S : Nat → Prop} {A : Option Addr} {c : Nat} {xs : List Int} (h : Ints w S (.slice A xs.length c) xs) {i : Nat} (hi : i < xs.length) :
    ∃ b o, A = some ⟨b, o, none⟩ ∧ b < w.heap.size ∧ ∀ j, j < xs.length → w.cell? ⟨b, o + j, none⟩ = some (.int .i64 (ix xs j)) ∧ w.frozen? ⟨b, o + j, none⟩ = false := by
  obtain ⟨A', c', he, _, _, _, hr, _⟩ := h
  obtain ⟨rfl, rfl⟩ : A = A' ∧ c = c' := by simpa using he
  obtain ⟨b, o, hA, _, hbl, hc⟩ := hr (by omega)
  exact ⟨b, o, hA, hbl, fun j hj => by rw [ix_eq hj]; exact hc j hj⟩
theorem Ints.zeros (w : World) (S : Nat → Prop) (n : Nat) (e : TypeId) (hn : n ≤ 9223372036854775807) (hS : S w.heap.size) : Ints (w.alloc (.cells (madeCells #[.int .i64 0] n) e)) S (.slice (some ⟨w.heap.size, 0, none⟩) n n) (List.replicate n 0) :=
  ⟨_, n, by rw [List.length_replicate], by rw [List.length_replicate]; exact Nat.le_refl _, hn, fun x hx => by rw [(List.mem_replicate.1 hx).2]; unfold I64; omega, fun _ => ⟨w.heap.size, 0, rfl, hS, by simp, fun t ht => by
    rw [List.length_replicate] at ht
    rw [Nat.zero_add, cell_new, madeInts_get _ _ ht, List.getElem_replicate]
    exact ⟨rfl, frozen_new _ _ _ _⟩⟩, by simp⟩
theorem ix_set_self {xs : List Int} {k : Nat} (h : k < xs.length) (x : Int) : ix (xs.set k x) k = x := by rw [ix_eq (by simpa using h), List.getElem_set_self]
/-- 0, 1, .. -/
def identTo (n : Nat) : Nat → List Int
  | 0 => List.replicate n 0
  | j + 1 => (identTo n j).set j j
theorem identTo_length (n : Nat) : ∀ j, (identTo n j).length = n
  | 0 => List.length_replicate
  | j + 1 => by rw [identTo, List.length_set, identTo_length n j]
theorem identTo_get (n : Nat) : ∀ (j t : Nat) (h : t < (identTo n j).length), (identTo n j)[t] = if t < j then (t : Int) else 0
  | 0, t, h => by simp [identTo]
  | j + 1, t, h => by
    have hn : t < (identTo n j).length := by rw [identTo_length] at *; exact h
    simp only [identTo]
    rw [List.getElem_set]
    by_cases e : j = t
    · subst e
      rw [if_pos rfl, if_pos (by omega)]
    · rw [if_neg e, identTo_get n j t hn]
      by_cases h2 : t < j
      · rw [if_pos h2, if_pos (by omega)]
      · rw [if_neg h2, if_neg (by omega)]
def identM (n : Nat) : List Int := (List.range n).map fun i : Nat => (i : Int)
theorem identM_length (n : Nat) : (identM n).length = n := by simp [identM]
theorem identTo_all (n : Nat) : identTo n n = identM n := by
  refine List.ext_getElem (by rw [identTo_length, identM_length]) fun t h1 h2 => ?_
  rw [identTo_get, identTo_length] at *
  rw [if_pos h1]
  simp [identM]
theorem identM_succ (n : Nat) : identM (n + 1) = identM n ++ [(n : Int)] := by simp [identM, List.range_succ]
theorem identM_i64 {n : Nat} (hn : n ≤ 1000000) : ∀ x ∈ identM n, I64 x := by
  intro x hx
  obtain ⟨i, hi, rfl⟩ := List.mem_map.1 hx
  have := List.mem_range.1 hi
  unfold I64
  omega
/-- n - 1, n - 2, .., the first k of them -/
def fallTo (n k : Nat) : List Int := (List.range k).map fun i : Nat => (n : Int) - 1 - i
theorem fallTo_succ (n k : Nat) : fallTo n (k + 1) = fallTo n k ++ [(n : Int) - 1 - k] := by simp [fallTo, List.range_succ]
theorem fallTo_length (n k : Nat) : (fallTo n k).length = k := by simp [fallTo]
theorem fallTo_all (n : Nat) : fallTo n n = (identM n).reverse := by
  refine List.ext_getElem (by simp [fallTo, identM]) fun t h1 h2 => ?_
  rw [fallTo_length] at h1
  rw [List.getElem_reverse]
  simp [fallTo, identM]
  omega
def halfM (n : Nat) : List Int := (identM n).reverse
/-- whether a list is a permutation of few things -/
def permB (p : List Int) : Bool := decide (p.length ≤ 12) && decide (∀ x ∈ p, 0 ≤ x ∧ x < p.length) && decide p.Nodup
theorem permB_len {p : List Int} (h : permB p = true) : p.length ≤ 12 := by
  unfold permB at h
  simp only [Bool.and_eq_true, decide_eq_true_eq] at h
  exact h.1.1
theorem permB_in {p : List Int} (h : permB p = true) : ∀ x ∈ p, 0 ≤ x ∧ x < p.length := by
  unfold permB at h
  simp only [Bool.and_eq_true, decide_eq_true_eq] at h
  exact h.1.2
theorem permB_nodup {p : List Int} (h : permB p = true) : p.Nodup := by
  unfold permB at h
  simp only [Bool.and_eq_true, decide_eq_true_eq] at h
  exact h.2
theorem permB_ix {p : List Int} (h : permB p = true) {j : Nat} (hj : j < p.length) : 0 ≤ ix p j ∧ ix p j < p.length := by
  rw [ix_eq hj]
  exact permB_in h _ (List.getElem_mem hj)
/-- the first j are fine -/
def permTo (p : List Int) (j : Nat) : Prop := ∀ i (hi : i < p.length), i < j → (0 ≤ p[i] ∧ p[i] < p.length) ∧ p[i] ∉ p.take i
theorem permTo.start (p : List Int) : permTo p 0 := fun _ _ h => absurd h (Nat.not_lt_zero _)
theorem permTo.next {p : List Int} {j : Nat} (h : permTo p j) (hj : j < p.length) (h1 : 0 ≤ p[j] ∧ p[j] < p.length) (h2 : p[j] ∉ p.take j) : permTo p (j + 1) := fun i hi hij => by
  by_cases e : i = j
  · subst e
    exact ⟨h1, h2⟩
  · exact h i hi (by omega)
theorem permTo.all {p : List Int} (h : permTo p p.length) (hl : p.length ≤ 12) : permB p = true := by
  unfold permB
  simp only [Bool.and_eq_true, decide_eq_true_eq]
  refine ⟨⟨hl, fun x hx => ?_⟩, ?_⟩
  · obtain ⟨i, hi, rfl⟩ := List.getElem_of_mem hx
    exact (h i hi hi).1
  · rw [List.nodup_iff_pairwise_ne, List.pairwise_iff_getElem]
    intro i j hi hj hij he
    refine (h j hj hj).2 ?_
    rw [← he, List.mem_take_iff_getElem]
    exact ⟨i, by omega, rfl⟩
theorem permB_long {p : List Int} (h : ¬ p.length ≤ 12) : permB p = false := by unfold permB; rw [decide_eq_false h]; rfl
theorem permB_out {p : List Int} {j : Nat} (hj : j < p.length) (h : ¬ (0 ≤ p[j] ∧ p[j] < p.length)) : permB p = false := by
  cases hb : permB p with
  | false => rfl
  | true => exact absurd (permB_in hb _ (List.getElem_mem hj)) h
theorem permB_twice {p : List Int} {j : Nat} (hj : j < p.length) (h : p[j] ∈ p.take j) : permB p = false := by
  cases hb : permB p with
  | false => rfl
  | true =>
    obtain ⟨i, hi, he⟩ := List.mem_take_iff_getElem.1 h
    have := (List.nodup_iff_pairwise_ne.1 (permB_nodup hb))
    rw [List.pairwise_iff_getElem] at this
    exact absurd he (this i j (by omega) hj (by omega))
/-- the places whose pair is an inversion, among the first j -/
def descTo (p : List Int) : Nat → List Int
  | 0 => []
  | j + 1 => if ix p (j + 1) < ix p j then descTo p j ++ [(j : Int)] else descTo p j
def descM (p : List Int) : List Int := descTo p (p.length - 1)
theorem descTo_bd (p : List Int) : ∀ j, ∀ x ∈ descTo p j, 0 ≤ x ∧ x < j
  | 0 => by simp [descTo]
  | j + 1 => by
    intro x hx
    unfold descTo at hx
    split at hx
    · rcases List.mem_append.1 hx with h | h
      · have := descTo_bd p j x h; omega
      · simp at h; omega
    · have := descTo_bd p j x hx; omega
theorem descTo_length (p : List Int) : ∀ j, (descTo p j).length ≤ j
  | 0 => by simp [descTo]
  | j + 1 => by
    have := descTo_length p j
    unfold descTo
    split
    · simp; omega
    · omega
def startTo (p : List Int) (j : Nat) : List Int := (descTo p j).map (· + 1)
def startM (p : List Int) : List Int := (descM p).map (· + 1)
theorem startTo_succ (p : List Int) (j : Nat) : startTo p (j + 1) = if ix p (j + 1) < ix p j then startTo p j ++ [(j : Int) + 1] else startTo p j := by
  unfold startTo
  rw [descTo]
  split <;> simp
theorem startTo_length (p : List Int) (j : Nat) : (startTo p j).length ≤ j := by unfold startTo; rw [List.length_map]; exact descTo_length p j
/-- the inverse -/
def invTo (p : List Int) : Nat → List Int
  | 0 => List.replicate p.length 0
  | j + 1 => (invTo p j).set (ix p j).toNat j
theorem invTo_length (p : List Int) : ∀ j, (invTo p j).length = p.length
  | 0 => List.length_replicate
  | j + 1 => by rw [invTo, List.length_set, invTo_length p j]
def invM (p : List Int) : List Int := invTo p p.length
/-- the first letter with which q begins and p does not end; 0 -/
def extraM (p q : List Int) : Int := ((startM q).find? fun k => !decide (k ∈ startM (invM p))).getD 0
def extraFrom (p q : List Int) (j : Nat) : Prop := ∀ i (hi : i < (startM q).length), i < j → (startM q)[i] ∈ startM (invM p)
theorem extraFrom.start (p q : List Int) : extraFrom p q 0 := fun _ _ h => absurd h (Nat.not_lt_zero _)
theorem extraFrom.next {p q : List Int} {j : Nat} (h : extraFrom p q j) (hj : j < (startM q).length) (h1 : (startM q)[j] ∈ startM (invM p)) : extraFrom p q (j + 1) := fun i hi hij => by
  by_cases e : i = j
  · subst e; exact h1
  · exact h i hi (by omega)
theorem extraFrom.all {p q : List Int} (h : extraFrom p q (startM q).length) : extraM p q = 0 := by
  unfold extraM
  rw [List.find?_eq_none.2]
  · rfl
  · intro x hx
    obtain ⟨i, hi, rfl⟩ := List.getElem_of_mem hx
    simpa using h i hi hi
theorem extraFrom.at_ {p q : List Int} {j : Nat} (h : extraFrom p q j) (hj : j < (startM q).length) (h1 : (startM q)[j] ∉ startM (invM p)) : extraM p q = (startM q)[j] := by
  unfold extraM
  rw [List.find?_eq_some_iff_getElem.2 ⟨by simpa using h1, j, hj, rfl, fun i hi => by simpa using h i (by omega) hi⟩]
  rfl
theorem startM_bd (q : List Int) : ∀ x ∈ startM q, 1 ≤ x ∧ x ≤ q.length := by
  intro x hx
  obtain ⟨y, hy, rfl⟩ := List.mem_map.1 hx
  have := descTo_bd q _ y hy
  omega
theorem extraM_bd (p q : List Int) : 0 ≤ extraM p q ∧ extraM p q ≤ q.length := by
  unfold extraM
  cases h : (startM q).find? fun k => !decide (k ∈ startM (invM p)) with
  | none => simp
  | some x =>
    have := startM_bd q x (List.mem_of_find?_eq_some h)
    simp only [Option.getD_some]
    omega
end Go.Proofs.Ytjgdcjhmfbefdaa
