/- Plain words for permutations, their descents and inverses, and for normal forms. No condition. slices.Reverse on numbers. No condition. Comparisons of lists on both sides. No condition. Permutations: small functions on both sides. No condition. SameProof on both sides. No condition. Permutations: validity, start letters, missing letters on both sides. No condition. -/
import Derived.Test.YtobgbnpgledabaaQA6
import Derived.Test.YtobgbnpgledabaaQA3
import Derived.RegionTactic
import Derived.ChangeAlike
section
set_option linter.unusedSimpArgs false
set_option linter.unusedVariables false
namespace Go.Proofs.Ytobgbnpgledabaa
open Go.ChangeShapes Go.WideShapes Go.ChangeAt Go.RowKit
/-- a slice of numbers of which one is set -/
theorem Ints.set {w : World} {S : Nat → Prop} {b o c : Nat} {xs : List Int} (h : Ints w S (.slice (some ⟨b, o, none⟩) xs.length c) xs) {k : Nat} (hk : k < xs.length) {x : Int} (hx : I64 x) : Ints (w.setCell ⟨b, o + k, none⟩ (.int .i64 x)) S (.slice (some ⟨b, o, none⟩) xs.length c) (xs.set k x) := by
  obtain ⟨A, c', hv, h1, h2, h3, h4, h5⟩ := h
  obtain ⟨rfl, rfl⟩ : some ⟨b, o, none⟩ = A ∧ c = c' := by simpa using hv
  obtain ⟨b', o', ha, hs, hb, hc⟩ := h4 (by omega)
  obtain ⟨rfl, rfl⟩ : b = b' ∧ o = o' := by simpa using ha
  refine ⟨_, c, by rw [List.length_set], by rw [List.length_set]; exact h1, h2, fun y hy => ?_, fun _ => ⟨b, o, rfl, hs, by simpa [World.setCell] using hb, fun t ht => ?_⟩, by simp⟩
  · rcases List.mem_or_eq_of_mem_set hy with h | h
    · exact h3 y h
    · rw [h]; exact hx
  · rw [List.length_set] at ht
    obtain ⟨c1, c2⟩ := hc t ht
    by_cases e : t = k
    · subst e
      rw [List.getElem_set_self]
      exact ⟨World.cell?_setCell_same _ _ _ c1, by simpa using c2⟩
    · rw [World.cell?_setCell_other _ _ _ _ (fun h => e (by injection h with _ h _; omega)), List.getElem_set_ne (fun h => e h.symm)]
      exact ⟨c1, by simpa using c2⟩
theorem ints_ixf {w : World} {S : Nat → Prop} {A : Option Addr} {c : Nat} {xs : List Int} (h : Ints w S (.slice A xs.length c) xs) {i : Nat} (hi : i < xs.length) :
    ∃ b o, A = some ⟨b, o, none⟩ ∧ b < w.heap.size ∧ ∀ j, j < xs.length → w.cell? ⟨b, o + j, none⟩ = some (.int .i64 (ix xs j)) ∧ w.frozen? ⟨b, o + j, none⟩ = false := by
  obtain ⟨A', c', he, _, _, _, hr, _⟩ := h
  obtain ⟨rfl, rfl⟩ : A = A' ∧ c = c' := by simpa using he
  obtain ⟨b, o, hA, _, hbl, hc⟩ := hr (by omega)
  exact ⟨b, o, hA, hbl, fun j hj => by rw [ix_eq hj]; exact hc j hj⟩
theorem Ints.zeros (w : World) (S : Nat → Prop) (n : Nat) (e : TypeId) (hn : n ≤ 9223372036854775807) (hS : S w.heap.size) : Ints (w.alloc (.cells (madeCells #[.int .i64 0] n) e)) S (.slice (some ⟨w.heap.size, 0, none⟩) n n) (List.replicate n 0) :=
  ⟨_, n, by rw [List.length_replicate], by rw [List.length_replicate]; exact Nat.le_refl _, hn, fun x hx => by rw [(List.mem_replicate.1 hx).2]; unfold I64; omega, fun _ => ⟨w.heap.size, 0, rfl, hS, by simp, fun t ht => by
    rw [List.length_replicate] at ht
    rw [Nat.zero_add, cell_new, madeInts_get _ _ ht, List.getElem_replicate]
    exact ⟨rfl, frozen_new _ _ _ _⟩⟩, by simp⟩
theorem ix_set_self {xs : List Int} {k : Nat} (h : k < xs.length) (x : Int) : ix (xs.set k x) k = x := by rw [ix_eq (by simpa using h), List.getElem_set_self]
/-- 0, 1, .. -/
def identTo (n : Nat) : Nat → List Int
  | 0 => List.replicate n 0
  | j + 1 => (identTo n j).set j j
theorem identTo_length (n : Nat) : ∀ j, (identTo n j).length = n
  | 0 => List.length_replicate
  | j + 1 => by rw [identTo, List.length_set, identTo_length n j]
theorem identTo_get (n : Nat) : ∀ (j t : Nat) (h : t < (identTo n j).length), (identTo n j)[t] = if t < j then (t : Int) else 0
  | 0, t, h => by simp [identTo]
  | j + 1, t, h => by
    have hn : t < (identTo n j).length := by rw [identTo_length] at *; exact h
    simp only [identTo]
    rw [List.getElem_set]
    by_cases e : j = t
    · subst e
      rw [if_pos rfl, if_pos (by omega)]
    · rw [if_neg e, identTo_get n j t hn]
      by_cases h2 : t < j
      · rw [if_pos h2, if_pos (by omega)]
      · rw [if_neg h2, if_neg (by omega)]
def identM (n : Nat) : List Int := (List.range n).map fun i : Nat => (i : Int)
theorem identM_length (n : Nat) : (identM n).length = n := by simp [identM]
theorem identTo_all (n : Nat) : identTo n n = identM n := by
  refine List.ext_getElem (by rw [identTo_length, identM_length]) fun t h1 h2 => ?_
  rw [identTo_get, identTo_length] at *
  rw [if_pos h1]
  simp [identM]
theorem identM_succ (n : Nat) : identM (n + 1) = identM n ++ [(n : Int)] := by simp [identM, List.range_succ]
theorem identM_i64 {n : Nat} (hn : n ≤ 1000000) : ∀ x ∈ identM n, I64 x := by
  intro x hx
  obtain ⟨i, hi, rfl⟩ := List.mem_map.1 hx
  have := List.mem_range.1 hi
  unfold I64
  omega
/-- n - 1, n - 2, .., the first k of them -/
def fallTo (n k : Nat) : List Int := (List.range k).map fun i : Nat => (n : Int) - 1 - i
theorem fallTo_succ (n k : Nat) : fallTo n (k + 1) = fallTo n k ++ [(n : Int) - 1 - k] := by simp [fallTo, List.range_succ]
theorem fallTo_length (n k : Nat) : (fallTo n k).length = k := by simp [fallTo]
theorem fallTo_all (n : Nat) : fallTo n n = (identM n).reverse := by
  refine List.ext_getElem (by simp [fallTo, identM]) fun t h1 h2 => ?_
  rw [fallTo_length] at h1
  rw [List.getElem_reverse]
  simp [fallTo, identM]
  omega
def halfM (n : Nat) : List Int := (identM n).reverse
/-- whether a list is a permutation of few things -/
def permB (p : List Int) : Bool := decide (p.length ≤ 12) && decide (∀ x ∈ p, 0 ≤ x ∧ x < p.length) && decide p.Nodup
theorem permB_len {p : List Int} (h : permB p = true) : p.length ≤ 12 := by
  unfold permB at h
  simp only [Bool.and_eq_true, decide_eq_true_eq] at h
  exact h.1.1
theorem permB_in {p : List Int} (h : permB p = true) : ∀ x ∈ p, 0 ≤ x ∧ x < p.length := by
  unfold permB at h
  simp only [Bool.and_eq_true, decide_eq_true_eq] at h
  exact h.1.2
theorem permB_nodup {p : List Int} (h : permB p = true) : p.Nodup := by
  unfold permB at h
  simp only [Bool.and_eq_true, decide_eq_true_eq] at h
  exact h.2
theorem permB_ix {p : List Int} (h : permB p = true) {j : Nat} (hj : j < p.length) : 0 ≤ ix p j ∧ ix p j < p.length := by
  rw [ix_eq hj]
  exact permB_in h _ (List.getElem_mem hj)
/-- the first j are fine -/
def permTo (p : List Int) (j : Nat) : Prop := ∀ i (hi : i < p.length), i < j → (0 ≤ p[i] ∧ p[i] < p.length) ∧ p[i] ∉ p.take i
theorem permTo.start (p : List Int) : permTo p 0 := fun _ _ h => absurd h (Nat.not_lt_zero _)
theorem permTo.next {p : List Int} {j : Nat} (h : permTo p j) (hj : j < p.length) (h1 : 0 ≤ p[j] ∧ p[j] < p.length) (h2 : p[j] ∉ p.take j) : permTo p (j + 1) := fun i hi hij => by
  by_cases e : i = j
  · subst e
    exact ⟨h1, h2⟩
  · exact h i hi (by omega)
theorem permTo.all {p : List Int} (h : permTo p p.length) (hl : p.length ≤ 12) : permB p = true := by
  unfold permB
  simp only [Bool.and_eq_true, decide_eq_true_eq]
  refine ⟨⟨hl, fun x hx => ?_⟩, ?_⟩
  · obtain ⟨i, hi, rfl⟩ := List.getElem_of_mem hx
    exact (h i hi hi).1
  · rw [List.nodup_iff_pairwise_ne, List.pairwise_iff_getElem]
    intro i j hi hj hij he
    refine (h j hj hj).2 ?_
    rw [← he, List.mem_take_iff_getElem]
    exact ⟨i, by omega, rfl⟩
theorem permB_long {p : List Int} (h : ¬ p.length ≤ 12) : permB p = false := by unfold permB; rw [decide_eq_false h]; rfl
theorem permB_out {p : List Int} {j : Nat} (hj : j < p.length) (h : ¬ (0 ≤ p[j] ∧ p[j] < p.length)) : permB p = false := by
  cases hb : permB p with
  | false => rfl
  | true => exact absurd (permB_in hb _ (List.getElem_mem hj)) h
theorem permB_twice {p : List Int} {j : Nat} (hj : j < p.length) (h : p[j] ∈ p.take j) : permB p = false := by
  cases hb : permB p with
  | false => rfl
  | true =>
    obtain ⟨i, hi, he⟩ := List.mem_take_iff_getElem.1 h
    have := (List.nodup_iff_pairwise_ne.1 (permB_nodup hb))
    rw [List.pairwise_iff_getElem] at this
    exact absurd he (this i j (by omega) hj (by omega))
/-- the places whose pair is an inversion, among the first j -/
def descTo (p : List Int) : Nat → List Int
  | 0 => []
  | j + 1 => if ix p (j + 1) < ix p j then descTo p j ++ [(j : Int)] else descTo p j
def descM (p : List Int) : List Int := descTo p (p.length - 1)
theorem descTo_bd (p : List Int) : ∀ j, ∀ x ∈ descTo p j, 0 ≤ x ∧ x < j
  | 0 => by simp [descTo]
  | j + 1 => by
    intro x hx
    unfold descTo at hx
    split at hx
    · rcases List.mem_append.1 hx with h | h
      · have := descTo_bd p j x h; omega
      · simp at h; omega
    · have := descTo_bd p j x hx; omega
theorem descTo_length (p : List Int) : ∀ j, (descTo p j).length ≤ j
  | 0 => by simp [descTo]
  | j + 1 => by
    have := descTo_length p j
    unfold descTo
    split
    · simp; omega
    · omega
def startTo (p : List Int) (j : Nat) : List Int := (descTo p j).map (· + 1)
def startM (p : List Int) : List Int := (descM p).map (· + 1)
theorem startTo_succ (p : List Int) (j : Nat) : startTo p (j + 1) = if ix p (j + 1) < ix p j then startTo p j ++ [(j : Int) + 1] else startTo p j := by
  unfold startTo
  rw [descTo]
  split <;> simp
theorem startTo_length (p : List Int) (j : Nat) : (startTo p j).length ≤ j := by unfold startTo; rw [List.length_map]; exact descTo_length p j
/-- the inverse -/
def invTo (p : List Int) : Nat → List Int
  | 0 => List.replicate p.length 0
  | j + 1 => (invTo p j).set (ix p j).toNat j
theorem invTo_length (p : List Int) : ∀ j, (invTo p j).length = p.length
  | 0 => List.length_replicate
  | j + 1 => by rw [invTo, List.length_set, invTo_length p j]
def invM (p : List Int) : List Int := invTo p p.length
/-- the first letter with which q begins and p does not end; 0 -/
def extraM (p q : List Int) : Int := ((startM q).find? fun k => !decide (k ∈ startM (invM p))).getD 0
def extraFrom (p q : List Int) (j : Nat) : Prop := ∀ i (hi : i < (startM q).length), i < j → (startM q)[i] ∈ startM (invM p)
theorem extraFrom.start (p q : List Int) : extraFrom p q 0 := fun _ _ h => absurd h (Nat.not_lt_zero _)
theorem extraFrom.next {p q : List Int} {j : Nat} (h : extraFrom p q j) (hj : j < (startM q).length) (h1 : (startM q)[j] ∈ startM (invM p)) : extraFrom p q (j + 1) := fun i hi hij => by
  by_cases e : i = j
  · subst e; exact h1
  · exact h i hi (by omega)
theorem extraFrom.all {p q : List Int} (h : extraFrom p q (startM q).length) : extraM p q = 0 := by
  unfold extraM
  rw [List.find?_eq_none.2]
  · rfl
  · intro x hx
    obtain ⟨i, hi, rfl⟩ := List.getElem_of_mem hx
    simpa using h i hi hi
theorem extraFrom.at_ {p q : List Int} {j : Nat} (h : extraFrom p q j) (hj : j < (startM q).length) (h1 : (startM q)[j] ∉ startM (invM p)) : extraM p q = (startM q)[j] := by
  unfold extraM
  rw [List.find?_eq_some_iff_getElem.2 ⟨by simpa using h1, j, hj, rfl, fun i hi => by simpa using h i (by omega) hi⟩]
  rfl
theorem startM_bd (q : List Int) : ∀ x ∈ startM q, 1 ≤ x ∧ x ≤ q.length := by
  intro x hx
  obtain ⟨y, hy, rfl⟩ := List.mem_map.1 hx
  have := descTo_bd q _ y hy
  omega
theorem extraM_bd (p q : List Int) : 0 ≤ extraM p q ∧ extraM p q ≤ q.length := by
  unfold extraM
  cases h : (startM q).find? fun k => !decide (k ∈ startM (invM p)) with
  | none => simp
  | some x =>
    have := startM_bd q x (List.mem_of_find?_eq_some h)
    simp only [Option.getD_some]
    omega
end Go.Proofs.Ytobgbnpgledabaa
end
namespace Go.Proofs.Ytobgbnpgledabaa
open Go.ChangeShapes Go.WideShapes Go.ChangeAt Go.RowKit
/-- in the middle of turning a list round: the first k and the last k have changed places -/
def revAt (xs : List Int) (k t : Nat) : Int := if t < k ∨ xs.length - k ≤ t then ix xs (xs.length - 1 - t) else ix xs t
theorem revAt_k {xs : List Int} {k m : Nat} (hm : m = xs.length - 1 - k) (_h : k < m) : revAt xs (k + 1) k = ix xs m := by
  unfold revAt
  rw [if_pos (by omega), hm]
theorem revAt_m {xs : List Int} {k m : Nat} (hm : m = xs.length - 1 - k) (h : k < m) : revAt xs (k + 1) m = ix xs k := by
  unfold revAt
  rw [if_pos (by omega), show xs.length - 1 - m = k by omega]
theorem revAt_no {xs : List Int} {k m t : Nat} (hm : m = xs.length - 1 - k) (h : k < m) (h1 : t ≠ k) (h2 : t ≠ m) (ht : t < xs.length) : revAt xs (k + 1) t = revAt xs k t := by
  unfold revAt
  by_cases hh : t < k ∨ xs.length - k ≤ t
  · rw [if_pos hh, if_pos (by omega)]
  · rw [if_neg hh, if_neg (by omega)]
theorem revAt_end {xs : List Int} {k t : Nat} (h : ¬ k + 1 < xs.length - k) (hk : 2 * k ≤ xs.length) (ht : t < xs.length) : revAt xs k t = ix xs (xs.length - 1 - t) := by
  unfold revAt
  by_cases hh : t < k ∨ xs.length - k ≤ t
  · rw [if_pos hh]
  · rw [if_neg hh, show xs.length - 1 - t = t by omega]
set_option maxRecDepth 100000 in
set_option maxHeartbeats 4000000 in
theorem reverse_go (w : World) (b o c : Nat) (xs : List Int) (hlc : xs.length ≤ c) (hcm : c ≤ 9223372036854775807) (_hbl : b < w.heap.size)
    (hc : ∀ t, t < xs.length → w.cell? ⟨b, o + t, none⟩ = some (.int .i64 (ix xs t)) ∧ w.frozen? ⟨b, o + t, none⟩ = false) :
    Calls Try.prog 201 #[.slice (some ⟨b, o, none⟩) xs.length c] w fun e w' => e = .returned (.tuple #[]) ∧ Chg (fun x => x = b) w w' ∧ ∀ t, t < xs.length → w'.cell? ⟨b, o + t, none⟩ = some (.int .i64 (ix xs (xs.length - 1 - t))) ∧ w'.frozen? ⟨b, o + t, none⟩ = false := by
  have Hc := Lib.hid hc
  clear hc
  go_enter Try.func201, Try.ntmps201
  go_wp2
  go_loopw [2, 3] (fun i j wr => ∃ k : Nat, 2 * k ≤ xs.length ∧ i = .int .i64 k ∧ j = .int .i64 ((xs.length : Int) - 1 - k) ∧ Hid (Chg (fun x => x = b) w wr) ∧ Hid (∀ t, t < xs.length → wr.cell? ⟨b, o + t, none⟩ = some (.int .i64 (revAt xs k t)) ∧ wr.frozen? ⟨b, o + t, none⟩ = false)) (fun i _ _ => xs.length - (intOf i).toNat)
  case atStart => exact ⟨0, by omega, rfl, by simp, Chg.refl _ _, fun t ht => by
    have := Hc.out t ht
    unfold revAt
    rw [if_neg (by omega)]
    exact this⟩
  case round =>
    obtain ⟨k, hk, rfl, rfl, hg, hcs⟩ := hrel
    by_cases hlt : k + 1 < xs.length - k
    · obtain ⟨m, hm⟩ : ∃ m : Nat, m = xs.length - 1 - k := ⟨_, rfl⟩
      have hmI : (xs.length : Int) - 1 - k = m := by omega
      have hmk : k < m ∧ m < xs.length := by omega
      obtain ⟨hm1, hm2⟩ := hmk
      obtain ⟨p1, p2⟩ := hcs.out k (by omega)
      obtain ⟨p3, p4⟩ := hcs.out m hm2
      have e1 : revAt xs k k = ix xs k := by unfold revAt; rw [if_neg (by omega)]
      have e2 : revAt xs k m = ix xs m := by unfold revAt; rw [if_neg (by omega)]
      rw [e1] at p1
      rw [e2] at p3
      have HM := Lib.hid hm
      rw [hmI]
      have HMI := Lib.hid hmI
      clear e1 e2 hm hmI
      have hdd : decide ((k : Int) < (m : Int)) = true := decide_eq_true (by omega)
      have hnn : ¬ o + k = o + m := by omega
      have hnn2 : ¬ o + m = o + k := by omega
      go_wp2
      go_region
      all_goals go_wp2
      all_goals
        refine ⟨⟨k + 1, by omega, by go_num, ?_, ?_, ?_⟩, ?_⟩
        · have := HM.out; simp only [Value.int.injEq, true_and]; omega
        · exact Chg.drew (Chg.setCell (Chg.setCell hg.out (.inl rfl) _) (.inl rfl) _)
        · intro t ht
          obtain ⟨q1, q2⟩ := hcs.out t ht
          have hk1 : (wr.setCell ⟨b, o + k, none⟩ (.int .i64 (ix xs m))).cell? ⟨b, o + m, none⟩ = some (.int .i64 (ix xs m)) := by
            rw [World.cell?_setCell_other _ _ _ _ (fun h => hnn (Addr.mk.inj h).2.1)]
            exact p3
          by_cases ek : t = k
          · subst ek
            rw [revAt_k HM.out hm1]
            refine ⟨?_, by simpa using q2⟩
            show (World.setCell _ _ _).cell? _ = _
            rw [World.cell?_setCell_other _ _ _ _ (fun h => hnn2 (Addr.mk.inj h).2.1), World.cell?_setCell_same _ _ _ p1]
          · by_cases em : t = m
            · subst em
              rw [revAt_m HM.out hm1]
              refine ⟨?_, by simpa using q2⟩
              show (World.setCell _ _ _).cell? _ = _
              rw [World.cell?_setCell_same _ _ _ hk1]
            · rw [revAt_no HM.out hm1 ek em ht]
              refine ⟨?_, by simpa using q2⟩
              show (World.setCell _ _ _).cell? _ = _
              rw [World.cell?_setCell_other _ _ _ _ (fun h => em (by have := (Addr.mk.inj h).2.1; omega)), World.cell?_setCell_other _ _ _ _ (fun h => ek (by have := (Addr.mk.inj h).2.1; omega))]
              exact q1
        · simp [intOf]; omega
    · have hnot : ¬ (k : Int) < (xs.length : Int) - 1 - k := by omega
      have HE := Lib.hid (fun t (ht : t < xs.length) => revAt_end hlt hk ht)
      clear hlt
      go_wp2
      go_end0
      refine ⟨rfl, hg.out, fun t ht => ?_⟩
      rw [← HE.out t ht]
      exact hcs.out t ht
theorem reverse_any (w : World) (S : Nat → Prop) (v : Value) (xs : List Int) (h : Ints w S v xs) :
    Calls Try.prog 201 #[v] w fun e w' => e = .returned (.tuple #[]) ∧ Chg S w w' ∧ Ints w' S v xs.reverse := by
  obtain ⟨A, c, rfl, hlc, hcm, hx, hr, hnn⟩ := h
  by_cases hp : 0 < xs.length
  · obtain ⟨b, o, rfl, hS, hbl, hc⟩ := hr hp
    refine (reverse_go w b o c xs hlc hcm hbl (fun t ht => by rw [ix_eq ht]; exact hc t ht)).mono ?_
    rintro e w' ⟨he, hg, hcs⟩
    refine ⟨he, hg.mono (fun k _ hk => by rw [hk]; exact hS), _, c, by rw [List.length_reverse], by rw [List.length_reverse]; exact hlc, hcm, fun x hxx => hx x (List.mem_reverse.1 hxx), fun _ => ⟨b, o, rfl, hS, Nat.lt_of_lt_of_le hbl hg.size, fun t ht => ?_⟩, by simp⟩
    have ht' : t < xs.length := by simpa using ht
    have := hcs t ht'
    rw [ix_eq (show xs.length - 1 - t < xs.length by omega)] at this
    rw [List.getElem_reverse]
    exact this
  · have hn : xs = [] := List.eq_nil_of_length_eq_zero (by omega)
    subst hn
    clear hr hp
    go_enter Try.func201, Try.ntmps201
    go_wp2
    go_loop [2, 3] (fun i j => i = .int .i64 0 ∧ j = .int .i64 (-1)) (fun _ _ => 0)
    case atStart => exact ⟨rfl, by simp⟩
    case round =>
      obtain ⟨rfl, rfl⟩ := hrel
      go_wp2
      go_end0
      exact ⟨rfl, Chg.refl _ _, Ints.nil _ _ _ _ hcm hnn⟩
end Go.Proofs.Ytobgbnpgledabaa
section
set_option linter.unusedSimpArgs false
set_option linter.unusedVariables false
set_option maxRecDepth 100000
set_option maxHeartbeats 1000000
namespace Go.Proofs.Ytobgbnpgledabaa
open Go.ChangeShapes Go.WideShapes Go.ChangeAt Go.RowKit
theorem l00Same_any (w : World) (S S' : Nat → Prop) (v u : Value) (xs ys : List Int) (h : Ints w S v xs) (h2 : Ints w S' u ys) :
    Calls Try.prog 239 #[v, u] w fun e w' => e = .returned (.bool (sameL xs ys)) ∧ Up w w' := by
  obtain ⟨A, c, rfl, hlc, hcm, -⟩ := h.shape
  obtain ⟨A2, c2, rfl, hlc2, hcm2, -⟩ := h2.shape
  by_cases hl : xs.length = ys.length
  rotate_left
  · have HB := Lib.hid (sameL_len hl)
    have hb : ((xs.length : Int) != ys.length) = true := by simp; omega
    clear hl h h2
    go_enter Try.func239, Try.ntmps239
    go_wp2
    go_ret
    exact ⟨ret_bool HB.out.symm, Chg.refl _ _⟩
  have HL := Lib.hid hl
  have hb : ((xs.length : Int) != ys.length) = false := by simp; omega
  have H := Lib.hid h
  have H2 := Lib.hid h2
  clear h h2 hl
  go_enter Try.func239, Try.ntmps239
  go_wp2
  go_loopw [5] (fun i wr => ∃ (j : Nat), j ≤ xs.length ∧ i = .int .i64 j ∧ Hid (Up w wr) ∧ Hid (AgreeTo xs ys j)) (fun i _ => xs.length - (intOf i).toNat)
  case atStart => exact ⟨0, by omega, rfl, Chg.refl _ _, AgreeTo.start _ _⟩
  case round =>
    obtain ⟨j, hj, rfl, hu, hp⟩ := hrel
    by_cases hlt : j < xs.length
    · have hlt2 : j < ys.length := by have := HL.out; omega
      obtain ⟨b, o, rfl, -, hc⟩ := (H.out.up hu.out).ix hlt
      obtain ⟨b2, o2, rfl, -, hc2⟩ := (H2.out.up hu.out).ix hlt2
      have f0 := hc j hlt
      have e0 := hc2 j hlt2
      rw [ix_eq hlt] at f0
      rw [ix_eq hlt2] at e0
      clear hc hc2
      by_cases he : xs[j] = ys[j]
      · have HE := Lib.hid he
        have hbb : ((xs[j] : Int) != ys[j]) = false := by simp [he]
        clear he
        go_wp2
        go_quiet (fail)
        go_wp2
        go_roundw
        case rel => exact ⟨j + 1, by omega, by go_num, Lib.hid (Chg.trans hu.out (by repeat (first | exact Chg.refl _ _ | apply Chg.drew | apply Chg.drewN | refine Chg.alloc ?_ _))), Lib.hid (AgreeTo.next hp.out hlt hlt2 HE.out)⟩
        case measure => first | (simp [intOf]; done) | (simp [intOf]; omega)
      · have HB := Lib.hid (sameL_at hlt hlt2 he)
        have hbb : ((xs[j] : Int) != ys[j]) = true := by simpa using he
        clear he
        go_wp2
        go_quiet (fail)
        go_wp2
        go_ret
        exact ⟨ret_bool HB.out.symm, Chg.trans hu.out (by repeat (first | exact Chg.refl _ _ | apply Chg.drew | apply Chg.drewN | refine Chg.alloc ?_ _))⟩
    · obtain rfl : j = xs.length := by omega
      have HB := Lib.hid (sameL_all hp.out HL.out)
      go_wp2
      go_ret
      exact ⟨ret_bool HB.out.symm, hu.out⟩
theorem equalInts_any (w : World) (S S' : Nat → Prop) (v u : Value) (xs ys : List Int) (h : Ints w S v xs) (h2 : Ints w S' u ys) :
    Calls Try.prog 221 #[v, u] w fun e w' => e = .returned (.bool (sameL xs ys)) ∧ Up w w' := by
  obtain ⟨A, c, rfl, hlc, hcm, -⟩ := h.shape
  obtain ⟨A2, c2, rfl, hlc2, hcm2, -⟩ := h2.shape
  by_cases hl : xs.length = ys.length
  rotate_left
  · have HB := Lib.hid (sameL_len hl)
    have hb : ((xs.length : Int) != ys.length) = true := by simp; omega
    clear hl h h2
    go_enter Try.func221, Try.ntmps221
    go_wp2
    go_ret
    exact ⟨ret_bool HB.out.symm, Chg.refl _ _⟩
  have HL := Lib.hid hl
  have hb : ((xs.length : Int) != ys.length) = false := by simp; omega
  have H := Lib.hid h
  have H2 := Lib.hid h2
  clear h h2 hl
  go_enter Try.func221, Try.ntmps221
  go_wp2
  go_loopw [5, 13] (fun _ i wr => ∃ (j : Nat), j ≤ xs.length ∧ i = .int .i64 j ∧ Hid (Up w wr) ∧ Hid (AgreeTo xs ys j)) (fun _ i _ => xs.length - (intOf i).toNat)
  case atStart => exact ⟨0, by omega, rfl, Chg.refl _ _, AgreeTo.start _ _⟩
  case round =>
    obtain ⟨j, hj, rfl, hu, hp⟩ := hrel
    by_cases hlt : j < xs.length
    · have hlt2 : j < ys.length := by have := HL.out; omega
      obtain ⟨b, o, rfl, -, hc⟩ := (H.out.up hu.out).ix hlt
      obtain ⟨b2, o2, rfl, -, hc2⟩ := (H2.out.up hu.out).ix hlt2
      have f0 := hc j hlt
      have e0 := hc2 j hlt2
      rw [ix_eq hlt] at f0
      rw [ix_eq hlt2] at e0
      clear hc hc2
      by_cases he : xs[j] = ys[j]
      · have HE := Lib.hid he
        have hbb : ((xs[j] : Int) != ys[j]) = false := by simp [he]
        clear he
        go_wp2
        go_quiet (fail)
        go_wp2
        go_roundw
        case rel => exact ⟨j + 1, by omega, by go_num, Lib.hid (Chg.trans hu.out (by repeat (first | exact Chg.refl _ _ | apply Chg.drew | apply Chg.drewN | refine Chg.alloc ?_ _))), Lib.hid (AgreeTo.next hp.out hlt hlt2 HE.out)⟩
        case measure => first | (simp [intOf]; done) | (simp [intOf]; omega)
      · have HB := Lib.hid (sameL_at hlt hlt2 he)
        have hbb : ((xs[j] : Int) != ys[j]) = true := by simpa using he
        clear he
        go_wp2
        go_quiet (fail)
        go_wp2
        go_ret
        exact ⟨ret_bool HB.out.symm, Chg.trans hu.out (by repeat (first | exact Chg.refl _ _ | apply Chg.drew | apply Chg.drewN | refine Chg.alloc ?_ _))⟩
    · obtain rfl : j = xs.length := by omega
      have HB := Lib.hid (sameL_all hp.out HL.out)
      go_wp2
      go_ret
      exact ⟨ret_bool HB.out.symm, hu.out⟩
theorem evEq_and (x y : EvM) : decide (x = y) = (decide (x.kind = y.kind) && (decide (x.place = y.place) && (decide (x.count = y.count) && (decide (x.bed = y.bed) && (decide (x.car = y.car) && decide (x.dir = y.dir)))))) := by
  rw [Bool.eq_iff_iff, decide_eq_true_eq, evM_eq]
  simp
theorem evNeq (w : World) (x y : EvM) : (binOp .neq 123 x.val y.val).run Try.prog w = .ok (.bool (!decide (x = y))) w := by
  rw [evEq_and, run_neq_struct]
  by_cases h0 : x.kind = y.kind
  rotate_left
  · simp [go_sem, Program.fieldsOf, Try.underlying123, Op.eqFields, h0]
  by_cases h1 : x.place = y.place
  rotate_left
  · simp [go_sem, Program.fieldsOf, Try.underlying123, Op.eqFields, h0, h1]
  by_cases h2 : x.count = y.count
  rotate_left
  · simp [go_sem, Program.fieldsOf, Try.underlying123, Op.eqFields, h0, h1, h2]
  by_cases h3 : x.bed = y.bed
  rotate_left
  · simp [go_sem, Program.fieldsOf, Try.underlying123, Op.eqFields, h0, h1, h2, h3]
  by_cases h4 : x.car = y.car
  rotate_left
  · simp [go_sem, Program.fieldsOf, Try.underlying123, Op.eqFields, h0, h1, h2, h3, h4]
  by_cases h5 : x.dir = y.dir
  rotate_left
  · simp [go_sem, Program.fieldsOf, Try.underlying123, Op.eqFields, h0, h1, h2, h3, h4, h5]
  simp [go_sem, Program.fieldsOf, Try.underlying123, Op.eqFields, h0, h1, h2, h3, h4, h5]
theorem evEq_true {x y : EvM} (h : x = y) (w : World) : (binOp .neq 123 x.val y.val).run Try.prog w = .ok (.bool false) w := by
  rw [evNeq, decide_eq_true h]
  rfl
theorem evEq_false {x y : EvM} (h : x ≠ y) (w : World) : (binOp .neq 123 x.val y.val).run Try.prog w = .ok (.bool true) w := by
  rw [evNeq, decide_eq_false h]
  rfl
end Go.Proofs.Ytobgbnpgledabaa
end
section
set_option linter.unusedSimpArgs false
set_option linter.unusedVariables false
set_option maxRecDepth 100000
set_option maxHeartbeats 1000000
namespace Go.Proofs.Ytobgbnpgledabaa
open Go.ChangeShapes Go.WideShapes Go.ChangeAt Go.RowKit
theorem has_any (w : World) (S : Nat → Prop) (v : Value) (xs : List Int) (x : Int) (h : Ints w S v xs) :
    Calls Try.prog 52 #[v, .int .i64 x] w fun e w' => e = .returned (.bool (decide (x ∈ xs))) ∧ w = w' := by
  obtain ⟨A, c, rfl, hlc, hcm, -⟩ := h.shape
  have H := Lib.hid h
  clear h
  go_enter Try.func52, Try.ntmps52
  go_wp2
  go_loop [5] (fun i => ∃ j : Nat, j ≤ xs.length ∧ i = .int .i64 j ∧ Hid (x ∉ xs.take j)) (fun i => xs.length - (intOf i).toNat)
  case atStart => exact ⟨0, by omega, rfl, by simp [Hid]⟩
  case round =>
    obtain ⟨j, hj, rfl, hno⟩ := hrel
    by_cases hlt : j < xs.length
    · obtain ⟨b1, o1, rfl, -, hc⟩ := H.out.ix hlt
      have f1 := hc j hlt
      rw [ix_eq hlt] at f1
      clear hc
      by_cases he : xs[j] = x
      · have HM := Lib.hid (show decide (x ∈ xs) = true from decide_eq_true (he ▸ List.getElem_mem hlt))
        rw [he] at f1
        have e1 : (x == x) = true := by simp
        clear he
        go_wp2
        go_ret
        exact ⟨ret_bool HM.out.symm, rfl⟩
      · have e1 : (xs[j] == x) = false := by simpa using he
        have HE := Lib.hid he
        clear he
        go_wp2
        go_round
        case rel => exact ⟨j + 1, by omega, by go_num, by show x ∉ _; rw [List.take_succ_eq_append_getElem hlt]; intro hm; rcases List.mem_append.1 hm with hm | hm; exact hno.out hm; exact HE.out (by simpa [eq_comm] using hm)⟩
        case measure => simp [intOf]; omega
    · obtain rfl : j = xs.length := by omega
      have HM := Lib.hid (show decide (x ∈ xs) = false from decide_eq_false (by have := hno.out; rwa [List.take_length] at this))
      go_wp2
      go_ret
      exact ⟨ret_bool HM.out.symm, rfl⟩
theorem identity_any (w : World) (n : Nat) (hn : n ≤ 1000) :
    Calls Try.prog 199 #[.int .i64 n] w fun e w' => ∃ v, e = .returned v ∧ Ints w' (New w.heap.size w'.heap.size) v (identM n) ∧ Up w w' := by
  obtain ⟨i0, hi, hz0, hz1, hz2⟩ := info_parts info2
  have hmk : ∀ u : World, (Instr.makeSlice 25 (.int .i64 (n : Int)) (.int .i64 (n : Int))).run Try.prog u =
      .ok (.slice (some ⟨u.heap.size, 0, none⟩) n n) (u.alloc (.cells (madeCells #[.int .i64 0] n) 2)) := fun u => by
    have h := run_make (P := Try.prog) u 25 2 i0 (.int .i64 0) Try.underlying25 hi hz0 .i64 .i64 (n : Int) (n : Int) (by omega) (Int.le_refl _) (by rw [hz2]; omega) (by omega)
    simpa [hz1, Value.cells] using h
  go_enter Try.func199, Try.ntmps199
  go_wp2
  have Hi := Lib.hid hmk
  clear hmk hi hz0 hz1 hz2
  go_loopw [4, 9] (fun _ i wr => ∃ j : Nat, j ≤ n ∧ i = .int .i64 j ∧ Hid (Up w wr) ∧ Hid (Ints wr (fun b => b = w.heap.size) (.slice (some ⟨w.heap.size, 0, none⟩) n n) (identTo n j))) (fun _ i _ => n - (intOf i).toNat)
  case atStart => exact ⟨0, by omega, rfl, (Chg.refl _ _).alloc _, Lib.hid (Ints.zeros w _ n _ (by omega) rfl)⟩
  case round =>
    obtain ⟨j, hj, rfl, hg, hc⟩ := hrel
    by_cases hlt : j < n
    · have hlen := identTo_length n j
      have hI := hc.out
      obtain ⟨m, hm⟩ : ∃ m, m = (identTo n j).length := ⟨_, rfl⟩
      have hmn : m = n := hm.trans hlen
      have hI2 : Ints wr (fun b => b = w.heap.size) (.slice (some ⟨w.heap.size, 0, none⟩) (identTo n j).length n) (identTo n j) := by rw [hlen]; exact hI
      obtain ⟨b, o, hb, -, hcc⟩ := ints_ixf hI2 (i := j) (by omega)
      obtain ⟨rfl, rfl⟩ : w.heap.size = b ∧ 0 = o := by simpa using hb
      obtain ⟨f0, q0⟩ := hcc j (by omega)
      rw [Nat.zero_add] at f0 q0
      have HS := Lib.hid (hI2.set (k := j) (by omega) (x := j) (by unfold I64; omega))
      clear hcc hI hI2 hm hmn hlen
      go_wp2
      go_roundw
      case rel => exact ⟨j + 1, by omega, by go_num, hg.out.setCell (.inr (Nat.le_refl _)) _, by have h := HS.out; rw [identTo_length, Nat.zero_add] at h; exact h⟩
      case measure => simp [intOf]; omega
    · obtain rfl : j = n := by omega
      have HE := Lib.hid (identTo_all j)
      go_wp2
      go_ret
      exact ⟨_, rfl, by rw [← HE.out]; exact hc.out.mono (fun b hb h => by have h : b = w.heap.size := h; subst h; exact ⟨Nat.le_refl _, hb⟩), hg.out⟩
theorem l04Identity_any (w : World) (n : Nat) (hn : n ≤ 1000) :
    Calls Try.prog 191 #[.int .i64 n] w fun e w' => ∃ v, e = .returned v ∧ Ints w' (New w.heap.size w'.heap.size) v (identM n) ∧ Up w w' := by
  go_enter Try.func191, Try.ntmps191
  go_wp2
  go_loopw [3, 4] (fun v i wr => ∃ j : Nat, j ≤ n ∧ i = .int .i64 j ∧ Hid (OwnI wr w.heap.size v (identM j)) ∧ Hid (Up w wr)) (fun _ i _ => n - (intOf i).toNat)
  case atStart => exact ⟨0, by omega, rfl, OwnI.made w _ (Nat.le_refl _), (Chg.refl _ _).alloc _⟩
  case round =>
    obtain ⟨j, hj, rfl, ho, hg⟩ := hrel
    by_cases hlt : j < n
    · have HI := Lib.hid (show I64 (j : Int) by unfold I64; omega)
      have HL := Lib.hid (show (identM j).length ≤ 1099511627776 by rw [identM_length]; omega)
      have hsz := hg.out.size
      go_wp2_with (first | (at_builtin; refine wp_append_int rfl _ _ rfl w.heap.size _ (identM j) rfl (ho.out.alloc _) _ ((j : Int)) rfl (cell_new _ _ _ _) HI.out HL.out ?_ ?_; (simp; omega); intro v' w' h1 h2 h3; have HO := Lib.hid h1; have HG := Lib.hid h3; clear h1 h2 h3; go_wp2))
      go_roundw
      case rel => exact ⟨j + 1, by omega, by go_num, by rw [identM_succ]; exact HO.out, Chg.new (hg.out.alloc _) HG.out (fun i hi => by omega)⟩
      case measure => simp [intOf]; omega
    · obtain rfl : j = n := by omega
      go_wp2
      go_ret
      exact ⟨_, rfl, ho.out.ints, hg.out⟩
theorem l04Half_any (w : World) (n : Nat) (hn : n ≤ 1000) :
    Calls Try.prog 193 #[.int .i64 n] w fun e w' => ∃ v, e = .returned v ∧ Ints w' (New w.heap.size w'.heap.size) v (halfM n) ∧ Up w w' := by
  go_enter Try.func193, Try.ntmps193
  go_wp2
  go_loopw [3, 4] (fun v i wr => ∃ j : Nat, j ≤ n ∧ i = .int .i64 ((n : Int) - 1 - j) ∧ Hid (OwnI wr w.heap.size v (fallTo n j)) ∧ Hid (Up w wr)) (fun _ i _ => (intOf i + 1).toNat)
  case atStart => exact ⟨0, by omega, by simp, OwnI.made w _ (Nat.le_refl _), (Chg.refl _ _).alloc _⟩
  case round =>
    obtain ⟨j, hj, rfl, ho, hg⟩ := hrel
    by_cases hlt : j < n
    · have HI := Lib.hid (show I64 ((n : Int) - 1 - j) by unfold I64; omega)
      have HL := Lib.hid (show (fallTo n j).length ≤ 1099511627776 by rw [fallTo_length]; omega)
      have hsz := hg.out.size
      have hge : (0 : Int) ≤ (n : Int) - 1 - j := by omega
      go_wp2_with (first | (at_builtin; refine wp_append_int rfl _ _ rfl w.heap.size _ (fallTo n j) rfl (ho.out.alloc _) _ ((n : Int) - 1 - j) rfl (cell_new _ _ _ _) HI.out HL.out ?_ ?_; (simp; omega); intro v' w' h1 h2 h3; have HO := Lib.hid h1; have HG := Lib.hid h3; clear h1 h2 h3; go_wp2))
      go_roundw
      case rel => exact ⟨j + 1, by omega, by simp only [Value.int.injEq, true_and]; omega, by rw [fallTo_succ]; exact HO.out, Chg.new (hg.out.alloc _) HG.out (fun i hi => by omega)⟩
      case measure => simp [intOf]; omega
    · obtain rfl : j = n := by omega
      have hge : ¬ (0 : Int) ≤ (j : Int) - 1 - j := by omega
      have HE := Lib.hid (fallTo_all j)
      go_wp2
      go_ret
      exact ⟨_, rfl, by unfold halfM; rw [← HE.out]; exact ho.out.ints, hg.out⟩
theorem halfTwist_any (w : World) (n : Nat) (hn : n ≤ 1000) :
    Calls Try.prog 161 #[.int .i64 n] w fun e w' => ∃ v, e = .returned v ∧ Ints w' (New w.heap.size w'.heap.size) v (halfM n) ∧ Up w w' := by
  go_enter Try.func161, Try.ntmps161
  go_wp2_with fail
  refine (identity_any _ n hn).mono ?_
  rintro e w1 ⟨v, rfl, k1, g1⟩
  obtain ⟨A, c, rfl, hlc, hcm, -⟩ := k1.shape
  have K1 := Lib.hid k1
  have G1 := Lib.hid g1
  clear k1 g1
  go_wp2_with fail
  refine (reverse_any _ _ _ _ K1.out).mono ?_
  rintro e w2 ⟨rfl, g2, k2⟩
  have K2 := Lib.hid k2
  have G2 := Lib.hid g2
  clear k2 g2
  go_wp2
  go_ret
  exact ⟨_, rfl, K2.out.mono (fun b _ h => ⟨h.1, Nat.lt_of_lt_of_le h.2 G2.out.size⟩), Chg.new G1.out G2.out (fun i hi h => by have := h.1; omega)⟩
theorem l04Inverse_any (w : World) (S : Nat → Prop) (v : Value) (p : List Int) (h : Ints w S v p) (hp : permB p = true) :
    Calls Try.prog 252 #[v] w fun e w' => ∃ u, e = .returned u ∧ Ints w' (New w.heap.size w'.heap.size) u (invM p) ∧ Up w w' := by
  have hlp := permB_len hp
  obtain ⟨A, c, rfl, hlc, hcm, -⟩ := h.shape
  have H := Lib.hid h
  have HP := Lib.hid hp
  clear h hp
  obtain ⟨i0, hi, hz0, hz1, hz2⟩ := info_parts info2
  have hmk : ∀ u : World, (Instr.makeSlice 25 (.int .i64 (p.length : Int)) (.int .i64 (p.length : Int))).run Try.prog u =
      .ok (.slice (some ⟨u.heap.size, 0, none⟩) p.length p.length) (u.alloc (.cells (madeCells #[.int .i64 0] p.length) 2)) := fun u => by
    have h := run_make (P := Try.prog) u 25 2 i0 (.int .i64 0) Try.underlying25 hi hz0 .i64 .i64 (p.length : Int) (p.length : Int) (by omega) (Int.le_refl _) (by rw [hz2]; omega) (by omega)
    simpa [hz1, Value.cells] using h
  go_enter Try.func252, Try.ntmps252
  go_wp2
  have Hi := Lib.hid hmk
  clear hmk hi hz0 hz1 hz2
  go_loopw [4] (fun i wr => ∃ j : Nat, j ≤ p.length ∧ i = .int .i64 j ∧ Hid (Up w wr) ∧ Hid (Ints wr (fun b => b = w.heap.size) (.slice (some ⟨w.heap.size, 0, none⟩) p.length p.length) (invTo p j))) (fun i _ => p.length - (intOf i).toNat)
  case atStart => exact ⟨0, by omega, rfl, (Chg.refl _ _).alloc _, Lib.hid (Ints.zeros w _ p.length _ (by omega) rfl)⟩
  case round =>
    obtain ⟨j, hj, rfl, hg, hc⟩ := hrel
    by_cases hlt : j < p.length
    · have hlen := invTo_length p j
      obtain ⟨hx0, hx1⟩ := permB_ix HP.out hlt
      obtain ⟨kn, hk⟩ : ∃ kn : Nat, ix p j = kn := ⟨(ix p j).toNat, by omega⟩
      have hkn : kn < p.length := by omega
      obtain ⟨b1, o1, rfl, -, hc1⟩ := (H.out.up hg.out).ix hlt
      have f1 := hc1 j hlt
      rw [hk] at f1
      have hI2 : Ints wr (fun b => b = w.heap.size) (.slice (some ⟨w.heap.size, 0, none⟩) (invTo p j).length p.length) (invTo p j) := by rw [hlen]; exact hc.out
      obtain ⟨b, o, hb, -, hcc⟩ := ints_ixf hI2 (i := kn) (by omega)
      obtain ⟨rfl, rfl⟩ : w.heap.size = b ∧ 0 = o := by simpa using hb
      obtain ⟨f0, q0⟩ := hcc kn (by omega)
      rw [Nat.zero_add] at f0 q0
      have HS := Lib.hid (hI2.set (k := kn) (by omega) (x := j) (by unfold I64; omega))
      have HK := Lib.hid hk
      clear hcc hI2 hlen hk hx0 hx1 hc1
      go_wp2
      go_roundw
      case rel => exact ⟨j + 1, by omega, by go_num, hg.out.setCell (.inr (Nat.le_refl _)) _, by have h := HS.out; rw [invTo_length, Nat.zero_add] at h; rw [invTo, HK.out]; exact h⟩
      case measure => simp [intOf]; omega
    · obtain rfl : j = p.length := by omega
      go_wp2
      go_ret
      exact ⟨_, rfl, hc.out.mono (fun b hb h => by have h : b = w.heap.size := h; subst h; exact ⟨Nat.le_refl _, hb⟩), hg.out⟩
theorem invert_any (w : World) (S : Nat → Prop) (v : Value) (p : List Int) (h : Ints w S v p) (hp : permB p = true) :
    Calls Try.prog 244 #[v] w fun e w' => ∃ u, e = .returned u ∧ Ints w' (New w.heap.size w'.heap.size) u (invM p) ∧ Up w w' := by
  have hlp := permB_len hp
  obtain ⟨A, c, rfl, hlc, hcm, -⟩ := h.shape
  have H := Lib.hid h
  have HP := Lib.hid hp
  clear h hp
  obtain ⟨i0, hi, hz0, hz1, hz2⟩ := info_parts info2
  have hmk : ∀ u : World, (Instr.makeSlice 25 (.int .i64 (p.length : Int)) (.int .i64 (p.length : Int))).run Try.prog u =
      .ok (.slice (some ⟨u.heap.size, 0, none⟩) p.length p.length) (u.alloc (.cells (madeCells #[.int .i64 0] p.length) 2)) := fun u => by
    have h := run_make (P := Try.prog) u 25 2 i0 (.int .i64 0) Try.underlying25 hi hz0 .i64 .i64 (p.length : Int) (p.length : Int) (by omega) (Int.le_refl _) (by rw [hz2]; omega) (by omega)
    simpa [hz1, Value.cells] using h
  go_enter Try.func244, Try.ntmps244
  go_wp2
  have Hi := Lib.hid hmk
  clear hmk hi hz0 hz1 hz2
  go_loopw [4, 5, 11] (fun _ _ i wr => ∃ j : Nat, j ≤ p.length ∧ i = .int .i64 j ∧ Hid (Up w wr) ∧ Hid (Ints wr (fun b => b = w.heap.size) (.slice (some ⟨w.heap.size, 0, none⟩) p.length p.length) (invTo p j))) (fun _ _ i _ => p.length - (intOf i).toNat)
  case atStart => exact ⟨0, by omega, rfl, (Chg.refl _ _).alloc _, Lib.hid (Ints.zeros w _ p.length _ (by omega) rfl)⟩
  case round =>
    obtain ⟨j, hj, rfl, hg, hc⟩ := hrel
    by_cases hlt : j < p.length
    · have hlen := invTo_length p j
      obtain ⟨hx0, hx1⟩ := permB_ix HP.out hlt
      obtain ⟨kn, hk⟩ : ∃ kn : Nat, ix p j = kn := ⟨(ix p j).toNat, by omega⟩
      have hkn : kn < p.length := by omega
      obtain ⟨b1, o1, rfl, -, hc1⟩ := (H.out.up hg.out).ix hlt
      have f1 := hc1 j hlt
      rw [hk] at f1
      have hI2 : Ints wr (fun b => b = w.heap.size) (.slice (some ⟨w.heap.size, 0, none⟩) (invTo p j).length p.length) (invTo p j) := by rw [hlen]; exact hc.out
      obtain ⟨b, o, hb, -, hcc⟩ := ints_ixf hI2 (i := kn) (by omega)
      obtain ⟨rfl, rfl⟩ : w.heap.size = b ∧ 0 = o := by simpa using hb
      obtain ⟨f0, q0⟩ := hcc kn (by omega)
      rw [Nat.zero_add] at f0 q0
      have HS := Lib.hid (hI2.set (k := kn) (by omega) (x := j) (by unfold I64; omega))
      have HK := Lib.hid hk
      clear hcc hI2 hlen hk hx0 hx1 hc1
      go_wp2
      go_roundw
      case rel => exact ⟨j + 1, by omega, by go_num, hg.out.setCell (.inr (Nat.le_refl _)) _, by have h := HS.out; rw [invTo_length, Nat.zero_add] at h; rw [invTo, HK.out]; exact h⟩
      case measure => simp [intOf]; omega
    · obtain rfl : j = p.length := by omega
      go_wp2
      go_ret
      exact ⟨_, rfl, hc.out.mono (fun b hb h => by have h : b = w.heap.size := h; subst h; exact ⟨Nat.le_refl _, hb⟩), hg.out⟩
theorem descents_any (w : World) (S : Nat → Prop) (v : Value) (p : List Int) (h : Ints w S v p) (hl : p.length ≤ 1000) :
    Calls Try.prog 253 #[v] w fun e w' => ∃ u, e = .returned u ∧ Ints w' (New w.heap.size w'.heap.size) u (descM p) ∧ Up w w' := by
  obtain ⟨A, c, rfl, hlc, hcm, -⟩ := h.shape
  have H := Lib.hid h
  clear h
  go_enter Try.func253, Try.ntmps253
  go_wp2
  go_loopw [3, 4] (fun v i wr => ∃ j : Nat, j ≤ p.length - 1 ∧ i = .int .i64 (j : Int) ∧ Hid (OwnI wr w.heap.size v (descTo p j)) ∧ Hid (Up w wr)) (fun _ i _ => p.length + 1 - (intOf i).toNat)
  case atStart => exact ⟨0, by omega, by simp, OwnI.made w _ (Nat.le_refl _), (Chg.refl _ _).alloc _⟩
  case round =>
    obtain ⟨j, hj, rfl, ho, hg⟩ := hrel
    by_cases hlt : j + 1 < p.length
    · obtain ⟨b1, o1, rfl, -, hc⟩ := (H.out.up hg.out).ix hlt
      have f1 := hc (j + 1) hlt
      have f0 := hc j (by omega)
      have HL := Lib.hid (show (descTo p j).length ≤ 1099511627776 by have := descTo_length p j; omega)
      have HI := Lib.hid (show I64 (j : Int) by unfold I64; omega)
      have hsz := hg.out.size
      have hw1 : IntKind.i64.wrap ((j : Int) + 1) = (j : Int) + 1 := IntWalk.i64_in _ (by omega)
      have ht1 : ((j : Int) + 1).toNat = j + 1 := by omega
      have hw2 : ((j + 1 : Nat) : Int) - 1 = j := by omega
      clear hc
      by_cases hd : ix p (j + 1) < ix p j
      · have HD := Lib.hid (show descTo p (j + 1) = descTo p j ++ [(j : Int)] by rw [descTo, if_pos hd])
        have hb : decide (ix p (j + 1) < ix p j) = true := decide_eq_true hd
        clear hd
        go_wp2
        go_quiet (fail)
        go_wp2_with (first | (at_builtin; refine wp_append_int rfl _ _ rfl w.heap.size _ (descTo p j) rfl (ho.out.alloc _) _ ((j : Int)) rfl (cell_new _ _ _ _) HI.out HL.out ?_ ?_; (simp; omega); intro v' w' h1 h2 h3; have HO := Lib.hid h1; have HG := Lib.hid h3; clear h1 h2 h3; go_wp2))
        go_roundw
        case rel => exact ⟨j + 1, by omega, by go_num, by rw [HD.out]; exact HO.out, Chg.new (hg.out.drewN _ |>.alloc _) HG.out (fun i hi => by omega)⟩
        case measure => simp [intOf]; omega
      · have HD := Lib.hid (show descTo p (j + 1) = descTo p j by rw [descTo, if_neg hd])
        have hb : decide (ix p (j + 1) < ix p j) = false := decide_eq_false hd
        clear hd
        go_wp2
        go_quiet (fail)
        go_wp2
        go_roundw
        case rel => exact ⟨j + 1, by omega, by go_num, by rw [HD.out]; exact ho.out.up (Chg.refl _ _ |>.drewN _), hg.out.drewN _⟩
        case measure => simp [intOf]; omega
    · obtain rfl : j = p.length - 1 := by omega
      have hd : decide ((((p.length - 1 : Nat) : Int) + 1) < (p.length : Int)) = false := decide_eq_false (by omega)
      go_wp2
      go_ret
      exact ⟨_, rfl, ho.out.ints, hg.out⟩
theorem l04Start_any (w : World) (S : Nat → Prop) (v : Value) (p : List Int) (h : Ints w S v p) (hl : p.length ≤ 1000) :
    Calls Try.prog 238 #[v] w fun e w' => ∃ u, e = .returned u ∧ Ints w' (New w.heap.size w'.heap.size) u (startM p) ∧ Up w w' := by
  obtain ⟨A, c, rfl, hlc, hcm, -⟩ := h.shape
  have H := Lib.hid h
  clear h
  go_enter Try.func238, Try.ntmps238
  go_wp2
  go_loopw [3, 4] (fun v i wr => ∃ j : Nat, j ≤ p.length - 1 ∧ i = .int .i64 ((j + 1 : Nat) : Int) ∧ Hid (OwnI wr w.heap.size v (startTo p j)) ∧ Hid (Up w wr)) (fun _ i _ => p.length + 1 - (intOf i).toNat)
  case atStart => exact ⟨0, by omega, by simp, OwnI.made w _ (Nat.le_refl _), (Chg.refl _ _).alloc _⟩
  case round =>
    obtain ⟨j, hj, rfl, ho, hg⟩ := hrel
    by_cases hlt : j + 1 < p.length
    · obtain ⟨b1, o1, rfl, -, hc⟩ := (H.out.up hg.out).ix hlt
      have f1 := hc (j + 1) hlt
      have f0 := hc j (by omega)
      have HL := Lib.hid (show (startTo p j).length ≤ 1099511627776 by have := startTo_length p j; omega)
      have HI := Lib.hid (show I64 ((j + 1 : Nat) : Int) by unfold I64; omega)
      have hsz := hg.out.size
      have hw1 : IntKind.i64.wrap ((j : Int) + 1) = (j : Int) + 1 := IntWalk.i64_in _ (by omega)
      have ht1 : ((j : Int) + 1).toNat = j + 1 := by omega
      have hw2 : ((j + 1 : Nat) : Int) - 1 = j := by omega
      clear hc
      by_cases hd : ix p (j + 1) < ix p j
      · have HD := Lib.hid (show startTo p (j + 1) = startTo p j ++ [((j + 1 : Nat) : Int)] by rw [startTo_succ, if_pos hd]; simp)
        have hb : decide (ix p (j + 1) < ix p j) = true := decide_eq_true hd
        clear hd
        go_wp2
        go_quiet (fail)
        go_wp2_with (first | (at_builtin; refine wp_append_int rfl _ _ rfl w.heap.size _ (startTo p j) rfl (ho.out.alloc _) _ (((j + 1 : Nat) : Int)) rfl (cell_new _ _ _ _) HI.out HL.out ?_ ?_; (simp; omega); intro v' w' h1 h2 h3; have HO := Lib.hid h1; have HG := Lib.hid h3; clear h1 h2 h3; go_wp2))
        go_roundw
        case rel => exact ⟨j + 1, by omega, by go_num, by rw [HD.out]; exact HO.out, Chg.new (hg.out.drewN _ |>.alloc _) HG.out (fun i hi => by omega)⟩
        case measure => simp [intOf]; omega
      · have HD := Lib.hid (show startTo p (j + 1) = startTo p j by rw [startTo_succ, if_neg hd])
        have hb : decide (ix p (j + 1) < ix p j) = false := decide_eq_false hd
        clear hd
        go_wp2
        go_quiet (fail)
        go_wp2
        go_roundw
        case rel => exact ⟨j + 1, by omega, by go_num, by rw [HD.out]; exact ho.out.up (Chg.refl _ _ |>.drewN _), hg.out.drewN _⟩
        case measure => simp [intOf]; omega
    · obtain rfl : j = p.length - 1 := by omega
      have hd : decide ((((p.length - 1 + 1 : Nat) : Int)) < (p.length : Int)) = false := decide_eq_false (by omega)
      go_wp2
      go_ret
      exact ⟨_, rfl, ho.out.ints, hg.out⟩
end Go.Proofs.Ytobgbnpgledabaa
end
section
set_option linter.unusedSimpArgs false
set_option linter.unusedVariables false
set_option maxRecDepth 100000
set_option maxHeartbeats 1000000
namespace Go.Proofs.Ytobgbnpgledabaa
open Go.ChangeShapes Go.WideShapes Go.ChangeAt Go.RowKit
theorem callB {f : FuncId} {args : Array Value} {w : World} {b c : Bool} (h : Calls Try.prog f args w fun e w' => e = .returned (.bool b) ∧ Up w w') (hb : b = c) : Calls Try.prog f args w fun e w' => e = .returned (.bool c) ∧ Up w w' := hb ▸ h
theorem eqInts1_any (w : World) (S S' : Nat → Prop) (v u : Value) (xs ys : List Int) (h : Ints w S v xs) (h2 : Ints w S' u ys) :
    Calls Try.prog 242 #[v, u] w fun e w' => e = .returned (.bool (sameL xs ys)) ∧ Up w w' := by
  obtain ⟨A, c, rfl, hlc, hcm, -⟩ := h.shape
  obtain ⟨A2, c2, rfl, hlc2, hcm2, -⟩ := h2.shape
  have H := Lib.hid h
  have H2 := Lib.hid h2
  clear h h2
  go_enter Try.func242, Try.ntmps242
  go_wp2_with fail
  refine (equalInts_any _ _ _ _ _ _ _ H.out H2.out).mono ?_
  rintro e w1 ⟨rfl, g1⟩
  have G := Lib.hid g1
  clear g1
  go_wp2
  go_ret
  exact ⟨rfl, G.out⟩
theorem eqfInts_any (w : World) (M H L M' H' L' : Nat → Prop) (v u : Value) (xs ys : List (List Int)) (h : IntSSV w M H L v xs) (h2 : IntSSV w M' H' L' u ys) :
    Calls Try.prog 241 #[v, u, .func (.func 242) #[] #[]] w fun e w' => e = .returned (.bool (sameL xs ys)) ∧ Up w w' := by
  obtain ⟨A, c, rfl, hlc, hcm, -⟩ := h.shape
  obtain ⟨A2, c2, rfl, hlc2, hcm2, -⟩ := h2.shape
  by_cases hl : xs.length = ys.length
  rotate_left
  · have HB := Lib.hid (sameL_len hl)
    have hb : ((xs.length : Int) != ys.length) = true := by simp; omega
    clear hl h h2
    go_enter Try.func241, Try.ntmps241
    go_wp2
    go_ret
    exact ⟨ret_bool HB.out.symm, Chg.refl _ _⟩
  have HL := Lib.hid hl
  have hb : ((xs.length : Int) != ys.length) = false := by simp; omega
  have H := Lib.hid h
  have H2 := Lib.hid h2
  clear h h2 hl
  go_enter Try.func241, Try.ntmps241
  go_wp2
  go_loopw [17] (fun i wr => ∃ (j : Nat), j ≤ xs.length ∧ i = .int .i64 j ∧ Hid (Up w wr) ∧ Hid (AgreeTo xs ys j)) (fun i _ => xs.length - (intOf i).toNat)
  case atStart => exact ⟨0, by omega, rfl, Chg.refl _ _, AgreeTo.start _ _⟩
  case round =>
    obtain ⟨j, hj, rfl, hu, hp⟩ := hrel
    by_cases hlt : j < xs.length
    · have hlt2 : j < ys.length := by have := HL.out; omega
      obtain ⟨b3, o3, c3', vs3, he3, -, -, -, hE3, hc3⟩ := (H.out.up hu.out).at_ hlt
      obtain ⟨rfl, rfl⟩ : A = some ⟨b3, o3, none⟩ ∧ c = c3' := by simpa using he3
      obtain ⟨A3, k3, rfl, hv3, -⟩ := IntsE.val hE3
      have f0 := (hc3 0 _ rfl).1
      simp only [Nat.mul_one, Nat.add_zero] at f0
      have HV3 := Lib.hid hv3
      clear hc3 hv3 he3
      obtain ⟨b5, o5, c5', vs5, he5, -, -, -, hE5, hc5⟩ := (H2.out.up hu.out).at_ hlt2
      obtain ⟨rfl, rfl⟩ : A2 = some ⟨b5, o5, none⟩ ∧ c2 = c5' := by simpa using he5
      obtain ⟨A5, k5, rfl, hv5, -⟩ := IntsE.val hE5
      have e0 := (hc5 0 _ rfl).1
      simp only [Nat.mul_one, Nat.add_zero] at e0
      have HV5 := Lib.hid hv5
      clear hc5 hv5 he5
      by_cases he : xs[j] = ys[j]
      · have HE := Lib.hid he
        have HS : Hid (sameL xs[j] ys[j] = true) := Lib.hid (decide_eq_true he)
        clear he
        go_wp2_with fail
        refine (eqInts1_any _ _ _ _ _ _ _ (HV3.out.up (by repeat (first | exact Chg.refl _ _ | apply Chg.drew | apply Chg.drewN | refine Chg.alloc ?_ _))) (HV5.out.up (by repeat (first | exact Chg.refl _ _ | apply Chg.drew | apply Chg.drewN | refine Chg.alloc ?_ _)))).mono ?_
        rintro e w1 ⟨rfl, g1⟩
        have GX := Lib.hid (show Up wr _ from Chg.trans (by repeat (first | exact Chg.refl _ _ | apply Chg.drew | apply Chg.drewN | refine Chg.alloc ?_ _)) g1)
        clear g1
        rw [HS.out]
        clear f0 e0
        go_wp2
        go_roundw
        case rel => exact ⟨j + 1, by omega, by go_num, Lib.hid (Chg.trans hu.out GX.out), Lib.hid (AgreeTo.next hp.out hlt hlt2 HE.out)⟩
        case measure => first | (simp [intOf]; done) | (simp [intOf]; omega)
      · have HB := Lib.hid (sameL_at hlt hlt2 he)
        have HS : Hid (sameL xs[j] ys[j] = false) := Lib.hid (decide_eq_false he)
        clear he
        go_wp2_with fail
        refine (eqInts1_any _ _ _ _ _ _ _ (HV3.out.up (by repeat (first | exact Chg.refl _ _ | apply Chg.drew | apply Chg.drewN | refine Chg.alloc ?_ _))) (HV5.out.up (by repeat (first | exact Chg.refl _ _ | apply Chg.drew | apply Chg.drewN | refine Chg.alloc ?_ _)))).mono ?_
        rintro e w1 ⟨rfl, g1⟩
        have GX := Lib.hid (show Up wr _ from Chg.trans (by repeat (first | exact Chg.refl _ _ | apply Chg.drew | apply Chg.drewN | refine Chg.alloc ?_ _)) g1)
        clear g1
        rw [HS.out]
        clear f0 e0
        go_wp2
        go_ret
        exact ⟨ret_bool HB.out.symm, Chg.trans hu.out GX.out⟩
    · obtain rfl : j = xs.length := by omega
      have HB := Lib.hid (sameL_all hp.out HL.out)
      go_wp2
      go_ret
      exact ⟨ret_bool HB.out.symm, hu.out⟩
theorem pSameNormal_any (w : World) (M H L M' H' L' : Nat → Prop) (v u : Value) (x y : NormM) (hv : NormV w M H L v x) (hu : NormV w M' H' L' u y) :
    Calls Try.prog 219 #[v, u] w fun e w' => e = .returned (.bool (sameN x y)) ∧ Up w w' := by
  obtain ⟨A, c, rfl, h0, h1, h2, h3⟩ := hv
  obtain ⟨B, d, rfl, g0, g1, g2, g3⟩ := hu
  have U0 := Lib.hid (show Up w ((w.alloc (.cells #[.int .i64 x.n, .int .i64 x.p, .slice A x.fs.length c] 155)).alloc (.cells #[.int .i64 y.n, .int .i64 y.p, .slice B y.fs.length d] 155)) from (by repeat (first | exact Chg.refl _ _ | apply Chg.drew | apply Chg.drewN | refine Chg.alloc ?_ _)))
  have H0 := Lib.hid (h0.up U0.out)
  have G0 := Lib.hid (g0.up U0.out)
  obtain ⟨hla0, hca0⟩ := h1
  obtain ⟨hlb0, hcb0⟩ := g1
  clear h0 h2 h3 g0 g2 g3
  have q0 := Chg.cell ((Chg.refl Nowhere (w.alloc (.cells #[.int .i64 x.n, .int .i64 x.p, .slice A x.fs.length c] 155))).alloc (.cells #[.int .i64 y.n, .int .i64 y.p, .slice B y.fs.length d] 155)) (show (w.alloc (.cells #[.int .i64 x.n, .int .i64 x.p, .slice A x.fs.length c] 155)).cell? ⟨w.heap.size, 0, none⟩ = some (.int .i64 x.n) from cell_new _ _ _ _) id
  have q1 := Chg.cell ((Chg.refl Nowhere (w.alloc (.cells #[.int .i64 x.n, .int .i64 x.p, .slice A x.fs.length c] 155))).alloc (.cells #[.int .i64 y.n, .int .i64 y.p, .slice B y.fs.length d] 155)) (show (w.alloc (.cells #[.int .i64 x.n, .int .i64 x.p, .slice A x.fs.length c] 155)).cell? ⟨w.heap.size, 1, none⟩ = some (.int .i64 x.p) from cell_new _ _ _ _) id
  have q2 := Chg.cell ((Chg.refl Nowhere (w.alloc (.cells #[.int .i64 x.n, .int .i64 x.p, .slice A x.fs.length c] 155))).alloc (.cells #[.int .i64 y.n, .int .i64 y.p, .slice B y.fs.length d] 155)) (show (w.alloc (.cells #[.int .i64 x.n, .int .i64 x.p, .slice A x.fs.length c] 155)).cell? ⟨w.heap.size, 2, none⟩ = some (.slice A x.fs.length c) from cell_new _ _ _ _) id
  have p0 := (show ((w.alloc (.cells #[.int .i64 x.n, .int .i64 x.p, .slice A x.fs.length c] 155)).alloc (.cells #[.int .i64 y.n, .int .i64 y.p, .slice B y.fs.length d] 155)).cell? ⟨w.heap.size + 1, 0, none⟩ = some (.int .i64 y.n) from (cellF_at (by simp) rfl).1)
  have p1 := (show ((w.alloc (.cells #[.int .i64 x.n, .int .i64 x.p, .slice A x.fs.length c] 155)).alloc (.cells #[.int .i64 y.n, .int .i64 y.p, .slice B y.fs.length d] 155)).cell? ⟨w.heap.size + 1, 1, none⟩ = some (.int .i64 y.p) from (cellF_at (by simp) rfl).1)
  have p2 := (show ((w.alloc (.cells #[.int .i64 x.n, .int .i64 x.p, .slice A x.fs.length c] 155)).alloc (.cells #[.int .i64 y.n, .int .i64 y.p, .slice B y.fs.length d] 155)).cell? ⟨w.heap.size + 1, 2, none⟩ = some (.slice B y.fs.length d) from (cellF_at (by simp) rfl).1)
  by_cases e0 : x.n = y.n
  rotate_left
  · have b0 : ((x.n : Int) == y.n) = false := by simpa using e0
    have HB := Lib.hid (show sameN x y = false from decide_eq_false fun e => e0 (by rw [e]))
    clear e0
    go_enter Try.func219, Try.ntmps219
    go_wp2
    go_ret
    exact ⟨ret_bool HB.out.symm, Chg.trans U0.out (by repeat (first | exact Chg.refl _ _ | apply Chg.drew | apply Chg.drewN | refine Chg.alloc ?_ _))⟩
  have b0 : ((x.n : Int) == y.n) = true := by simp [e0]
  have E0 := Lib.hid e0
  clear e0
  by_cases e1 : x.p = y.p
  rotate_left
  · have b1 : ((x.p : Int) == y.p) = false := by simpa using e1
    have HB := Lib.hid (show sameN x y = false from decide_eq_false fun e => e1 (by rw [e]))
    clear e1
    go_enter Try.func219, Try.ntmps219
    go_wp2
    go_ret
    exact ⟨ret_bool HB.out.symm, Chg.trans U0.out (by repeat (first | exact Chg.refl _ _ | apply Chg.drew | apply Chg.drewN | refine Chg.alloc ?_ _))⟩
  have b1 : ((x.p : Int) == y.p) = true := by simp [e1]
  have E1 := Lib.hid e1
  clear e1
  have HB := Lib.hid (show sameN x y = sameL x.fs y.fs by rw [sameN_and, decide_eq_true E0.out, decide_eq_true E1.out]; rfl)
  go_enter Try.func219, Try.ntmps219
  go_wp2_with fail
  refine (eqfInts_any _ M H L M' H' L' _ _ x.fs y.fs (H0.out.up (by repeat (first | exact Chg.refl _ _ | apply Chg.drew | apply Chg.drewN | refine Chg.alloc ?_ _))) (G0.out.up (by repeat (first | exact Chg.refl _ _ | apply Chg.drew | apply Chg.drewN | refine Chg.alloc ?_ _)))).mono ?_
  rintro e w1 ⟨rfl, g1⟩
  have GX := Lib.hid (Chg.trans U0.out (Chg.trans (by repeat (first | exact Chg.refl _ _ | apply Chg.drew | apply Chg.drewN | refine Chg.alloc ?_ _)) g1))
  clear g1
  go_wp2
  go_ret
  exact ⟨ret_bool HB.out.symm, GX.out⟩
end Go.Proofs.Ytobgbnpgledabaa
end
section
set_option linter.unusedSimpArgs false
set_option linter.unusedVariables false
set_option maxRecDepth 100000
set_option maxHeartbeats 1000000
namespace Go.Proofs.Ytobgbnpgledabaa
open Go.ChangeShapes Go.WideShapes Go.ChangeAt Go.RowKit
theorem callS {f : FuncId} {args : Array Value} {w : World} {b c : Bool} (h : Calls Try.prog f args w fun e w' => e = .returned (.bool b) ∧ w = w') (hb : b = c) : Calls Try.prog f args w fun e w' => e = .returned (.bool c) ∧ w = w' := hb ▸ h
theorem Ints.pre {w : World} {S : Nat → Prop} {A : Option Addr} {c : Nat} {xs : List Int} (h : Ints w S (.slice A xs.length c) xs) {k : Nat} (hk : k ≤ xs.length) : Ints w S (.slice A k c) (xs.take k) := by
  obtain ⟨A', c', he, h1, h2, h3, hr, h5⟩ := h
  obtain ⟨rfl, rfl⟩ : A = A' ∧ c = c' := by simpa using he
  have hl : (xs.take k).length = k := by rw [List.length_take]; omega
  refine ⟨A, c, by rw [hl], by omega, h2, fun x hx => h3 x (List.mem_of_mem_take hx), fun hp => ?_, h5⟩
  obtain ⟨b, o, hA, hs, hbl, hc⟩ := hr (by omega)
  refine ⟨b, o, hA, hs, hbl, fun j hj => ?_⟩
  rw [hl] at hj
  rw [List.getElem_take]
  exact hc j (by omega)
def Seen (w : World) (g : Nat) (p : List Int) (j : Nat) : Prop := ∀ k : Nat, k < 12 → w.cell? ⟨g, k, none⟩ = some (.bool (decide ((k : Int) ∈ p.take j))) ∧ w.frozen? ⟨g, k, none⟩ = false
theorem Seen.next {w : World} {g : Nat} {p : List Int} {j k : Nat} (h : Seen w g p j) (hj : j < p.length) (hk : p[j] = k) (hk2 : k < 12) : Seen (w.setCell ⟨g, k, none⟩ (.bool true)) g p (j + 1) := fun t ht => by
  obtain ⟨h1, h2⟩ := h t ht
  have e : p.take (j + 1) = p.take j ++ [p[j]] := List.take_succ_eq_append_getElem hj
  by_cases ek : t = k
  · subst ek
    refine ⟨?_, by simpa using h2⟩
    rw [World.cell?_setCell_same _ _ _ h1, e, decide_eq_true (by simp [hk])]
  · refine ⟨?_, by simpa using h2⟩
    rw [World.cell?_setCell_other _ _ _ _ (fun h => ek (by injection h with _ h _; omega)), h1, e]
    congr 2
    rw [decide_eq_decide]
    simp only [List.mem_append, List.mem_singleton]
    constructor
    · exact .inl
    · rintro (h | h)
      · exact h
      · exact absurd (by rw [hk] at h; omega) ek
def riseTo (xs : List Int) : Nat → List Int
  | 0 => xs
  | j + 1 => (riseTo xs j).set j (ix xs j + 1)
theorem riseTo_length (xs : List Int) : ∀ j, (riseTo xs j).length = xs.length
  | 0 => rfl
  | j + 1 => by rw [riseTo, List.length_set, riseTo_length xs j]
theorem riseTo_get (xs : List Int) : ∀ (j t : Nat) (h : t < (riseTo xs j).length), (riseTo xs j)[t] = if t < j then ix xs t + 1 else ix xs t
  | 0, t, h => by simp [riseTo, ix_eq (show t < xs.length from h)]
  | j + 1, t, h => by
    have hn : t < (riseTo xs j).length := by rw [riseTo_length] at *; exact h
    simp only [riseTo]
    rw [List.getElem_set]
    by_cases e : j = t
    · subst e
      rw [if_pos rfl, if_pos (by omega)]
    · rw [if_neg e, riseTo_get xs j t hn]
      by_cases h2 : t < j
      · rw [if_pos h2, if_pos (by omega)]
      · rw [if_neg h2, if_neg (by omega)]
theorem riseTo_all (xs : List Int) : riseTo xs xs.length = xs.map (· + 1) := by
  refine List.ext_getElem (by rw [riseTo_length, List.length_map]) fun t h1 h2 => ?_
  rw [riseTo_get]
  rw [riseTo_length] at h1
  rw [if_pos h1, List.getElem_map, ix_eq h1]
theorem startLetters_any (w : World) (S : Nat → Prop) (v : Value) (p : List Int) (h : Ints w S v p) (hl : p.length ≤ 1000) :
    Calls Try.prog 243 #[v] w fun e w' => ∃ u, e = .returned u ∧ Ints w' (New w.heap.size w'.heap.size) u (startM p) ∧ Up w w' := by
  obtain ⟨A, c, rfl, hlc, hcm, -⟩ := h.shape
  have H := Lib.hid h
  have HBD := Lib.hid (descTo_bd p (p.length - 1))
  have HLD := Lib.hid (descTo_length p (p.length - 1))
  clear h
  go_enter Try.func243, Try.ntmps243
  go_wp2_with fail
  refine (descents_any _ S _ p H.out hl).mono ?_
  rintro e w1 ⟨v, rfl, k1, g1⟩
  obtain ⟨B, d, rfl, hld, hdm, -⟩ := k1.shape
  obtain ⟨xs, hxs⟩ : ∃ xs, xs = descM p := ⟨_, rfl⟩
  rw [← hxs] at k1 hld ⊢
  have K1 := Lib.hid k1
  have G1 := Lib.hid g1
  have HX := Lib.hid hxs
  have hxl : xs.length ≤ 1000 := by have := HLD.out; have := HX.out; unfold descM at this; rw [this]; omega
  have HXB : Hid (∀ j (hj : j < xs.length), 0 ≤ ix xs j ∧ ix xs j ≤ 1000) := Lib.hid fun j hj => by
    have := HBD.out (ix xs j) (by rw [ix_eq hj]; have h := List.getElem_mem hj; have e := HX.out; unfold descM at e; rw [← e]; exact h)
    omega
  clear k1 g1 hxs
  go_wp2
  go_loopw [4, 9] (fun _ i wr => ∃ j : Nat, j ≤ xs.length ∧ i = .int .i64 j ∧ Hid (Chg (New w.heap.size w1.heap.size) w1 wr) ∧ Hid (Ints wr (New w.heap.size w1.heap.size) (.slice B xs.length d) (riseTo xs j))) (fun _ i _ => xs.length - (intOf i).toNat)
  case atStart => exact ⟨0, by omega, rfl, Chg.refl _ _, K1.out⟩
  case round =>
    obtain ⟨j, hj, rfl, hg, hc⟩ := hrel
    by_cases hlt : j < xs.length
    · have hlen := riseTo_length xs j
      have hI2 : Ints wr (New w.heap.size w1.heap.size) (.slice B (riseTo xs j).length d) (riseTo xs j) := by rw [hlen]; exact hc.out
      obtain ⟨b, o, rfl, hbl, hcc⟩ := ints_ixf hI2 (i := j) (by omega)
      obtain ⟨f0, q0⟩ := hcc j (by omega)
      have hv : ix (riseTo xs j) j = ix xs j := by rw [ix_eq (by omega), riseTo_get, if_neg (by omega)]
      rw [hv] at f0
      obtain ⟨hb0, hb1⟩ := HXB.out j hlt
      have HS := Lib.hid (hI2.set (k := j) (by omega) (x := ix xs j + 1) (by unfold I64; omega))
      have HNB : Hid (New w.heap.size w1.heap.size b) := by
        obtain ⟨A', c', he, _, _, _, hr, _⟩ := hI2
        obtain ⟨b', o', hA, hs, _⟩ := hr (by omega)
        simp at he
        obtain ⟨rfl, -⟩ := he
        simp at hA
        rw [hA.1]
        exact hs
      clear hcc hI2 hlen hv
      go_wp2
      go_roundw
      case rel => exact ⟨j + 1, by omega, by go_num, Chg.setCell hg.out (p := ⟨b, o + j, none⟩) (.inl HNB.out) _, by have h := HS.out; rw [riseTo_length] at h; exact h⟩
      case measure => simp [intOf]; omega
    · obtain rfl : j = xs.length := by omega
      have HE := Lib.hid (riseTo_all xs)
      go_wp2
      go_ret
      exact ⟨_, rfl, by unfold startM; rw [← HX.out, ← HE.out]; exact hc.out.mono (fun b hb h => ⟨h.1, hb⟩), Chg.new G1.out hg.out (fun i hi h => by have := h.1; omega)⟩
end Go.Proofs.Ytobgbnpgledabaa
end
