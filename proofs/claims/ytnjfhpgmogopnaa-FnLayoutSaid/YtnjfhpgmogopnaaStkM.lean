/- Stacks of columns behind a row of stitches, as plain data; parts of a slice of numbers. No condition. -/
import Derived.Test.YtnjfhpgmogopnaaStk2
namespace Go.Proofs.Ytnjfhpgmogopnaa
open Go.ChangeShapes Go.WideShapes Go.ChangeAt Go.RowKit
theorem Ints.part {w : World} {S : Nat → Prop} {A A' : Option Addr} {c c' k : Nat} {xs : List Int} (h : Ints w S (.slice A xs.length c) xs) (i : Nat) (hik : i + k ≤ xs.length) (hc : k ≤ c') (hc2 : c' ≤ 9223372036854775807)
    (hA : ∀ b o, A = some ⟨b, o, none⟩ → 0 < k → A' = some ⟨b, o + i, none⟩) (hn : A' = none → c' = 0) : Ints w S (.slice A' k c') ((xs.drop i).take k) := by
  obtain ⟨A0, c0, he, h1, h2, h3, h4, h5⟩ := h
  obtain ⟨rfl, rfl⟩ : A = A0 ∧ c = c0 := by simpa using he
  have hlen : ((xs.drop i).take k).length = k := by rw [List.length_take, List.length_drop]; omega
  refine ⟨A', c', by rw [hlen], by rw [hlen]; exact hc, hc2, fun x hx => h3 x (List.mem_of_mem_drop (List.mem_of_mem_take hx)), fun hp => ?_, hn⟩
  rw [hlen] at hp
  obtain ⟨b, o, hA0, hS, hb, hcell⟩ := h4 (by omega)
  refine ⟨b, o + i, hA b o hA0 hp, hS, hb, fun t ht => ?_⟩
  rw [hlen] at ht
  have h9 := hcell (i + t) (by omega)
  rw [← Nat.add_assoc] at h9
  have e3 : ((xs.drop i).take k)[t]'(by omega) = xs[i + t]'(by omega) := by simp
  rw [e3]
  exact h9
theorem Ints.took {w : World} {S : Nat → Prop} {A : Option Addr} {c k c2 : Nat} {xs : List Int} (h : Ints w S (.slice A xs.length c) xs) (hk : k ≤ xs.length) (hc2 : c2 = c) : Ints w S (.slice A k c2) (xs.take k) := by
  subst hc2
  obtain ⟨A', c', he, h1, h2, h3⟩ := h.shape
  obtain ⟨rfl, rfl⟩ : A = A' ∧ c2 = c' := by simpa using he
  have := h.part (A' := A) (c' := c2) 0 (k := k) (by omega) (by omega) h2 (fun b' o' e _ => by simpa using e) h3
  simpa using this
theorem Ints.dropt {w : World} {S : Nat → Prop} {A A' : Option Addr} {c k c2 n : Nat} {xs : List Int} (h : Ints w S (.slice A xs.length c) xs) (hk : k ≤ xs.length) (hn : n = xs.length - k) (hc2 : c2 = c - k) (hA : ∀ b o, A = some ⟨b, o, none⟩ → k < xs.length → A' = some ⟨b, o + k, none⟩) (hA2 : A' = none → c2 = 0) : Ints w S (.slice A' n c2) (xs.drop k) := by
  subst hc2 hn
  obtain ⟨A0, c', he, h1, h2, h3⟩ := h.shape
  obtain ⟨rfl, rfl⟩ : A = A0 ∧ c = c' := by simpa using he
  have := h.part (A' := A') (c' := c - k) k (k := xs.length - k) (by omega) (by omega) (by omega) (fun b o e hp => hA b o e (by omega)) hA2
  rwa [List.take_of_length_le (by simp)] at this
/-- how many columns are taken ahead of a stitch -/
def posS (ks : List Int) (j : Nat) : Nat := (sumF takenK (ks.take j)).toNat
theorem sumF_nonneg (ks : List Int) : 0 ≤ sumF takenK ks := by
  have := sumF_bd takenK 0 4 (by omega) (fun x => by have := takenK_bd x; omega) ks
  omega
theorem posS_int (ks : List Int) (j : Nat) : (posS ks j : Int) = sumF takenK (ks.take j) := by
  unfold posS
  have := sumF_nonneg (ks.take j)
  omega
theorem posS_succ {ks : List Int} {j : Nat} (h : j < ks.length) : posS ks (j + 1) = posS ks j + (takenK ks[j]).toNat := by
  have h1 := posS_int ks j
  have h2 := posS_int ks (j + 1)
  rw [sumF_take takenK h] at h2
  have := takenK_bd ks[j]
  omega
theorem posS_le (ks : List Int) (j : Nat) : (posS ks j : Int) ≤ sumF takenK ks := by
  rw [posS_int]
  have h : sumF takenK ks = sumF takenK (ks.take j) + sumF takenK (ks.drop j) := by rw [← sumF_append, List.take_append_drop]
  have := sumF_nonneg (ks.drop j)
  omega
def stepAt (st ks : List Int) (i : Nat) : List Int := stepS (ix ks i) (ix st (posS ks i)) (ix st (posS ks i + 1))
def okAt (st ks : List Int) (i : Nat) : Bool := okS (ix ks i) (ix st (posS ks i)) (ix st (posS ks i + 1))
def aftTo (st ks : List Int) (j : Nat) : List Int := (List.range j).flatMap (stepAt st ks)
def okTo (st ks : List Int) (j : Nat) : Bool := (List.range j).all (okAt st ks)
theorem aftTo_succ (st ks : List Int) (j : Nat) : aftTo st ks (j + 1) = aftTo st ks j ++ stepAt st ks j := by
  unfold aftTo; rw [List.range_succ, List.flatMap_append]; simp
theorem okTo_succ (st ks : List Int) (j : Nat) : okTo st ks (j + 1) = (okTo st ks j && okAt st ks j) := by
  unfold okTo; rw [List.range_succ, List.all_append]; simp
theorem okTo_false {st ks : List Int} {j n : Nat} (hj : j < n) (h : okAt st ks j = false) : okTo st ks n = false := by
  unfold okTo
  rw [Bool.eq_false_iff]
  intro hh
  rw [List.all_eq_true.1 hh j (by simpa using hj)] at h
  cases h
theorem stepS_length (k a b : Int) : (stepS k a b).length ≤ 4 := by
  unfold stepS
  have := madeK_bd k
  split
  · simp
  · split
    · simp
    · rw [List.length_replicate]; omega
theorem aftTo_len (st ks : List Int) (j : Nat) : (aftTo st ks j).length ≤ 4 * j := by
  induction j with
  | zero => simp [aftTo]
  | succ j ih =>
    rw [aftTo_succ, List.length_append]
    have := stepS_length (ix ks j) (ix st (posS ks j)) (ix st (posS ks j + 1))
    unfold stepAt
    omega
/-- the code of StacksAfter; what it returns -/
def saC (st ks : List Int) : Int := if stkB st && stB ks then (if sumF takenK ks = st.length then (if okTo st ks ks.length && decide ((aftTo st ks ks.length).length ≤ 8) then 0 else 5) else 10) else 1
def saL (st ks : List Int) : List Int := if saC st ks = 0 then aftTo st ks ks.length else []
end Go.Proofs.Ytnjfhpgmogopnaa
