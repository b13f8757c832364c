/- The layout of a row, as plain data: the law's own counts. No condition. -/
import Derived.Test.YtnjfhpgmogopnaaRowL
import Derived.Test.YtnjfhpgmogopnaaRow6
namespace Go.Proofs.Ytnjfhpgmogopnaa
/-- how many columns stand on the needle of the one ahead of them -/
def shC : List Tr → Nat
  | [] => 0
  | [_] => 0
  | x :: y :: r => (if y.m = x.m then 1 else 0) + shC (y :: r)
theorem shC_append : ∀ (l r : List Tr), (∀ x ∈ l, ∀ y ∈ r, y.m ≠ x.m) → shC (l ++ r) = shC l + shC r
  | [], r, _ => by simp [shC]
  | [x], [], _ => by simp [shC]
  | [x], y :: r, h => by
    have h1 := h x (by simp) y (by simp)
    show (if y.m = x.m then 1 else 0) + shC (y :: r) = 0 + shC (y :: r)
    rw [if_neg h1]
  | x :: z :: l, r, h => by
    have ih := shC_append (z :: l) r (fun a ha b hb => h a (List.mem_cons_of_mem _ ha) b hb)
    show (if z.m = x.m then 1 else 0) + shC (z :: l ++ r) = (if z.m = x.m then 1 else 0) + shC (z :: l) + shC r
    rw [ih]
    omega
theorem shC_one (k s r : Int) : ((shC (trAt k s r) : Nat) : Int) = takenK k - madeK k + (if k = 3 then 1 else 0) := by
  have hb := takenK_bd k
  have hm := madeK_bd k
  by_cases h3 : k = 3
  · subst h3; rfl
  · rw [if_neg h3]
    by_cases h1 : madeK k = 1
    · have ht : takenK k = 1 ∨ takenK k = 2 := by
        unfold takenK
        unfold madeK at h1
        rw [if_neg h3]
        by_cases h8 : k = 8 ∨ k = 9
        · rw [if_pos h8] at h1; omega
        · rw [if_neg h8] at h1
          by_cases h10 : k = 10 ∨ k = 11
          · rw [if_pos h10] at h1; omega
          · rw [if_neg h10]
            by_cases h4 : k = 4 ∨ k = 5 ∨ k = 8 ∨ k = 9
            · rw [if_pos h4]; exact .inr rfl
            · rw [if_neg h4]; exact .inl rfl
      rcases ht with ht | ht
      · rw [h1, ht]
        have e : trAt k s r = [trOne k s r 0] := by unfold trAt; rw [ht]; rfl
        rw [e]; rfl
      · rw [h1, ht]
        have e : trAt k s r = [trOne k s r 0, trOne k s r 1] := by unfold trAt; rw [ht]; rfl
        rw [e]
        unfold shC trOne
        rw [if_pos h1, if_pos h1]
        simp [shC]
    · have ht := taken_made h1
      have e : ∀ n : Nat, shC ((List.range n).map (trOne k s r)) = 0 := by
        intro n
        induction n with
        | zero => rfl
        | succ n ih =>
          rw [List.range_succ, List.map_append, shC_append, ih]
          · rfl
          · intro x hx y hy
            obtain ⟨i, hi, rfl⟩ := List.mem_map.1 hx
            have hi := List.mem_range.1 hi
            obtain rfl : y = trOne k s r n := by simpa using hy
            unfold trOne
            rw [if_neg h1, if_neg h1]
            show ¬ (2 * (r + (n : Int)) + 1 = 2 * (r + (i : Int)) + 1)
            omega
      unfold trAt
      rw [e]
      omega
theorem newL_len3 : ∀ (ks : List Int) (a : Int), (newL a ks).length = (ks.filter fun k => decide (k = 3)).length
  | [], a => rfl
  | k :: ks, a => by
    have ih := newL_len3 ks (a + madeK k)
    unfold newL
    rw [List.length_append, ih, List.filter_cons]
    by_cases h : k = 3
    · subst h; simp [countM, madeK]; omega
    · simp [h]
theorem shC_all : ∀ (ks : List Int) (s r : Int), ((shC (trL s r ks) : Nat) : Int) = sumF takenK ks - sumF madeK ks + ((ks.filter fun k => decide (k = 3)).length : Int)
  | [], s, r => by simp [trL, shC, sumF]
  | k :: ks, s, r => by
    have ih := shC_all ks (s + takenK k) (r + madeK k)
    have h0 := trAt_in k s r
    obtain ⟨h1, -, -, -⟩ := trL_ok ks (s + takenK k) (r + madeK k)
    unfold trL
    rw [shC_append _ _ (fun x hx y hy => by
      have hx := h0 x hx
      have hy := h1 y hy
      unfold Tr.within at hx hy
      omega)]
    have ho := shC_one k s r
    simp only [sumF, List.filter_cons]
    by_cases h : k = 3
    · rw [if_pos h] at ho
      simp only [h, decide_true, if_true, List.length_cons]
      rw [h] at ho ih
      omega
    · rw [if_neg h] at ho
      simp only [h, decide_false, Bool.false_eq_true, if_false]
      omega
theorem shC_snoc (l : List Tr) (x y : Tr) : shC (l ++ [x] ++ [y]) = shC (l ++ [x]) + (if y.m = x.m then 1 else 0) := by
  induction l with
  | nil => simp [shC]
  | cons a l ih =>
    cases l with
    | nil => simp [shC]
    | cons b l =>
      show (if b.m = a.m then 1 else 0) + shC (b :: l ++ [x] ++ [y]) = (if b.m = a.m then 1 else 0) + shC (b :: l ++ [x]) + _
      have : shC (b :: l ++ [x] ++ [y]) = shC (b :: l ++ [x]) + (if y.m = x.m then 1 else 0) := ih
      rw [this]
      omega
theorem shC_take (ts : List Tr) {j : Nat} (h : j < ts.length) : shC (ts.take (j + 1)) = shC (ts.take j) + (if 0 < j ∧ ts[j].m = (ts[j - 1]'(by omega)).m then 1 else 0) := by
  rw [List.take_succ_eq_append_getElem h]
  cases j with
  | zero => simp [shC]
  | succ j =>
    rw [List.take_succ_eq_append_getElem (show j < ts.length by omega), shC_snoc]
    simp
theorem trAt_own (k s r : Int) {i : Nat} (h : i < (trAt k s r).length) : (trAt k s r)[i].o = 2 * (s + i) + 1 := by
  have e : (trAt k s r)[i] = trOne k s r i := by
    have h2 : i < ((List.range (takenK k).toNat).map (trOne k s r)).length := h
    show ((List.range (takenK k).toNat).map (trOne k s r))[i] = _
    simp
  rw [e]
  unfold trOne
  split <;> rfl
theorem trL_own : ∀ (ks : List Int) (s r : Int) (i : Nat) (h : i < (trL s r ks).length), (trL s r ks)[i].o = 2 * (s + i) + 1
  | [], s, r, i, h => by simp [trL] at h
  | k :: ks, s, r, i, h => by
    have hb := takenK_bd k
    have hl := trAt_length k s r
    unfold trL at h ⊢
    by_cases hi : i < (trAt k s r).length
    · rw [List.getElem_append_left hi, trAt_own]
    · rw [List.getElem_append_right (by omega), trL_own]
      omega
/-- what the law asks of a row that is laid out -/
structure LayOk (xs : List Int) (ts : List Tr) : Prop where
  len : (ts.length : Int) = sumF takenK xs
  own : ∀ i (h : i < ts.length), ts[i].o = 2 * (i : Int) + 1
  bd : ∀ i (h : i < ts.length), 1 ≤ ts[i].t ∧ ts[i].t ≤ ts[i].o ∧ 1 ≤ ts[i].m ∧ ts[i].m ≤ 15
  odd : ∀ i (h : i < ts.length), ts[i].m % 2 = 1
  rise : ∀ i (h : i < ts.length) (h0 : 0 < i), (ts[i - 1]'(by omega)).m ≤ ts[i].m ∧ (ts[i - 1]'(by omega)).t ≤ ts[i].t ∧ ((ts[i - 1]'(by omega)).t = ts[i].t ↔ (ts[i - 1]'(by omega)).m = ts[i].m)
theorem trL_odd : ∀ (ks : List Int) (s r : Int), ∀ x ∈ trL s r ks, x.m % 2 = 1
  | [], _, _, x, h => by simp [trL] at h
  | k :: ks, s, r, x, h => by
    rcases List.mem_append.1 h with h | h
    · obtain ⟨i, _, rfl⟩ := List.mem_map.1 h
      unfold trOne
      split <;> (show _ % 2 = (1 : Int); simp only []; omega)
    · exact trL_odd ks _ _ x h
theorem layOk_of {d c : Int} {xs : List Int} (h : LaidRow d c xs) : LayOk xs (trL 0 0 xs) := by
  have ht := h.tr
  refine ⟨trL_length xs 0 0, fun i hi => by rw [trL_own]; omega, fun i hi => ?_, fun i hi => trL_odd xs 0 0 _ (List.getElem_mem hi), fun i hi h0 => ?_⟩
  · have := ht.bd _ (List.getElem_mem hi); omega
  · have hR := pair_get ht.pair (i := i - 1) hi (by omega)
    exact ⟨hR.2.2.1, hR.2.1, hR.2.2.2⟩
theorem lay_sum (xs : List Int) : sumF madeK xs = sumF takenK xs - (shC (trL 0 0 xs) : Nat) + ((newL 0 xs).length : Int) := by
  have := shC_all xs 0 0
  rw [newL_len3]
  omega
end Go.Proofs.Ytnjfhpgmogopnaa
