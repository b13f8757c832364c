/- Braids as plain data: valid words, words without letters that cancel, words for blocks of strands. No condition. -/
import Derived.Test.YtmimbnpcokfnlaaRowM
import Derived.Test.YtmimbnpcokfnlaaLetM
import Derived.Test.YtmimbnpcokfnlaaSwap
namespace Go.Proofs.Ytmimbnpcokfnlaa
def letterB (n x : Int) : Bool := x != 0 && inB x (1 - n) (n - 1)
def braidB (n : Int) (ws : List Int) : Bool := inB n 0 12 && decide (ws.length ≤ 40) && ws.all (letterB n)
structure BraidOk (n : Int) (ws : List Int) : Prop where
  n0 : 0 ≤ n
  n1 : n ≤ 12
  len : ws.length ≤ 40
  let_ : ∀ x ∈ ws, x ≠ 0 ∧ 1 - n ≤ x ∧ x ≤ n - 1
theorem letterB_iff {n x : Int} : letterB n x = true ↔ x ≠ 0 ∧ 1 - n ≤ x ∧ x ≤ n - 1 := by
  unfold letterB inB
  rw [Bool.and_eq_true, bne_iff_ne, decide_eq_true_eq]
theorem braidB_iff {n : Int} {ws : List Int} : braidB n ws = true ↔ BraidOk n ws := by
  unfold braidB inB
  rw [Bool.and_eq_true, Bool.and_eq_true, decide_eq_true_eq, decide_eq_true_eq, List.all_eq_true]
  constructor
  · rintro ⟨⟨h1, h2⟩, h3⟩
    exact ⟨h1.1, h1.2, h2, fun x hx => letterB_iff.1 (h3 x hx)⟩
  · rintro ⟨h1, h2, h3, h4⟩
    exact ⟨⟨⟨h1, h2⟩, h3⟩, fun x hx => letterB_iff.2 (h4 x hx)⟩
/-- one letter more, or one less -/
def redStep (out : List Int) (k : Int) : List Int := if out.getLast? = some (-k) then out.dropLast else out ++ [k]
def redM (ws : List Int) : List Int := ws.foldl redStep []
theorem redM_take {ws : List Int} {j : Nat} (h : j < ws.length) : redM (ws.take (j + 1)) = redStep (redM (ws.take j)) ws[j] := by
  unfold redM
  rw [List.take_succ_eq_append_getElem h, List.foldl_append]
  rfl
theorem redStep_len (out : List Int) (k : Int) : (redStep out k).length ≤ out.length + 1 := by
  unfold redStep
  split
  · simp; omega
  · simp
theorem redStep_mem {out : List Int} {k x : Int} (h : x ∈ redStep out k) : x ∈ out ∨ x = k := by
  unfold redStep at h
  split at h
  · exact .inl ((List.dropLast_sublist out).subset h)
  · rcases List.mem_append.1 h with h | h
    · exact .inl h
    · exact .inr (by simpa using h)
theorem red_foldl : ∀ (ws out : List Int), (ws.foldl redStep out).length ≤ out.length + ws.length ∧ ∀ x ∈ ws.foldl redStep out, x ∈ out ∨ x ∈ ws
  | [], out => by simp
  | k :: ws, out => by
    obtain ⟨h1, h2⟩ := red_foldl ws (redStep out k)
    have h3 := redStep_len out k
    refine ⟨by simp only [List.foldl_cons, List.length_cons]; omega, fun x hx => ?_⟩
    rcases h2 x hx with h | h
    · rcases redStep_mem h with h | h
      · exact .inl h
      · exact .inr (by simp [h])
    · exact .inr (by simp [h])
theorem redM_len (ws : List Int) : (redM ws).length ≤ ws.length := by have := (red_foldl ws []).1; simpa [redM] using this
theorem redM_mem {ws : List Int} {x : Int} (h : x ∈ redM ws) : x ∈ ws := by
  rcases (red_foldl ws []).2 x h with h | h
  · simp at h
  · exact h
/-- sizes of blocks: two neighbours change places -/
def swapAt (now : List Int) (i : Nat) : List Int := (now.set i (now.getD (i + 1) 0)).set (i + 1) (now.getD i 0)
theorem swapAt_length (now : List Int) (i : Nat) : (swapAt now i).length = now.length := by simp [swapAt]
def sgnI (x : Int) : Int := if x < 0 then -1 else 1
def sumL (xs : List Int) : Int := sumF id xs
def dblOne (now : List Int) (k : Int) : List Int :=
  swapTo (sumL (now.take (absI k - 1).toNat)) (sgnI k) (now.getD (absI k - 1).toNat 0).toNat (now.getD ((absI k - 1).toNat + 1) 0).toNat
def dblStep (s : List Int × List Int) (k : Int) : List Int × List Int := (swapAt s.1 (absI k - 1).toNat, s.2 ++ dblOne s.1 k)
def dblF (ws sizes : List Int) : List Int × List Int := ws.foldl dblStep (sizes, [])
def dblM (ws sizes : List Int) : List Int := (dblF ws sizes).2
theorem dblF_take {ws : List Int} (sizes : List Int) {j : Nat} (h : j < ws.length) : dblF (ws.take (j + 1)) sizes = dblStep (dblF (ws.take j) sizes) ws[j] := by
  unfold dblF
  rw [List.take_succ_eq_append_getElem h, List.foldl_append]
  rfl
theorem sumL_append (xs ys : List Int) : sumL (xs ++ ys) = sumL xs + sumL ys := sumF_append id xs ys
/-- blocks of n strands in all, each of one to four -/
structure SizesOk (m : Nat) (now : List Int) : Prop where
  len : now.length = m
  each : ∀ x ∈ now, 1 ≤ x ∧ x ≤ 4
theorem SizesOk.at_ {m : Nat} {now : List Int} (h : SizesOk m now) {i : Nat} (hi : i < m) : 1 ≤ now.getD i 0 ∧ now.getD i 0 ≤ 4 := by
  have hl : i < now.length := by rw [h.len]; exact hi
  rw [List.getD_eq_getElem?_getD, List.getElem?_eq_getElem hl, Option.getD_some]
  exact h.each _ (List.getElem_mem hl)
theorem SizesOk.swap {m : Nat} {now : List Int} (h : SizesOk m now) {i : Nat} (hi : i + 1 < m) : SizesOk m (swapAt now i) := by
  refine ⟨by rw [swapAt_length, h.len], fun x hx => ?_⟩
  unfold swapAt at hx
  rcases List.mem_or_eq_of_mem_set hx with hx | rfl
  · rcases List.mem_or_eq_of_mem_set hx with hx | rfl
    · exact h.each x hx
    · exact h.at_ hi
  · exact h.at_ (by omega)
theorem sumL_set : ∀ (xs : List Int) (i : Nat) (v : Int), i < xs.length → sumL (xs.set i v) = sumL xs + v - xs.getD i 0
  | [], i, v, h => by simp at h
  | x :: xs, 0, v, h => by simp only [List.set_cons_zero, sumL, sumF, id_eq, List.getD_cons_zero]; omega
  | x :: xs, i + 1, v, h => by
    have := sumL_set xs i v (by simpa using h)
    simp only [List.set_cons_succ, sumL, sumF, id_eq, List.getD_cons_succ] at *
    omega
theorem swapAt_sum {now : List Int} {i : Nat} (hi : i + 1 < now.length) : sumL (swapAt now i) = sumL now := by
  unfold swapAt
  rw [sumL_set _ _ _ (by simpa using hi), sumL_set _ _ _ (by omega)]
  have : (now.set i (now.getD (i + 1) 0)).getD (i + 1) 0 = now.getD (i + 1) 0 := by
    simp only [List.getD_eq_getElem?_getD]
    rw [List.getElem?_set_ne (by omega)]
  rw [this]
  omega
theorem sumL_nonneg : ∀ (xs : List Int), (∀ x ∈ xs, 1 ≤ x ∧ x ≤ 4) → 0 ≤ sumL xs ∧ sumL xs ≤ 4 * xs.length
  | [], _ => by simp [sumL, sumF]
  | x :: xs, h => by
    have h1 := sumL_nonneg xs (fun y hy => h y (by simp [hy]))
    have h2 := h x (by simp)
    simp only [sumL, sumF, id_eq, List.length_cons] at *
    omega
/-- the two blocks behind a place end within all strands -/
theorem sum_split {m : Nat} {now : List Int} (h : SizesOk m now) {i : Nat} (hi : i + 1 < m) : 0 ≤ sumL (now.take i) ∧ sumL (now.take i) + now.getD i 0 + now.getD (i + 1) 0 ≤ sumL now := by
  have hl := h.len
  have e : now = now.take i ++ (now.getD i 0 :: now.getD (i + 1) 0 :: now.drop (i + 2)) := by
    have h1 : now.getD i 0 = now[i]'(by omega) := by rw [List.getD_eq_getElem?_getD, List.getElem?_eq_getElem (by omega), Option.getD_some]
    have h2 : now.getD (i + 1) 0 = now[i + 1]'(by omega) := by rw [List.getD_eq_getElem?_getD, List.getElem?_eq_getElem (by omega), Option.getD_some]
    rw [h1, h2, ← List.drop_eq_getElem_cons, ← List.drop_eq_getElem_cons, List.take_append_drop]
  have h0 := (sumL_nonneg (now.take i) (fun x hx => h.each x (List.mem_of_mem_take hx))).1
  have h3 := (sumL_nonneg (now.drop (i + 2)) (fun x hx => h.each x (List.mem_of_mem_drop hx))).1
  have h4 : sumL now = sumL (now.take i) + (now.getD i 0 + (now.getD (i + 1) 0 + sumL (now.drop (i + 2)))) := by
    conv => lhs; rw [e]
    rw [sumL_append]
    rfl
  omega
theorem swapTo_mem {p s : Int} {a : Nat} (hs : s = 1 ∨ s = -1) (hp : 0 ≤ p) : ∀ {b : Nat} {x : Int}, x ∈ swapTo p s a b → (p + 1 ≤ x ∧ x ≤ p + a + b - 1) ∨ (p + 1 ≤ -x ∧ -x ≤ p + a + b - 1)
  | 0, x, h => by simp [swapTo] at h
  | b + 1, x, h => by
    unfold swapTo at h
    rcases List.mem_append.1 h with h | h
    · have := swapTo_mem hs hp h; omega
    · obtain ⟨i, hi, rfl⟩ := List.mem_map.1 h
      have hi := List.mem_range.1 hi
      rcases hs with rfl | rfl <;> omega
theorem sgnI_cases (k : Int) : sgnI k = 1 ∨ sgnI k = -1 := by unfold sgnI; split <;> simp
/-- all that holds behind some letters -/
structure DblOk (m : Nat) (n : Int) (s : List Int × List Int) : Prop where
  now : SizesOk m s.1
  sum : sumL s.1 = n
  out : ∀ x ∈ s.2, x ≠ 0 ∧ 1 - n ≤ x ∧ x ≤ n - 1
theorem letter_at {m : Nat} {k : Int} (h : k ≠ 0 ∧ 1 - (m : Int) ≤ k ∧ k ≤ m - 1) : (absI k - 1).toNat + 1 < m ∧ absI k = ((absI k - 1).toNat : Int) + 1 := by
  unfold absI
  split <;> omega
theorem DblOk.step {m : Nat} {n : Int} {s : List Int × List Int} (h : DblOk m n s) {k : Int} (hk : k ≠ 0 ∧ 1 - (m : Int) ≤ k ∧ k ≤ m - 1) : DblOk m n (dblStep s k) := by
  obtain ⟨h1, h2, h3⟩ := h
  have hi := (letter_at hk).1
  refine ⟨h1.swap hi, by simp only [dblStep]; rw [swapAt_sum (by rw [h1.len]; exact hi), h2], fun x hx => ?_⟩
  simp only [dblStep] at hx
  rcases List.mem_append.1 hx with hx | hx
  · exact h3 x hx
  · have hsp := sum_split h1 hi
    have ha := h1.at_ (show (absI k - 1).toNat < m by omega)
    have hb := h1.at_ hi
    have := swapTo_mem (sgnI_cases k) hsp.1 hx
    omega
theorem dblF_ok {m : Nat} {sizes : List Int} (hs : SizesOk m sizes) : ∀ (ws : List Int) (s : List Int × List Int), DblOk m (sumL sizes) s → (∀ k ∈ ws, k ≠ 0 ∧ 1 - (m : Int) ≤ k ∧ k ≤ m - 1) → DblOk m (sumL sizes) (ws.foldl dblStep s)
  | [], _, h, _ => h
  | k :: ws, s, h, hk => dblF_ok hs ws _ (h.step (hk k (by simp))) (fun x hx => hk x (by simp [hx]))
theorem dbl_ok {m : Nat} {sizes ws : List Int} (hs : SizesOk m sizes) (hk : ∀ k ∈ ws, k ≠ 0 ∧ 1 - (m : Int) ≤ k ∧ k ≤ m - 1) : DblOk m (sumL sizes) (dblF ws sizes) :=
  dblF_ok hs ws _ ⟨hs, rfl, by simp⟩ hk
theorem swapTo_len (p s : Int) (a : Nat) : ∀ t, (swapTo p s a t).length = t * a
  | 0 => by simp [swapTo]
  | t + 1 => by simp [swapTo, swapTo_len p s a t, swapRow, Nat.add_mul]
theorem dbl_len {m : Nat} {sizes : List Int} (hs : SizesOk m sizes) : ∀ (ws : List Int) (s : List Int × List Int), SizesOk m s.1 → (∀ k ∈ ws, k ≠ 0 ∧ 1 - (m : Int) ≤ k ∧ k ≤ m - 1) → ((ws.foldl dblStep s).2).length ≤ s.2.length + 16 * ws.length
  | [], _, _, _ => by simp
  | k :: ws, s, h, hk => by
    have hi := (letter_at (hk k (by simp))).1
    have h1 := dbl_len hs ws (dblStep s k) (h.swap hi) (fun x hx => hk x (by simp [hx]))
    have ha := h.at_ (show (absI k - 1).toNat < m by omega)
    have hb := h.at_ hi
    have h2 : (dblOne s.1 k).length ≤ 16 := by
      unfold dblOne
      rw [swapTo_len]
      have e1 : (s.1.getD ((absI k - 1).toNat + 1) 0).toNat ≤ 4 := by omega
      have e2 : (s.1.getD (absI k - 1).toNat 0).toNat ≤ 4 := by omega
      exact Nat.mul_le_mul e1 e2
    simp only [List.foldl_cons, List.length_cons]
    simp only [dblStep, List.length_append] at h1
    simp only [dblStep] at h1 ⊢
    omega
end Go.Proofs.Ytmimbnpcokfnlaa
