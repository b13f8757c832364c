/- Plain words: Garside's normal form as a system of moves between neighbours: whatever is settled is settled to one end. No condition. Plain words: free reduction. No condition. Plain words: words of letters that mean the same braid; what is freely reduced means the same. No condition. Plain words: words that mean the same braid, with the same ahead of them; the braid relations. No condition. Plain words for the walks of the normal form: lists filled place by place, weighing two neighbours, a pass over all neighbours. No condition. -/
import Derived.Test.YtplabnjdhkmmkaaPF5
import Derived.Test.YtplabnjdhkmmkaaPF1
section
set_option linter.unusedSimpArgs false
set_option linter.unusedVariables false
namespace Go.Proofs.Ytplabnjdhkmmkaa
open Go.ChangeShapes Go.WideShapes Go.ChangeAt Go.RowKit
/-- the places k - 1 and k change -/
def sw (k j : Nat) : Nat := if j + 1 = k then k else if j = k then k - 1 else j
def swI (k : Nat) (x : Int) : Int := if x + 1 = k then k else if x = k then (k : Int) - 1 else x
theorem sw_sw {k j : Nat} (hk : 1 ≤ k) : sw k (sw k j) = j := by
  unfold sw
  repeat' split
  all_goals omega
theorem swI_swI {k : Nat} {x : Int} : swI k (swI k x) = x := by
  unfold swI
  repeat' split
  all_goals omega
theorem sw_lt {k j n : Nat} (hk : k < n) (hj : j < n) : sw k j < n := by
  unfold sw
  repeat' split
  all_goals omega
theorem swI_bd {k n : Nat} {x : Int} (hk : 1 ≤ k) (hk2 : k < n) (h : 0 ≤ x ∧ x < n) : 0 ≤ swI k x ∧ swI k x < n := by
  unfold swI
  repeat' split
  all_goals omega
def bfM (k : Nat) (p : List Int) : List Int := (List.range p.length).map fun j => ix p (sw k j)
def bhM (p : List Int) (k : Nat) : List Int := p.map (swI k)
theorem bfM_length (k : Nat) (p : List Int) : (bfM k p).length = p.length := by simp [bfM]
theorem bhM_length (p : List Int) (k : Nat) : (bhM p k).length = p.length := by simp [bhM]
theorem ix_bf {k j : Nat} {p : List Int} (h : j < p.length) : ix (bfM k p) j = ix p (sw k j) := by
  rw [ix_eq (by rw [bfM_length]; exact h)]
  simp [bfM]
theorem ix_bh {k j : Nat} {p : List Int} (h : j < p.length) : ix (bhM p k) j = swI k (ix p j) := by
  rw [ix_eq (by rw [bhM_length]; exact h), ix_eq h]
  simp [bhM]
theorem ext_ix {p q : List Int} (hl : p.length = q.length) (h : ∀ j, j < p.length → ix p j = ix q j) : p = q := by
  refine List.ext_getElem hl fun j h1 h2 => ?_
  have := h j h1
  rwa [ix_eq h1, ix_eq h2] at this
/-- a permutation of n things -/
structure PermP (n : Nat) (p : List Int) : Prop where
  len : p.length = n
  bd : ∀ j, j < n → 0 ≤ ix p j ∧ ix p j < n
  inj : ∀ i j, i < n → j < n → ix p i = ix p j → i = j
  sur : ∀ x : Int, 0 ≤ x → x < n → ∃ j, j < n ∧ ix p j = x
theorem PermP.bf {n k : Nat} {p : List Int} (h : PermP n p) (hk : 1 ≤ k) (hk2 : k < n) : PermP n (bfM k p) := by
  have hl := h.len
  refine ⟨by rw [bfM_length, hl], fun j hj => ?_, fun i j hi hj he => ?_, fun x h0 h1 => ?_⟩
  · rw [ix_bf (by omega)]; exact h.bd _ (sw_lt hk2 hj)
  · rw [ix_bf (by omega), ix_bf (by omega)] at he
    have := h.inj _ _ (sw_lt hk2 hi) (sw_lt hk2 hj) he
    rw [← sw_sw (j := i) hk, this, sw_sw hk]
  · obtain ⟨j, hj, he⟩ := h.sur x h0 h1
    exact ⟨sw k j, sw_lt hk2 hj, by rw [ix_bf (by rw [hl]; exact sw_lt hk2 hj), sw_sw hk, he]⟩
theorem PermP.bh {n k : Nat} {p : List Int} (h : PermP n p) (hk : 1 ≤ k) (hk2 : k < n) : PermP n (bhM p k) := by
  have hl := h.len
  refine ⟨by rw [bhM_length, hl], fun j hj => ?_, fun i j hi hj he => ?_, fun x h0 h1 => ?_⟩
  · rw [ix_bh (by omega)]; exact swI_bd hk hk2 (h.bd j hj)
  · rw [ix_bh (by omega), ix_bh (by omega)] at he
    have := congrArg (swI k) he
    rw [swI_swI, swI_swI] at this
    exact h.inj _ _ hi hj this
  · obtain ⟨h2, h3⟩ := swI_bd hk hk2 ⟨h0, h1⟩
    obtain ⟨j, hj, he⟩ := h.sur _ h2 h3
    exact ⟨j, hj, by rw [ix_bh (by omega), he, swI_swI]⟩
/-- the letter k begins q -/
def stP (k : Nat) (q : List Int) : Prop := 1 ≤ k ∧ k < q.length ∧ ix q k < ix q (k - 1)
/-- the letter k does not end p: k - 1 comes ahead of k -/
def nfP (k : Nat) (p : List Int) : Prop := ∃ i j, i < j ∧ j < p.length ∧ ix p i + 1 = k ∧ ix p j = k
theorem bf_comm {k l : Nat} (hk : 1 ≤ k) (hl : 1 ≤ l) (h : k + 1 < l ∨ l + 1 < k) (q : List Int) (hk2 : k < q.length) (hl2 : l < q.length) : bfM k (bfM l q) = bfM l (bfM k q) := by
  refine ext_ix (by simp only [bfM_length]) fun j hj => ?_
  simp only [bfM_length] at hj
  rw [ix_bf (by rw [bfM_length]; exact hj), ix_bf (sw_lt hk2 hj), ix_bf (by rw [bfM_length]; exact hj), ix_bf (sw_lt hl2 hj)]
  congr 1
  unfold sw
  repeat' split
  all_goals omega
theorem bh_comm {k l : Nat} (h : k + 1 < l ∨ l + 1 < k) (p : List Int) : bhM (bhM p k) l = bhM (bhM p l) k := by
  unfold bhM
  rw [List.map_map, List.map_map]
  refine List.map_congr_left fun x _ => ?_
  show swI l (swI k x) = swI k (swI l x)
  unfold swI
  repeat' split
  all_goals omega
theorem bf_bh {k l : Nat} (q : List Int) (hk2 : k < q.length) : bfM k (bhM q l) = bhM (bfM k q) l := by
  refine ext_ix (by simp only [bfM_length, bhM_length]) fun j hj => ?_
  simp only [bfM_length, bhM_length] at hj
  rw [ix_bf (by rw [bhM_length]; exact hj), ix_bh (sw_lt hk2 hj), ix_bh (by rw [bfM_length]; exact hj), ix_bf hj]
theorem sw_lo {k j : Nat} (h : j + 1 = k) : sw k j = k := by unfold sw; rw [if_pos h]
theorem sw_hi {k : Nat} : sw k k = k - 1 := by unfold sw; rw [if_neg (by omega), if_pos rfl]
theorem sw_ne {k j : Nat} (h : j + 1 ≠ k) (h' : j ≠ k) : sw k j = j := by unfold sw; rw [if_neg h, if_neg h']
theorem swI_lo {k : Nat} {x : Int} (h : x + 1 = k) : swI k x = k := by unfold swI; rw [if_pos h]
theorem swI_hi {k : Nat} {x : Int} (h : x = k) : swI k x = k - 1 := by unfold swI; rw [if_neg (by omega), if_pos h]
theorem swI_ne {k : Nat} {x : Int} (h : x + 1 ≠ k) (h' : x ≠ k) : swI k x = x := by unfold swI; rw [if_neg h, if_neg h']
theorem sw_braid {k j : Nat} (hk : 1 ≤ k) : sw k (sw (k + 1) (sw k j)) = sw (k + 1) (sw k (sw (k + 1) j)) := by
  have a1 : sw (k + 1) k = k + 1 := sw_lo rfl
  have a2 : sw (k + 1) (k + 1) = k := sw_hi
  have a3 : sw k (k + 1) = k + 1 := sw_ne (by omega) (by omega)
  have a4 : sw k k = k - 1 := sw_hi
  have a5 : sw k (k - 1) = k := sw_lo (by omega)
  have a6 : sw (k + 1) (k - 1) = k - 1 := sw_ne (by omega) (by omega)
  by_cases h1 : j + 1 = k
  · obtain rfl : j = k - 1 := by omega
    rw [a5, a1, a3, a6, a5, a1]
  · by_cases h2 : j = k
    · rw [h2, a4, a6, a5, a1, a3, a2]
    · by_cases h3 : j = k + 1
      · rw [h3, a3, a2, a4, a6]
      · have b1 : sw k j = j := sw_ne h1 h2
        have b2 : sw (k + 1) j = j := sw_ne (by omega) h3
        rw [b1, b2, b1, b2]
theorem swI_braid {k : Nat} {x : Int} : swI k (swI (k + 1) (swI k x)) = swI (k + 1) (swI k (swI (k + 1) x)) := by
  have a1 : swI (k + 1) k = k + 1 := swI_lo (k := k + 1) rfl
  have a2 : swI (k + 1) (k + 1) = k := (swI_hi (k := k + 1) (x := (k : Int) + 1) (by omega)).trans (by omega)
  have a3 : swI k (k + 1) = k + 1 := swI_ne (by omega) (by omega)
  have a4 : swI k k = k - 1 := swI_hi rfl
  have a5 : swI k (k - 1) = k := swI_lo (by omega)
  have a6 : swI (k + 1) (k - 1) = k - 1 := swI_ne (by omega) (by omega)
  by_cases h1 : x + 1 = k
  · obtain rfl : x = k - 1 := by omega
    rw [a5, a1, a3, a6, a5, a1]
  · by_cases h2 : x = k
    · rw [h2, a4, a6, a5, a1, a3, a2]
    · by_cases h3 : x = k + 1
      · rw [h3, a3, a2, a4, a6]
      · have b1 : swI k x = x := swI_ne h1 h2
        have b2 : swI (k + 1) x = x := swI_ne (by omega) (by omega)
        rw [b1, b2, b1, b2]
theorem bf_braid {k : Nat} (hk : 1 ≤ k) (q : List Int) (hk2 : k + 1 < q.length) : bfM k (bfM (k + 1) (bfM k q)) = bfM (k + 1) (bfM k (bfM (k + 1) q)) := by
  refine ext_ix (by simp only [bfM_length]) fun j hj => ?_
  simp only [bfM_length] at hj
  have h1 : k < q.length := by omega
  rw [ix_bf (by simp only [bfM_length]; exact hj), ix_bf (by rw [bfM_length]; exact sw_lt h1 hj), ix_bf (sw_lt hk2 (sw_lt h1 hj)), ix_bf (by simp only [bfM_length]; exact hj), ix_bf (by rw [bfM_length]; exact sw_lt hk2 hj), ix_bf (sw_lt h1 (sw_lt hk2 hj)), sw_braid hk]
theorem bh_braid {k : Nat} (p : List Int) : bhM (bhM (bhM p k) (k + 1)) k = bhM (bhM (bhM p (k + 1)) k) (k + 1) := by
  unfold bhM
  simp only [List.map_map]
  exact List.map_congr_left fun x _ => swI_braid
theorem st_far {k l : Nat} {q : List Int} (h : k + 1 < l ∨ l + 1 < k) (hs : stP l q) : stP l (bfM k q) := by
  obtain ⟨h1, h2, h3⟩ := hs
  refine ⟨h1, by rw [bfM_length]; exact h2, ?_⟩
  rw [ix_bf h2, ix_bf (by omega), sw_ne (by omega) (by omega), sw_ne (by omega) (by omega)]
  exact h3
theorem nf_far {k l : Nat} {p : List Int} (h : k + 1 < l ∨ l + 1 < k) (hs : nfP l p) : nfP l (bhM p k) := by
  obtain ⟨i, j, h1, h2, h3, h4⟩ := hs
  refine ⟨i, j, h1, by rw [bhM_length]; exact h2, ?_, ?_⟩
  · rw [ix_bh (by omega)]
    unfold swI
    repeat' split
    all_goals omega
  · rw [ix_bh h2]
    unfold swI
    repeat' split
    all_goals omega
/-- three places in falling order: letters k, k + 1, k or k + 1, k, k + 1 can all be taken in front -/
theorem st_adj {k : Nat} {q : List Int} (h : stP k q) (h' : stP (k + 1) q) : stP (k + 1) (bfM k q) ∧ stP k (bfM (k + 1) (bfM k q)) ∧ stP k (bfM (k + 1) q) ∧ stP (k + 1) (bfM k (bfM (k + 1) q)) := by
  obtain ⟨h1, h2, h3⟩ := h
  obtain ⟨-, h5, h6⟩ := h'
  rw [Nat.add_sub_cancel] at h6
  have a1 : sw k (k + 1) = k + 1 := sw_ne (by omega) (by omega)
  have a2 : sw k k = k - 1 := sw_hi
  have a3 : sw k (k - 1) = k := sw_lo (by omega)
  have b1 : sw (k + 1) (k + 1) = k := sw_hi
  have b2 : sw (k + 1) k = k + 1 := sw_lo rfl
  have b3 : sw (k + 1) (k - 1) = k - 1 := sw_ne (by omega) (by omega)
  have l1 : k - 1 < q.length := by omega
  have l2 : ∀ t, t < q.length → t < (bfM k q).length := fun t h => by rw [bfM_length]; exact h
  have l3 : ∀ t, t < q.length → t < (bfM (k + 1) q).length := fun t h => by rw [bfM_length]; exact h
  have c1 : ix (bfM k q) (k + 1) = ix q (k + 1) := (ix_bf h5).trans (by rw [a1])
  have c2 : ix (bfM k q) k = ix q (k - 1) := (ix_bf h2).trans (by rw [a2])
  have c3 : ix (bfM k q) (k - 1) = ix q k := (ix_bf l1).trans (by rw [a3])
  have d1 : ix (bfM (k + 1) q) (k + 1) = ix q k := (ix_bf h5).trans (by rw [b1])
  have d2 : ix (bfM (k + 1) q) k = ix q (k + 1) := (ix_bf h2).trans (by rw [b2])
  have d3 : ix (bfM (k + 1) q) (k - 1) = ix q (k - 1) := (ix_bf l1).trans (by rw [b3])
  have e1 : ix (bfM (k + 1) (bfM k q)) k = ix q (k + 1) := (ix_bf (l2 _ h2)).trans (by rw [b2, c1])
  have e2 : ix (bfM (k + 1) (bfM k q)) (k - 1) = ix q k := (ix_bf (l2 _ l1)).trans (by rw [b3, c3])
  have e3 : ix (bfM k (bfM (k + 1) q)) (k + 1) = ix q k := (ix_bf (l3 _ h5)).trans (by rw [a1, d1])
  have e4 : ix (bfM k (bfM (k + 1) q)) k = ix q (k - 1) := (ix_bf (l3 _ h2)).trans (by rw [a2, d3])
  refine ⟨⟨by omega, by rw [bfM_length]; exact h5, ?_⟩, ⟨h1, by simp only [bfM_length]; exact h2, ?_⟩, ⟨h1, by rw [bfM_length]; exact h2, ?_⟩, ⟨by omega, by simp only [bfM_length]; exact h5, ?_⟩⟩
  · rw [Nat.add_sub_cancel, c1, c2]; omega
  · rw [e1, e2]; omega
  · rw [d2, d3]; omega
  · rw [Nat.add_sub_cancel, e3, e4]; omega
theorem nf_adj {n k : Nat} {p : List Int} (hp : PermP n p) (h : nfP k p) (h' : nfP (k + 1) p) : nfP (k + 1) (bhM p k) ∧ nfP k (bhM (bhM p k) (k + 1)) ∧ nfP k (bhM p (k + 1)) ∧ nfP (k + 1) (bhM (bhM p (k + 1)) k) := by
  obtain ⟨i, j, h1, h2, h3, h4⟩ := h
  obtain ⟨j', t, h5, h6, h7, h8⟩ := h'
  have hl := hp.len
  obtain rfl : j = j' := hp.inj _ _ (by omega) (by omega) (by omega)
  have li : i < p.length := by omega
  refine ⟨⟨i, t, by omega, by rw [bhM_length]; omega, ?_, ?_⟩, ⟨j, t, by omega, by simp only [bhM_length]; omega, ?_, ?_⟩, ⟨i, t, by omega, by rw [bhM_length]; omega, ?_, ?_⟩, ⟨i, j, by omega, by simp only [bhM_length]; omega, ?_, ?_⟩⟩
  all_goals simp (discharger := first | omega | (simp only [bhM_length]; omega)) only [ix_bh]
  all_goals unfold swI
  all_goals repeat' split
  all_goals omega
theorem st_mid {n k l : Nat} {q : List Int} (hq : PermP n q) (h : stP k q) (h' : nfP l q) : stP k (bhM q l) := by
  obtain ⟨h1, h2, h3⟩ := h
  obtain ⟨i, j, h4, h5, h6, h7⟩ := h'
  have hl := hq.len
  refine ⟨h1, by rw [bhM_length]; exact h2, ?_⟩
  rw [ix_bh h2, ix_bh (by omega)]
  by_cases e : ix q k + 1 = l ∧ ix q (k - 1) = l
  · have e1 := hq.inj i k (by omega) (by omega) (by omega)
    have e2 := hq.inj j (k - 1) (by omega) (by omega) (by omega)
    omega
  · unfold swI
    repeat' split
    all_goals omega
theorem nf_mid {k l : Nat} {q : List Int} (h : stP k q) (h' : nfP l q) : nfP l (bfM k q) := by
  obtain ⟨h1, h2, h3⟩ := h
  obtain ⟨i, j, h4, h5, h6, h7⟩ := h'
  have hs : sw k i < sw k j := by
    by_cases e : i + 1 = k ∧ j = k
    · obtain ⟨e1, rfl⟩ := e
      have : j - 1 = i := by omega
      rw [this] at h3
      omega
    · unfold sw
      repeat' split
      all_goals omega
  refine ⟨sw k i, sw k j, hs, by rw [bfM_length]; exact sw_lt h2 h5, ?_, ?_⟩
  · rw [ix_bf (sw_lt h2 (by omega)), sw_sw h1]; exact h6
  · rw [ix_bf (sw_lt h2 h5), sw_sw h1]; exact h7
/-- how many pairs stand the wrong way round -/
def invs : List Int → Nat
  | [] => 0
  | x :: r => r.countP (fun y => decide (y < x)) + invs r
theorem invs_swap (a b : List Int) {x y : Int} (h : y < x) : invs (a ++ y :: x :: b) + 1 = invs (a ++ x :: y :: b) := by
  induction a with
  | nil =>
    simp only [List.nil_append, invs, List.countP_cons]
    have e1 : decide (x < y) = false := decide_eq_false (by omega)
    have e2 : decide (y < x) = true := decide_eq_true h
    simp only [e1, e2, if_true, Bool.false_eq_true, if_false]
    omega
  | cons z a ih =>
    simp only [List.cons_append, invs, List.countP_append, List.countP_cons]
    omega
theorem invs_one (b c : List Int) (k : Nat) (hb : ∀ z ∈ b, z ≠ k ∧ z + 1 ≠ k) (hc : ∀ z ∈ c, z ≠ k ∧ z + 1 ≠ k) : invs (b ++ (k : Int) :: c) = invs (b ++ ((k : Int) - 1) :: c) := by
  induction b with
  | nil =>
    simp only [List.nil_append, invs]
    rw [List.countP_congr (q := fun y => decide (y < (k : Int) - 1)) fun z hz => ?_]
    have := hc z hz
    simp only [decide_eq_true_eq]
    omega
  | cons z b ih =>
    have h1 := hb z (by simp)
    simp only [List.cons_append, invs, List.countP_append, List.countP_cons]
    rw [ih fun y hy => hb y (by simp [hy])]
    have e : decide ((k : Int) < z) = decide ((k : Int) - 1 < z) := by
      rw [decide_eq_decide]; omega
    rw [e]
theorem invs_two (a b c : List Int) (k : Nat) (ha : ∀ z ∈ a, z ≠ k ∧ z + 1 ≠ k) (hb : ∀ z ∈ b, z ≠ k ∧ z + 1 ≠ k) (hc : ∀ z ∈ c, z ≠ k ∧ z + 1 ≠ k) : invs (a ++ (k : Int) :: (b ++ ((k : Int) - 1) :: c)) = invs (a ++ ((k : Int) - 1) :: (b ++ (k : Int) :: c)) + 1 := by
  induction a with
  | nil =>
    simp only [List.nil_append, invs]
    rw [invs_one b c k hb hc]
    simp only [List.countP_append, List.countP_cons]
    rw [List.countP_congr (l := b) (q := fun y => decide (y < (k : Int) - 1)) fun z hz => ?_, List.countP_congr (l := c) (q := fun y => decide (y < (k : Int) - 1)) fun z hz => ?_]
    · rw [if_pos (by simp; omega), if_neg (by simp; omega)]
      omega
    · have := hc z hz
      simp only [decide_eq_true_eq]
      omega
    · have := hb z hz
      simp only [decide_eq_true_eq]
      omega
  | cons z a ih =>
    have h1 := ha z (by simp)
    simp only [List.cons_append, invs]
    rw [ih fun y hy => ha y (by simp [hy])]
    have e : ∀ u v : Int, (a ++ u :: (b ++ v :: c)).countP (fun y => decide (y < z)) = (a ++ v :: (b ++ u :: c)).countP (fun y => decide (y < z)) := by
      intro u v
      simp only [List.countP_append, List.countP_cons]
      omega
    rw [e]
    omega
theorem bf_split {k : Nat} {q : List Int} (h : stP k q) : q = q.take (k - 1) ++ ix q (k - 1) :: ix q k :: q.drop (k + 1) ∧ bfM k q = q.take (k - 1) ++ ix q k :: ix q (k - 1) :: q.drop (k + 1) := by
  obtain ⟨h1, h2, -⟩ := h
  have hl1 : (q.take (k - 1)).length = k - 1 := by rw [List.length_take]; omega
  have e1 : q.drop (k - 1) = ix q (k - 1) :: ix q k :: q.drop (k + 1) := by
    rw [ix_eq (show k - 1 < q.length by omega), ix_eq h2, List.getElem_cons_drop]
    have : q.drop k = q.drop (k - 1 + 1) := by congr 1; omega
    rw [this, List.getElem_cons_drop]
  refine ⟨by rw [← e1, List.take_append_drop], ?_⟩
  refine List.ext_getElem (by simp [bfM_length]; omega) fun j hj hj2 => ?_
  rw [bfM_length] at hj
  rw [← ix_eq (by rw [bfM_length]; exact hj), ix_bf hj]
  by_cases a1 : j + 1 = k
  · rw [sw_lo a1, List.getElem_append_right (by omega)]
    have : j - (q.take (k - 1)).length = 0 := by omega
    simp only [this, List.getElem_cons_zero]
  · by_cases a2 : j = k
    · subst a2
      rw [sw_hi, List.getElem_append_right (by omega)]
      have : j - (q.take (j - 1)).length = 1 := by omega
      simp only [this, List.getElem_cons_zero, List.getElem_cons_succ]
    · rw [sw_ne a1 a2]
      by_cases a3 : j < k - 1
      · rw [List.getElem_append_left (by omega), ix_eq hj, List.getElem_take]
      · rw [List.getElem_append_right (by omega)]
        have : ∃ t, j - (q.take (k - 1)).length = t + 2 := ⟨j - k - 1, by omega⟩
        obtain ⟨t, ht⟩ := this
        simp only [ht, List.getElem_cons_succ, List.getElem_drop]
        rw [ix_eq hj]
        congr 1
        omega
theorem invs_bf {k : Nat} {q : List Int} (h : stP k q) : invs (bfM k q) + 1 = invs q := by
  obtain ⟨e1, e2⟩ := bf_split h
  have := invs_swap (q.take (k - 1)) (q.drop (k + 1)) h.2.2
  rw [← e1] at this
  rw [e2]
  exact this
theorem map_swI {k : Nat} {l : List Int} (h : ∀ z ∈ l, z ≠ k ∧ z + 1 ≠ k) : l.map (swI k) = l := by
  conv => rhs; rw [← List.map_id l]
  exact List.map_congr_left fun z hz => swI_ne (h z hz).2 (h z hz).1
theorem invs_bh {n k : Nat} {p : List Int} (hp : PermP n p) (h : nfP k p) : invs (bhM p k) = invs p + 1 := by
  obtain ⟨i, j, h1, h2, h3, h4⟩ := h
  have hl := hp.len
  have out : ∀ t (ht : t < p.length), t ≠ i → t ≠ j → p[t] ≠ (k : Int) ∧ p[t] + 1 ≠ (k : Int) := fun t ht e1 e2 => by
    rw [← ix_eq ht]
    exact ⟨fun e => e2 (hp.inj _ _ (by omega) (by omega) (e.trans h4.symm)), fun e => e1 (hp.inj _ _ (by omega) (by omega) (by omega))⟩
  have e : p = p.take i ++ ((k : Int) - 1) :: ((p.drop (i + 1)).take (j - i - 1) ++ (k : Int) :: p.drop (j + 1)) := by
    have hj : p.drop (i + 1) = (p.drop (i + 1)).take (j - i - 1) ++ (k : Int) :: p.drop (j + 1) := by
      conv => lhs; rw [← List.take_append_drop (j - i - 1) (p.drop (i + 1))]
      congr 1
      rw [List.drop_drop, ← h4, ix_eq h2, List.getElem_cons_drop]
      congr 1
      omega
    rw [← hj]
    have hi : ((k : Int) - 1) = p[i]'(by omega) := by rw [← ix_eq]; omega
    rw [hi, List.getElem_cons_drop, List.take_append_drop]
  have ha : ∀ z ∈ p.take i, z ≠ (k : Int) ∧ z + 1 ≠ (k : Int) := fun z hz => by
    obtain ⟨t, ht, rfl⟩ := List.mem_take_iff_getElem.1 hz
    exact out t (by omega) (by omega) (by omega)
  have hb : ∀ z ∈ (p.drop (i + 1)).take (j - i - 1), z ≠ (k : Int) ∧ z + 1 ≠ (k : Int) := fun z hz => by
    obtain ⟨t, ht, rfl⟩ := List.mem_take_iff_getElem.1 hz
    rw [List.length_drop] at ht
    rw [List.getElem_drop]
    exact out _ (by omega) (by omega) (by omega)
  have hc : ∀ z ∈ p.drop (j + 1), z ≠ (k : Int) ∧ z + 1 ≠ (k : Int) := fun z hz => by
    obtain ⟨t, ht, rfl⟩ := List.mem_drop_iff_getElem.1 hz
    exact out _ (by omega) (by omega) (by omega)
  have e2 : bhM p k = p.take i ++ (k : Int) :: ((p.drop (i + 1)).take (j - i - 1) ++ ((k : Int) - 1) :: p.drop (j + 1)) := by
    conv => lhs; rw [e]
    unfold bhM
    rw [List.map_append, List.map_cons, List.map_append, List.map_cons, map_swI ha, map_swI hb, map_swI hc, swI_lo (by omega), swI_hi rfl]
  rw [e2, invs_two _ _ _ k ha hb hc, ← e]
inductive Stp : List (List Int) → List (List Int) → Prop
  | here {p q : List Int} {r : List (List Int)} (k : Nat) (h : stP k q) (h' : nfP k p) : Stp (p :: q :: r) (bhM p k :: bfM k q :: r)
  | there {p : List Int} {r r' : List (List Int)} (h : Stp r r') : Stp (p :: r) (p :: r')
inductive Stps : List (List Int) → List (List Int) → Prop
  | refl (L : List (List Int)) : Stps L L
  | step {A B C : List (List Int)} (h : Stp A B) (k : Stps B C) : Stps A C
theorem Stps.one {A B : List (List Int)} (h : Stp A B) : Stps A B := .step h (.refl _)
theorem Stps.trans {A B C : List (List Int)} (h : Stps A B) (k : Stps B C) : Stps A C := by
  induction h with
  | refl => exact k
  | step h _ ih => exact .step h (ih k)
theorem Stps.there {A B : List (List Int)} {p : List Int} (h : Stps A B) : Stps (p :: A) (p :: B) := by
  induction h with
  | refl => exact .refl _
  | step h _ ih => exact .step (.there h) ih
def AllP (n : Nat) (L : List (List Int)) : Prop := ∀ p ∈ L, PermP n p
theorem AllP.cons {n : Nat} {p : List Int} {L : List (List Int)} (h : PermP n p) (k : AllP n L) : AllP n (p :: L) := fun q hq => by
  rcases List.mem_cons.1 hq with e | e
  · subst e; exact h
  · exact k q e
theorem AllP.head {n : Nat} {p : List Int} {L : List (List Int)} (h : AllP n (p :: L)) : PermP n p := h p (by simp)
theorem AllP.tail {n : Nat} {p : List Int} {L : List (List Int)} (h : AllP n (p :: L)) : AllP n L := fun q hq => h q (by simp [hq])
theorem PermP.st {n k : Nat} {q : List Int} (hq : PermP n q) (h : stP k q) : PermP n (bfM k q) := hq.bf h.1 (by have := h.2.1; have := hq.len; omega)
theorem PermP.nf {n k : Nat} {p q : List Int} (hp : PermP n p) (hq : PermP n q) (h : stP k q) : PermP n (bhM p k) := hp.bh h.1 (by have := h.2.1; have := hq.len; omega)
theorem Stp.allP {n : Nat} {A B : List (List Int)} (h : Stp A B) : AllP n A → AllP n B := by
  induction h with
  | here k h h' => exact fun ha => .cons (ha.head.nf ha.tail.head h) (.cons (ha.tail.head.st h) ha.tail.tail)
  | there h ih => exact fun ha => .cons ha.head (ih ha.tail)
theorem Stps.allP {n : Nat} {A B : List (List Int)} (h : Stps A B) (ha : AllP n A) : AllP n B := by
  induction h with
  | refl => exact ha
  | step h _ ih => exact ih (h.allP ha)
def mu : Nat → List (List Int) → Nat
  | _, [] => 0
  | i, p :: r => i * invs p + mu (i + 1) r
theorem Stp.mu {n : Nat} {A B : List (List Int)} (h : Stp A B) : AllP n A → ∀ i, mu i B + 1 = mu i A := by
  induction h with
  | @here p q r k h h' =>
    intro ha i
    have h1 := invs_bh ha.head h'
    have h2 := invs_bf h
    simp only [Go.Proofs.Ytplabnjdhkmmkaa.mu]
    rw [h1, ← h2, Nat.mul_add, Nat.mul_add]
    omega
  | there h ih =>
    intro ha i
    have := ih ha.tail (i + 1)
    simp only [Go.Proofs.Ytplabnjdhkmmkaa.mu]
    omega
theorem loc_mid {n k : Nat} {p q : List Int} {r X : List (List Int)} (ha : AllP n (p :: q :: r)) (h : stP k q) (h' : nfP k p) (hx : Stp (q :: r) X) : ∃ C, Stps (bhM p k :: bfM k q :: r) C ∧ Stps (p :: X) C := by
  cases hx with
  | @here _ s r l g g' =>
    have hq := ha.tail.head
    exact ⟨_, .one (.there (.here l g (nf_mid h g'))), by rw [← bf_bh q h.2.1]; exact .one (.here k (st_mid hq h g') h')⟩
  | there hr => exact ⟨_, .one (.there (.there hr)), .one (.here k h h')⟩
theorem loc_adj {n k : Nat} {p q : List Int} {r : List (List Int)} (ha : AllP n (p :: q :: r)) (h : stP k q) (h' : nfP k p) (g : stP (k + 1) q) (g' : nfP (k + 1) p) : ∃ C, Stps (bhM p k :: bfM k q :: r) C ∧ Stps (bhM p (k + 1) :: bfM (k + 1) q :: r) C := by
  obtain ⟨s1, s2, s3, s4⟩ := st_adj h g
  obtain ⟨f1, f2, f3, f4⟩ := nf_adj ha.head h' g'
  refine ⟨_, .step (.here (k + 1) s1 f1) (.one (.here k s2 f2)), ?_⟩
  rw [bh_braid p, bf_braid h.1 q g.2.1]
  exact .step (.here k s3 f3) (.one (.here (k + 1) s4 f4))
theorem loc {n : Nat} {L A B : List (List Int)} (h : Stp L A) : AllP n L → Stp L B → ∃ C, Stps A C ∧ Stps B C := by
  induction h generalizing B with
  | @here p q r k h h' =>
    intro ha hb
    cases hb with
    | here l g g' =>
      by_cases e : k = l
      · subst e
        exact ⟨_, .refl _, .refl _⟩
      · by_cases e1 : l = k + 1
        · subst e1
          exact loc_adj ha h h' g g'
        · by_cases e2 : k = l + 1
          · subst e2
            obtain ⟨C, c1, c2⟩ := loc_adj ha g g' h h'
            exact ⟨C, c2, c1⟩
          · have e3 : k + 1 < l ∨ l + 1 < k := by omega
            refine ⟨_, .one (.here l (st_far e3 g) (nf_far e3 g')), ?_⟩
            rw [bh_comm e3, bf_comm g.1 h.1 (by omega) q g.2.1 h.2.1]
            exact .one (.here k (st_far (by omega) h) (nf_far (by omega) h'))
    | there hx => exact loc_mid ha h h' hx
  | @there p r r' h ih =>
    intro ha hb
    cases hb with
    | here l g g' =>
      obtain ⟨C, c1, c2⟩ := loc_mid ha g g' h
      exact ⟨C, c2, c1⟩
    | there hx =>
      obtain ⟨C, c1, c2⟩ := ih ha.tail hx
      exact ⟨_, c1.there, c2.there⟩
/-- what can be reached in two ways meets again -/
theorem meets {n : Nat} : ∀ (m : Nat) {L A B : List (List Int)}, mu 0 L ≤ m → AllP n L → Stps L A → Stps L B → ∃ C, Stps A C ∧ Stps B C := by
  intro m
  induction m with
  | zero =>
    intro L A B hm ha h k
    cases h with
    | refl => exact ⟨_, k, .refl _⟩
    | step h _ => have := h.mu ha 0; omega
  | succ m ih =>
    intro L A B hm ha h k
    cases h with
    | refl => exact ⟨_, k, .refl _⟩
    | step h1 h2 =>
      cases k with
      | refl => exact ⟨_, .refl _, .step h1 h2⟩
      | step k1 k2 =>
        obtain ⟨D, d1, d2⟩ := loc h1 ha k1
        have m1 := h1.mu ha 0
        have m2 := k1.mu ha 0
        obtain ⟨E, e1, e2⟩ := ih (by omega) (h1.allP ha) h2 d1
        obtain ⟨F, f1, f2⟩ := ih (by omega) (k1.allP ha) (d2.trans e2) k2
        exact ⟨F, e1.trans f1, f2⟩
def Term (L : List (List Int)) : Prop := ∀ A, ¬ Stp L A
theorem Term.stay {L A : List (List Int)} (h : Term L) (k : Stps L A) : L = A := by
  cases k with
  | refl => rfl
  | step k _ => exact absurd k (h _)
theorem unique {n : Nat} {L A B : List (List Int)} (ha : AllP n L) (h : Stps L A) (k : Stps L B) (h' : Term A) (k' : Term B) : A = B := by
  obtain ⟨C, c1, c2⟩ := meets _ (Nat.le_refl _) ha h k
  rw [h'.stay c1, k'.stay c2]
theorem settles {n : Nat} : ∀ (m : Nat) {L : List (List Int)}, mu 0 L ≤ m → AllP n L → ∃ A, Stps L A ∧ Term A := by
  intro m
  induction m with
  | zero =>
    intro L hm ha
    exact ⟨L, .refl _, fun A h => by have := h.mu ha 0; omega⟩
  | succ m ih =>
    intro L hm ha
    by_cases e : Term L
    · exact ⟨L, .refl _, e⟩
    · unfold Term at e
      obtain ⟨A, hA⟩ := Classical.not_forall.1 e
      have hA := Classical.not_not.1 hA
      have := hA.mu ha 0
      obtain ⟨B, h1, h2⟩ := ih (by omega) (hA.allP ha)
      exact ⟨B, .step hA h1, h2⟩
theorem sub_len {l : List Int} : ∀ {m : List Int}, l.Nodup → (∀ x ∈ l, x ∈ m) → l.length ≤ m.length := by
  induction l with
  | nil => intro m _ _; simp
  | cons x l ih =>
    intro m hn hs
    obtain ⟨h1, h2⟩ := List.nodup_cons.1 hn
    have hx := hs x (by simp)
    have h3 : ∀ y ∈ l, y ∈ m.erase x := fun y hy => (List.mem_erase_of_ne (fun (e : y = x) => h1 (e ▸ hy))).2 (hs y (by simp [hy]))
    have := ih h2 h3
    rw [List.length_erase_of_mem hx] at this
    have := List.length_pos_of_mem hx
    simp only [List.length_cons]
    omega
theorem mem_identM {n : Nat} {x : Int} : x ∈ identM n ↔ 0 ≤ x ∧ x < n := by
  unfold identM
  rw [List.mem_map]
  constructor
  · rintro ⟨i, hi, rfl⟩
    have := List.mem_range.1 hi
    omega
  · intro h
    exact ⟨x.toNat, List.mem_range.2 (by omega), by omega⟩
theorem PermP.of {p : List Int} (h : permB p = true) : PermP p.length p := by
  have hin := permB_in h
  have hnd := permB_nodup h
  refine ⟨rfl, fun j hj => by rw [ix_eq hj]; exact hin _ (List.getElem_mem hj), fun i j hi hj he => ?_, fun x h0 h1 => ?_⟩
  · rw [ix_eq hi, ix_eq hj] at he
    have := List.nodup_iff_pairwise_ne.1 hnd
    rw [List.pairwise_iff_getElem] at this
    rcases Nat.lt_trichotomy i j with k | k | k
    · exact absurd he (this i j hi hj k)
    · exact k
    · exact absurd he.symm (this j i hj hi k)
  · by_cases hm : x ∈ p
    · obtain ⟨j, hj, rfl⟩ := List.getElem_of_mem hm
      exact ⟨j, hj, ix_eq hj⟩
    · have h2 : ∀ y ∈ p, y ∈ (identM p.length).erase x := fun y hy => (List.mem_erase_of_ne (fun (e : y = x) => hm (e ▸ hy))).2 (mem_identM.2 (hin y hy))
      have h3 := sub_len hnd h2
      rw [List.length_erase_of_mem (mem_identM.2 ⟨h0, h1⟩), identM_length] at h3
      omega
theorem PermP.permB {n : Nat} {p : List Int} (h : PermP n p) (hn : n ≤ 12) : permB p = true := by
  have hl := h.len
  unfold Go.Proofs.Ytplabnjdhkmmkaa.permB
  simp only [Bool.and_eq_true, decide_eq_true_eq]
  refine ⟨⟨by omega, fun x hx => ?_⟩, ?_⟩
  · obtain ⟨j, hj, rfl⟩ := List.getElem_of_mem hx
    have := h.bd j (by omega)
    rw [ix_eq hj] at this
    omega
  · rw [List.nodup_iff_pairwise_ne, List.pairwise_iff_getElem]
    intro i j hi hj hij he
    have := h.inj i j (by omega) (by omega) (by rw [ix_eq hi, ix_eq hj, he])
    omega
theorem mem_descTo {p : List Int} {x : Int} : ∀ j, x ∈ descTo p j ↔ ∃ k : Nat, k < j ∧ x = k ∧ ix p (k + 1) < ix p k
  | 0 => by simp [descTo]
  | j + 1 => by
    rw [descTo]
    constructor
    · intro h
      by_cases c : ix p (j + 1) < ix p j
      · rw [if_pos c] at h
        rcases List.mem_append.1 h with h | h
        · obtain ⟨k, h1, h2⟩ := (mem_descTo j).1 h
          exact ⟨k, by omega, h2⟩
        · simp only [List.mem_singleton] at h
          exact ⟨j, by omega, h, c⟩
      · rw [if_neg c] at h
        obtain ⟨k, h1, h2⟩ := (mem_descTo j).1 h
        exact ⟨k, by omega, h2⟩
    · rintro ⟨k, h1, h2, h3⟩
      by_cases e : k = j
      · subst e
        rw [if_pos h3]
        simp [h2]
      · have := (mem_descTo j).2 ⟨k, by omega, h2, h3⟩
        split
        · exact List.mem_append.2 (.inl this)
        · exact this
theorem mem_startM {p : List Int} {x : Int} : x ∈ startM p ↔ ∃ k : Nat, x = k ∧ stP k p := by
  unfold startM descM
  rw [List.mem_map]
  constructor
  · rintro ⟨y, hy, rfl⟩
    obtain ⟨k, h1, rfl, h3⟩ := (mem_descTo _).1 hy
    exact ⟨k + 1, by omega, by omega, by omega, by rw [Nat.add_sub_cancel]; exact h3⟩
  · rintro ⟨k, rfl, h1, h2, h3⟩
    refine ⟨(k : Int) - 1, (mem_descTo _).2 ⟨k - 1, by omega, by omega, ?_⟩, by omega⟩
    rwa [show k - 1 + 1 = k by omega]
theorem ix_set {xs : List Int} {k j : Nat} {x : Int} (h : k < xs.length) : ix (xs.set k x) j = if j = k then x else ix xs j := by
  unfold ix
  rw [List.getD_eq_getElem?_getD, List.getElem?_set]
  by_cases e : k = j
  · subst e
    rw [if_pos rfl, if_pos h, if_pos rfl]
    rfl
  · rw [if_neg e, if_neg (fun h => e h.symm), List.getD_eq_getElem?_getD]
theorem ix_invTo {n : Nat} {p : List Int} (h : PermP n p) : ∀ j, j ≤ n → ∀ i, i < j → ix (invTo p j) (ix p i).toNat = i
  | 0, _, i, hi => by omega
  | j + 1, hj, i, hi => by
    have hl := h.len
    have hb := h.bd j (by omega)
    have hb2 := h.bd i (by omega)
    rw [invTo, ix_set (by rw [invTo_length]; omega)]
    by_cases e : i = j
    · subst e; rw [if_pos rfl]
    · rw [if_neg (fun c => e (h.inj i j (by omega) (by omega) (by omega)))]
      exact ix_invTo h j (by omega) i (by omega)
theorem ix_invM {n : Nat} {p : List Int} (h : PermP n p) {i : Nat} (hi : i < n) : ix (invM p) (ix p i).toNat = i := by
  unfold invM
  rw [h.len]
  exact ix_invTo h n (Nat.le_refl _) i hi
theorem invM_length (p : List Int) : (invM p).length = p.length := invTo_length p _
/-- finish letters are those whose values come the wrong way round -/
theorem st_inv {n k : Nat} {p : List Int} (h : PermP n p) (hk : 1 ≤ k) (hk2 : k < n) : stP k (invM p) ↔ ¬ nfP k p := by
  have hl := h.len
  obtain ⟨i, hi, e1⟩ := h.sur ((k : Int) - 1) (by omega) (by omega)
  obtain ⟨j, hj, e2⟩ := h.sur k (by omega) (by omega)
  have f1 := ix_invM h hi
  have f2 := ix_invM h hj
  rw [e1, show ((k : Int) - 1).toNat = k - 1 by omega] at f1
  rw [e2, Int.toNat_natCast] at f2
  have hne : i ≠ j := fun e => by rw [e] at e1; omega
  constructor
  · rintro ⟨-, -, h3⟩ ⟨a, b, h4, h5, h6, h7⟩
    rw [f1, f2] at h3
    have := h.inj a i (by omega) hi (by omega)
    have := h.inj b j (by omega) hj (by omega)
    omega
  · intro hn
    refine ⟨hk, by rw [invM_length]; omega, ?_⟩
    rw [f1, f2]
    by_cases c : i < j
    · exact absurd ⟨i, j, c, by omega, by omega, e2⟩ hn
    · omega
theorem extra_step {n : Nat} {p q : List Int} (hp : PermP n p) (hq : PermP n q) (h : extraM p q ≠ 0) : ∃ k : Nat, extraM p q = k ∧ stP k q ∧ nfP k p := by
  unfold extraM at *
  cases hf : (startM q).find? (fun k => !decide (k ∈ startM (invM p))) with
  | none => rw [hf] at h; simp at h
  | some x =>
    have h1 := List.mem_of_find?_eq_some hf
    have h2 := List.find?_some hf
    simp only [Bool.not_eq_true', decide_eq_false_iff_not] at h2
    obtain ⟨k, rfl, hs⟩ := mem_startM.1 h1
    refine ⟨k, rfl, hs, ?_⟩
    have h3 : ¬ stP k (invM p) := fun c => h2 (mem_startM.2 ⟨k, rfl, c⟩)
    rw [st_inv hp hs.1 (by have := hs.2.1; have := hq.len; omega)] at h3
    exact Classical.not_not.1 h3
theorem extra_none {n k : Nat} {p q : List Int} (hp : PermP n p) (hq : PermP n q) (h : extraM p q = 0) (hs : stP k q) : ¬ nfP k p := by
  unfold extraM at h
  have hk : k < n := by have := hs.2.1; have := hq.len; omega
  cases hf : (startM q).find? (fun k => !decide (k ∈ startM (invM p))) with
  | some x =>
    rw [hf] at h
    have h1 := List.mem_of_find?_eq_some hf
    obtain ⟨j, rfl, hs2⟩ := mem_startM.1 h1
    have := hs2.1
    simp at h
    omega
  | none =>
    rw [List.find?_eq_none] at hf
    have := hf k (mem_startM.2 ⟨k, rfl, hs⟩)
    simp only [Bool.not_eq_true', decide_eq_false_iff_not, Classical.not_not] at this
    obtain ⟨j, e, hj⟩ := mem_startM.1 this
    obtain rfl : k = j := by omega
    exact (st_inv hp hs.1 hk).1 hj
/-- neighbours are left-weighted -/
def LW (L : List (List Int)) : Prop := ∀ i, i + 1 < L.length → extraM (L.getD i []) (L.getD (i + 1) []) = 0
theorem term_of {n : Nat} : ∀ {L : List (List Int)}, AllP n L → LW L → Term L := by
  intro L ha hw A hs
  induction hs with
  | @here p q r k h h' => exact extra_none ha.head ha.tail.head (by simpa using hw 0 (by simp)) h h'
  | @there p r r' h ih => exact ih ha.tail (fun i hi => by simpa using hw (i + 1) (by simpa using hi))
theorem ix_ident {n j : Nat} (h : j < n) : ix (identM n) j = j := by
  rw [ix_eq (by rw [identM_length]; exact h)]
  simp [identM]
theorem halfM_length (n : Nat) : (halfM n).length = n := by simp [halfM, identM_length]
theorem ix_half {n j : Nat} (h : j < n) : ix (halfM n) j = n - 1 - j := by
  rw [ix_eq (by rw [halfM_length]; exact h)]
  unfold halfM
  rw [List.getElem_reverse]
  simp [identM]
  omega
theorem PermP.ident (n : Nat) : PermP n (identM n) :=
  ⟨identM_length n, fun j hj => by rw [ix_ident hj]; omega, fun i j hi hj h => by rw [ix_ident hi, ix_ident hj] at h; omega, fun x h0 h1 => ⟨x.toNat, by omega, by rw [ix_ident (by omega)]; omega⟩⟩
theorem PermP.half (n : Nat) : PermP n (halfM n) :=
  ⟨halfM_length n, fun j hj => by rw [ix_half hj]; omega, fun i j hi hj h => by rw [ix_half hi, ix_half hj] at h; omega, fun x h0 h1 => ⟨((n : Int) - 1 - x).toNat, by omega, by rw [ix_half (by omega)]; omega⟩⟩
theorem st_ident {n k : Nat} : ¬ stP k (identM n) := fun ⟨h1, h2, h3⟩ => by
  rw [identM_length] at h2
  rw [ix_ident h2, ix_ident (by omega)] at h3
  omega
theorem nf_half {n k : Nat} : ¬ nfP k (halfM n) := fun ⟨i, j, h1, h2, h3, h4⟩ => by
  rw [halfM_length] at h2
  rw [ix_half h2] at h4
  rw [ix_half (by omega)] at h3
  omega
theorem rising {n : Nat} {q : List Int} (hq : PermP n q) (h : ∀ k, ¬ stP k q) : q = identM n := by
  have hl := hq.len
  have up : ∀ d i, i + d < n → ix q i + d ≤ ix q (i + d) := by
    intro d
    induction d with
    | zero => intro i hi; simp
    | succ d ih =>
      intro i hi
      have h1 := ih i (by omega)
      have h2 := h (i + d + 1)
      have h3 : ¬ ix q (i + d + 1) < ix q (i + d) := fun c => h2 ⟨by omega, by omega, by rw [Nat.add_sub_cancel]; exact c⟩
      have h4 : ix q (i + d) ≠ ix q (i + d + 1) := fun e => by have := hq.inj _ _ (by omega) (by omega) e; omega
      rw [show i + (d + 1) = i + d + 1 by omega]
      omega
  refine ext_ix (by rw [hl, identM_length]) fun j hj => ?_
  rw [ix_ident (by omega)]
  have h1 := up j 0 (by omega)
  have h2 := up (n - 1 - j) j (by omega)
  have h3 := hq.bd 0 (by omega)
  have h4 := hq.bd (j + (n - 1 - j)) (by omega)
  rw [Nat.zero_add] at h1
  omega
/-- one permutation behind another -/
def compM (p q : List Int) : List Int := p.map fun x => ix q x.toNat
theorem compM_length (p q : List Int) : (compM p q).length = p.length := by simp [compM]
theorem ix_comp {p q : List Int} {j : Nat} (h : j < p.length) : ix (compM p q) j = ix q (ix p j).toNat := by
  rw [ix_eq (by rw [compM_length]; exact h), ix_eq h]
  simp [compM]
theorem comp_ident {n : Nat} {p : List Int} (hp : PermP n p) : compM p (identM n) = p := by
  refine ext_ix (compM_length _ _) fun j hj => ?_
  rw [compM_length] at hj
  have := hp.bd j (by have := hp.len; omega)
  rw [ix_comp hj, ix_ident (by omega)]
  omega
theorem ident_comp {n : Nat} {q : List Int} (hq : PermP n q) : compM (identM n) q = q := by
  have hl := hq.len
  refine ext_ix (by rw [compM_length, identM_length, hl]) fun j hj => ?_
  rw [compM_length, identM_length] at hj
  rw [ix_comp (by rw [identM_length]; exact hj), ix_ident hj]
  rfl
theorem comp_step {n k : Nat} {p q : List Int} (hp : PermP n p) (hq : PermP n q) (h : stP k q) : compM (bhM p k) (bfM k q) = compM p q := by
  have hl := hp.len
  have hl2 := hq.len
  obtain ⟨h1, h2, -⟩ := h
  refine ext_ix (by simp only [compM_length, bhM_length]) fun j hj => ?_
  simp only [compM_length, bhM_length] at hj
  have hb := hp.bd j (by omega)
  have hb2 := swI_bd (k := k) h1 (by omega : k < n) hb
  rw [ix_comp (by rw [bhM_length]; exact hj), ix_bh hj, ix_bf (by omega), ix_comp hj]
  congr 1
  unfold sw swI
  repeat' split
  all_goals omega
/-- no two strands that cross in p cross back in q -/
def Red (p q : List Int) : Prop := ∀ i j, i < j → j < p.length → ix p j < ix p i → ix q (ix p j).toNat < ix q (ix p i).toNat
theorem red_ident {n : Nat} (q : List Int) : Red (identM n) q := fun i j h1 h2 h3 => by
  rw [identM_length] at h2
  rw [ix_ident h2, ix_ident (by omega)] at h3
  omega
theorem red_nf {n k : Nat} {p q : List Int} (hp : PermP n p) (hq : PermP n q) (h : stP k q) (hr : Red p q) : nfP k p := by
  have hl := hp.len
  have hl2 := hq.len
  obtain ⟨h1, h2, h3⟩ := h
  obtain ⟨i, hi, e1⟩ := hp.sur ((k : Int) - 1) (by omega) (by omega)
  obtain ⟨j, hj, e2⟩ := hp.sur k (by omega) (by omega)
  have hne : i ≠ j := fun e => by rw [e] at e1; omega
  by_cases c : i < j
  · exact ⟨i, j, c, by omega, by omega, e2⟩
  · have := hr j i (by omega) (by omega) (by omega)
    rw [e1, e2, show ((k : Int) - 1).toNat = k - 1 by omega, Int.toNat_natCast] at this
    omega
theorem red_step {n k : Nat} {p q : List Int} (hp : PermP n p) (hq : PermP n q) (h : stP k q) (hr : Red p q) : Red (bhM p k) (bfM k q) := by
  have hnf := red_nf hp hq h hr
  have hl := hp.len
  have hl2 := hq.len
  have hcc := comp_step hp hq h
  intro i j h1 h2 h3
  rw [bhM_length] at h2
  have c1 : ix (bfM k q) (ix (bhM p k) j).toNat = ix q (ix p j).toNat := by
    rw [← ix_comp (by rw [bhM_length]; exact h2), hcc, ix_comp h2]
  have c2 : ix (bfM k q) (ix (bhM p k) i).toNat = ix q (ix p i).toNat := by
    rw [← ix_comp (by rw [bhM_length]; omega), hcc, ix_comp (by omega)]
  rw [c1, c2]
  by_cases c : ix p j < ix p i
  · exact hr i j h1 h2 c
  · obtain ⟨a, b, h4, h5, h6, h7⟩ := hnf
    rw [ix_bh h2, ix_bh (by omega)] at h3
    have hne : ix p i ≠ ix p j := fun e => by have := hp.inj i j (by omega) (by omega) e; omega
    have h8 : ix p i + 1 = k ∧ ix p j = k := by
      unfold swI at h3
      revert h3
      repeat' split
      all_goals omega
    rw [h8.2, show (ix p i).toNat = k - 1 by omega, Int.toNat_natCast]
    exact h.2.2
/-- a product that is a permutation comes together -/
theorem joins {n : Nat} : ∀ (m : Nat) {p q : List Int} (r : List (List Int)), invs q ≤ m → PermP n p → PermP n q → Red p q → Stps (p :: q :: r) (compM p q :: identM n :: r) := by
  intro m
  induction m with
  | zero =>
    intro p q r hm hp hq hr
    have : q = identM n := rising hq fun k h => by have := invs_bf h; omega
    subst this
    rw [comp_ident hp]
    exact .refl _
  | succ m ih =>
    intro p q r hm hp hq hr
    by_cases e : ∃ k, stP k q
    · obtain ⟨k, h⟩ := e
      have h1 := invs_bf h
      have := ih r (by omega) (hp.nf hq h) (hq.st h) (red_step hp hq h hr)
      rw [comp_step hp hq h] at this
      exact .step (.here k h (red_nf hp hq h hr)) this
    · have : q = identM n := rising hq fun k h => e ⟨k, h⟩
      subst this
      rw [comp_ident hp]
      exact .refl _
theorem ident_moves {n : Nat} {q : List Int} (hq : PermP n q) (r : List (List Int)) : Stps (identM n :: q :: r) (q :: identM n :: r) := by
  have := joins _ r (Nat.le_refl _) (.ident n) hq (red_ident q)
  rwa [ident_comp hq] at this
theorem Stp.right {A B : List (List Int)} (C : List (List Int)) (h : Stp A B) : Stp (A ++ C) (B ++ C) := by
  induction h with
  | here k h h' => exact .here k h h'
  | there h ih => exact .there ih
theorem Stps.right {A B : List (List Int)} (C : List (List Int)) (h : Stps A B) : Stps (A ++ C) (B ++ C) := by
  induction h with
  | refl => exact .refl _
  | step h _ ih => exact .step (h.right C) ih
theorem Stps.left {A B : List (List Int)} (C : List (List Int)) (h : Stps A B) : Stps (C ++ A) (C ++ B) := by
  induction C with
  | nil => exact h
  | cons p C ih => exact .there ih
theorem idents_move {n : Nat} {q : List Int} (hq : PermP n q) : ∀ b, Stps (List.replicate b (identM n) ++ [q]) (q :: List.replicate b (identM n))
  | 0 => .refl _
  | b + 1 => by
    have h1 := (idents_move hq b).there (p := identM n)
    have h2 := ident_moves hq (List.replicate b (identM n))
    have : List.replicate (b + 1) (identM n) = identM n :: List.replicate b (identM n) := rfl
    rw [this]
    exact h1.trans h2
def flipP (p : List Int) : List Int := (List.range p.length).map fun j => (p.length : Int) - 1 - ix p (p.length - 1 - j)
theorem flipP_length (p : List Int) : (flipP p).length = p.length := by simp [flipP]
theorem ix_flip {p : List Int} {j : Nat} (h : j < p.length) : ix (flipP p) j = (p.length : Int) - 1 - ix p (p.length - 1 - j) := by
  rw [ix_eq (by rw [flipP_length]; exact h)]
  simp [flipP]
theorem PermP.flip {n : Nat} {p : List Int} (hp : PermP n p) : PermP n (flipP p) := by
  have hl := hp.len
  refine ⟨by rw [flipP_length, hl], fun j hj => ?_, fun i j hi hj he => ?_, fun x h0 h1 => ?_⟩
  · rw [ix_flip (by omega)]
    have := hp.bd (p.length - 1 - j) (by omega)
    omega
  · rw [ix_flip (by omega), ix_flip (by omega)] at he
    have := hp.inj _ _ (by omega) (by omega) (show ix p (p.length - 1 - i) = ix p (p.length - 1 - j) by omega)
    omega
  · obtain ⟨j, hj, he⟩ := hp.sur ((n : Int) - 1 - x) (by omega) (by omega)
    exact ⟨n - 1 - j, by omega, by rw [ix_flip (by omega), show p.length - 1 - (n - 1 - j) = j by omega]; omega⟩
theorem flip_ident (n : Nat) : flipP (identM n) = identM n := by
  refine ext_ix (by rw [flipP_length]) fun j hj => ?_
  rw [flipP_length] at hj
  rw [ix_flip hj]
  rw [identM_length] at hj ⊢
  rw [ix_ident (by omega), ix_ident hj]
  omega
theorem flip_half (n : Nat) : flipP (halfM n) = halfM n := by
  refine ext_ix (by rw [flipP_length]) fun j hj => ?_
  rw [flipP_length] at hj
  rw [ix_flip hj]
  rw [halfM_length] at hj ⊢
  rw [ix_half (by omega), ix_half hj]
  omega
theorem flip_st {n k : Nat} {q : List Int} (hq : PermP n q) (h : stP k q) : stP (n - k) (flipP q) := by
  have hl := hq.len
  obtain ⟨h1, h2, h3⟩ := h
  refine ⟨by omega, by rw [flipP_length]; omega, ?_⟩
  rw [ix_flip (by omega), ix_flip (by omega), show q.length - 1 - (n - k) = k - 1 by omega, show q.length - 1 - (n - k - 1) = k by omega]
  omega
theorem flip_nf {n k : Nat} {p : List Int} (hp : PermP n p) (hk : k ≤ n) (h : nfP k p) : nfP (n - k) (flipP p) := by
  have hl := hp.len
  obtain ⟨i, j, h1, h2, h3, h4⟩ := h
  refine ⟨n - 1 - j, n - 1 - i, by omega, by rw [flipP_length]; omega, ?_, ?_⟩
  · rw [ix_flip (by omega), show p.length - 1 - (n - 1 - j) = j by omega]
    have := hp.bd j (by omega)
    omega
  · rw [ix_flip (by omega), show p.length - 1 - (n - 1 - i) = i by omega]
    omega
theorem flip_bf {n k : Nat} {q : List Int} (hq : PermP n q) (hk : 1 ≤ k) (hk2 : k < n) : flipP (bfM k q) = bfM (n - k) (flipP q) := by
  have hl := hq.len
  refine ext_ix (by simp only [flipP_length, bfM_length]) fun j hj => ?_
  simp only [flipP_length, bfM_length] at hj
  rw [ix_flip (by rw [bfM_length]; exact hj), bfM_length, ix_bf (p := q) (by omega), ix_bf (p := flipP q) (by rw [flipP_length]; exact hj), ix_flip (sw_lt (by omega) hj)]
  congr 2
  unfold sw
  repeat' split
  all_goals omega
theorem flip_bh {n k : Nat} {p : List Int} (hp : PermP n p) (_hk : 1 ≤ k) (hk2 : k < n) : flipP (bhM p k) = bhM (flipP p) (n - k) := by
  have hl := hp.len
  refine ext_ix (by simp only [flipP_length, bhM_length]) fun j hj => ?_
  simp only [flipP_length, bhM_length] at hj
  rw [ix_flip (by rw [bhM_length]; exact hj), bhM_length, ix_bh (p := p) (by omega), ix_bh (p := flipP p) (by rw [flipP_length]; exact hj), ix_flip hj]
  have := hp.bd (p.length - 1 - j) (by omega)
  unfold swI
  repeat' split
  all_goals omega
theorem Stp.flip {n : Nat} {A B : List (List Int)} (h : Stp A B) : AllP n A → Stp (A.map flipP) (B.map flipP) := by
  induction h with
  | @here p q r k h h' =>
    intro ha
    have hq := ha.tail.head
    have hk : k < n := by have := h.2.1; have := hq.len; omega
    simp only [List.map_cons]
    rw [flip_bh ha.head h.1 hk, flip_bf hq h.1 hk]
    exact .here _ (flip_st hq h) (flip_nf ha.head (by omega) h')
  | there h ih => exact fun ha => .there (ih ha.tail)
theorem Stps.flip {n : Nat} {A B : List (List Int)} (h : Stps A B) (ha : AllP n A) : Stps (A.map flipP) (B.map flipP) := by
  induction h with
  | refl => exact .refl _
  | step h _ ih => exact .step (h.flip ha) (ih (h.allP ha))
theorem AllP.map_flip {n : Nat} {A : List (List Int)} (h : AllP n A) : AllP n (A.map flipP) := fun p hp => by
  obtain ⟨q, hq, rfl⟩ := List.mem_map.1 hp
  exact (h q hq).flip
theorem AllP.app {n : Nat} {A B : List (List Int)} (h : AllP n A) (k : AllP n B) : AllP n (A ++ B) := fun p hp => (List.mem_append.1 hp).elim (h p) (k p)
theorem PermP.inv {n : Nat} {p : List Int} (hp : PermP n p) : PermP n (invM p) := by
  have hl := hp.len
  have key : ∀ x : Nat, x < n → ∃ j, j < n ∧ ix p j = x ∧ ix (invM p) x = j := fun x hx => by
    obtain ⟨j, hj, he⟩ := hp.sur x (by omega) (by omega)
    have := ix_invM hp hj
    rw [he, Int.toNat_natCast] at this
    exact ⟨j, hj, he, this⟩
  refine ⟨by rw [invM_length, hl], fun j hj => ?_, fun i j hi hj he => ?_, fun x h0 h1 => ?_⟩
  · obtain ⟨t, h1, -, h3⟩ := key j hj
    rw [h3]; omega
  · obtain ⟨t, -, h2, h3⟩ := key i hi
    obtain ⟨u, -, h5, h6⟩ := key j hj
    obtain rfl : t = u := by omega
    omega
  · have hb := hp.bd x.toNat (by omega)
    refine ⟨(ix p x.toNat).toNat, by omega, ?_⟩
    rw [ix_invM hp (by omega)]
    omega
theorem falling {n : Nat} {q : List Int} (hq : PermP n q) (h : ∀ k, 1 ≤ k → k < n → stP k q) : q = halfM n := by
  have hl := hq.len
  have down : ∀ d i, i + d < n → ix q (i + d) + d ≤ ix q i := by
    intro d
    induction d with
    | zero => intro i hi; simp
    | succ d ih =>
      intro i hi
      have h1 := ih i (by omega)
      have h2 := (h (i + d + 1) (by omega) hi).2.2
      rw [Nat.add_sub_cancel] at h2
      rw [show i + (d + 1) = i + d + 1 by omega]
      omega
  refine ext_ix (by rw [hl, halfM_length]) fun j hj => ?_
  rw [ix_half (by omega)]
  have h1 := down j 0 (by omega)
  have h2 := down (n - 1 - j) j (by omega)
  have h3 := hq.bd 0 (by omega)
  have h4 := hq.bd (j + (n - 1 - j)) (by omega)
  rw [Nat.zero_add] at h1
  omega
theorem all_end {n : Nat} {p : List Int} (hp : PermP n p) (h : ∀ k, 1 ≤ k → k < n → ¬ nfP k p) : p = halfM n := by
  have hl := hp.len
  have h1 : invM p = halfM n := falling hp.inv fun k h1 h2 => (st_inv hp h1 h2).2 (h k h1 h2)
  refine ext_ix (by rw [hl, halfM_length]) fun j hj => ?_
  have h2 := ix_invM hp (i := j) (by omega)
  have hb := hp.bd j (by omega)
  rw [h1, ix_half (by omega)] at h2
  rw [ix_half (by omega)]
  omega
theorem st_half {n k : Nat} (h1 : 1 ≤ k) (h2 : k < n) : stP k (halfM n) := ⟨h1, by rw [halfM_length]; exact h2, by rw [ix_half h2, ix_half (by omega)]; omega⟩
theorem nf_ident {n k : Nat} (h1 : 1 ≤ k) (h2 : k < n) : nfP k (identM n) := ⟨k - 1, k, by omega, by rw [identM_length]; exact h2, by rw [ix_ident (by omega)]; omega, ix_ident h2⟩
theorem Term.tail {p : List Int} {L : List (List Int)} (h : Term (p :: L)) : Term L := fun A k => h _ (.there k)
theorem term_half {n : Nat} {p : List Int} {r : List (List Int)} (hp : PermP n p) (h : Term (p :: halfM n :: r)) : p = halfM n :=
  all_end hp fun k h1 h2 h3 => h _ (.here k (st_half h1 h2) h3)
theorem term_ident {n : Nat} {q : List Int} {r : List (List Int)} (hq : PermP n q) (h : Term (identM n :: q :: r)) : q = identM n :=
  rising hq fun k h1 => h _ (.here k h1 (nf_ident h1.1 (by have := h1.2.1; have := hq.len; omega)))
/-- half twists, then others, then identities -/
structure Dec (n : Nat) (T : List (List Int)) (c : Nat) (F : List (List Int)) (d : Nat) : Prop where
  eq : T = List.replicate c (halfM n) ++ (F ++ List.replicate d (identM n))
  ne : ∀ p ∈ F, p ≠ halfM n ∧ p ≠ identM n
theorem ident_ne {n : Nat} (hn : 2 ≤ n) : identM n ≠ halfM n := fun h => by
  have h1 : ix (identM n) 0 = ix (halfM n) 0 := by rw [h]
  rw [ix_ident (by omega), ix_half (by omega)] at h1
  omega
theorem dec {n : Nat} (hn : 2 ≤ n) : ∀ {T : List (List Int)}, AllP n T → Term T → ∃ c F d, Dec n T c F d
  | [], _, _ => ⟨0, [], 0, rfl, by simp⟩
  | p :: T, ha, ht => by
    obtain ⟨c, F, d, h1, h2⟩ := dec hn ha.tail ht.tail
    by_cases e1 : p = halfM n
    · exact ⟨c + 1, F, d, by rw [h1, e1]; rfl, h2⟩
    · have hc : c = 0 := by
        cases c with
        | zero => rfl
        | succ c =>
          have : T = halfM n :: (List.replicate c (halfM n) ++ (F ++ List.replicate d (identM n))) := h1
          rw [this] at ht
          exact absurd (term_half ha.head ht) e1
      subst hc
      by_cases e2 : p = identM n
      · have hF : F = [] := by
          cases F with
          | nil => rfl
          | cons q F =>
            have : T = q :: (F ++ List.replicate d (identM n)) := h1
            rw [this, e2] at ht
            exact absurd (term_ident (ha q (by rw [this]; simp)) ht) (h2 q (by simp)).2
        subst hF
        exact ⟨0, [], d + 1, by rw [h1, e2]; rfl, by simp⟩
      · exact ⟨0, p :: F, d, by rw [h1]; rfl, fun q hq => by
          rcases List.mem_cons.1 hq with h | h
          · subst h; exact ⟨e1, e2⟩
          · exact h2 q h⟩
def pureF (n : Nat) (T : List (List Int)) : List (List Int) := T.filter fun p => decide (p ≠ identM n) && decide (p ≠ halfM n)
def halfs (n : Nat) (T : List (List Int)) : Nat := T.countP fun p => decide (p ≠ identM n) && decide (p = halfM n)
theorem Dec.pure {n : Nat} {T F : List (List Int)} {c d : Nat} (h : Dec n T c F d) : pureF n T = F := by
  unfold pureF
  rw [h.eq, List.filter_append, List.filter_append, List.filter_replicate, List.filter_replicate]
  rw [List.filter_eq_self.2 fun p hp => by have := h.ne p hp; simp [this.1, this.2]]
  simp
theorem Dec.halfs {n : Nat} (hn : 2 ≤ n) {T F : List (List Int)} {c d : Nat} (h : Dec n T c F d) : halfs n T = c := by
  unfold Go.Proofs.Ytplabnjdhkmmkaa.halfs
  rw [h.eq, List.countP_append, List.countP_append, List.countP_replicate, List.countP_replicate]
  rw [List.countP_eq_zero.2 fun p hp => by have := h.ne p hp; simp [this.1]]
  have := ident_ne hn
  simp [Ne.symm this]
theorem Term.half {n : Nat} {T : List (List Int)} (h : Term T) : Term (halfM n :: T) := fun A k => by
  cases k with
  | here k h1 h2 => exact nf_half h2
  | there k => exact h _ k
theorem Term.halfs {n : Nat} {T : List (List Int)} (h : Term T) : ∀ a, Term (List.replicate a (halfM n) ++ T)
  | 0 => h
  | a + 1 => (Term.halfs h a).half
theorem Term.ident {n : Nat} : ∀ {T : List (List Int)}, Term T → Term (T ++ [identM n])
  | [], _ => fun A k => by cases k with | there k => cases k
  | [p], _ => fun A k => by
    cases k with
    | here k h1 h2 => exact st_ident h1
    | there k => cases k with | there k => cases k
  | p :: q :: r, h => fun A k => by
    cases k with
    | here k h1 h2 => exact h _ (.here k h1 h2)
    | there k => exact Term.ident h.tail _ k
theorem rep_snoc {α : Type} (x : α) (b : Nat) : List.replicate (b + 1) x = List.replicate b x ++ [x] := by
  rw [List.replicate_succ']
theorem Term.idents {n : Nat} {T : List (List Int)} (h : Term T) : ∀ b, Term (T ++ List.replicate b (identM n))
  | 0 => by simpa using h
  | b + 1 => by
    rw [rep_snoc, ← List.append_assoc]
    exact (Term.idents h b).ident
theorem flipP_flipP (p : List Int) : flipP (flipP p) = p := by
  refine ext_ix (by simp only [flipP_length]) fun j hj => ?_
  simp only [flipP_length] at hj
  rw [ix_flip (by rw [flipP_length]; exact hj), flipP_length, ix_flip (by omega), show p.length - 1 - (p.length - 1 - j) = j by omega]
  omega
theorem map_flipP_flipP (L : List (List Int)) : (L.map flipP).map flipP = L := by
  rw [List.map_map]
  conv => rhs; rw [← List.map_id L]
  exact List.map_congr_left fun p _ => flipP_flipP p
theorem Term.flip {n : Nat} {L : List (List Int)} (ha : AllP n L) (h : Term L) : Term (L.map flipP) := fun A k => by
  have := k.flip ha.map_flip
  rw [map_flipP_flipP] at this
  exact h _ this
/-- what a run that settles as it goes has: (P', F) for the raw (P, L) -/
structure Gar (n : Nat) (P : Int) (L : List (List Int)) (P' : Int) (F : List (List Int)) : Prop where
  all : AllP n L
  run : ∃ a b, Stps L (List.replicate a (halfM n) ++ (F ++ List.replicate b (identM n))) ∧ P' = P + a ∧ Term (List.replicate a (halfM n) ++ (F ++ List.replicate b (identM n)))
  ne : ∀ p ∈ F, p ≠ halfM n ∧ p ≠ identM n
theorem Gar.start (n : Nat) (P : Int) : Gar n P [] P [] := ⟨by intro p hp; simp at hp, ⟨0, 0, .refl _, by simp, fun A h => by cases h⟩, by simp⟩
theorem Gar.allF {n : Nat} {P P' : Int} {L F : List (List Int)} (h : Gar n P L P' F) : AllP n F := by
  obtain ⟨a, b, h1, -⟩ := h.run
  have := h1.allP h.all
  exact fun p hp => this p (by simp [hp])
theorem Gar.term {n : Nat} {P P' : Int} {L F : List (List Int)} (h : Gar n P L P' F) : ∃ a b, Term (List.replicate a (halfM n) ++ (F ++ List.replicate b (identM n))) := by
  obtain ⟨a, b, -, -, h1⟩ := h.run
  exact ⟨a, b, h1⟩
theorem map_rep {f : List Int → List Int} {x : List Int} (h : f x = x) (a : Nat) : (List.replicate a x).map f = List.replicate a x := by rw [List.map_replicate, h]
theorem Gar.flip {n : Nat} {P P' : Int} {L F : List (List Int)} (h : Gar n P L P' F) : Gar n (P - 1) (L.map flipP) (P' - 1) (F.map flipP) := by
  obtain ⟨a, b, h1, h2, h3⟩ := h.run
  have e : (List.replicate a (halfM n) ++ (F ++ List.replicate b (identM n))).map flipP = List.replicate a (halfM n) ++ (F.map flipP ++ List.replicate b (identM n)) := by
    rw [List.map_append, List.map_append, map_rep (flip_half n), map_rep (flip_ident n)]
  refine ⟨h.all.map_flip, ⟨a, b, ?_, by omega, ?_⟩, fun p hp => ?_⟩
  · rw [← e]; exact h1.flip h.all
  · rw [← e]; exact h3.flip (h1.allP h.all)
  · obtain ⟨q, hq, rfl⟩ := List.mem_map.1 hp
    have := h.ne q hq
    exact ⟨fun c => this.1 (by rw [← flipP_flipP q, c, flip_half]), fun c => this.2 (by rw [← flipP_flipP q, c, flip_ident])⟩
/-- a factor behind: settled, and tidied -/
theorem Gar.next {n : Nat} {P P' : Int} {L F T F' : List (List Int)} {x : List Int} {c d : Nat} (h : Gar n P L P' F) (hx : PermP n x) (hs : Stps (F ++ [x]) T) (ht : Term T) (hd : Dec n T c F' d) : Gar n P (L ++ [x]) (P' + c) F' := by
  obtain ⟨a, b, h1, h2, h3⟩ := h.run
  have e : List.replicate a (halfM n) ++ (T ++ List.replicate b (identM n)) = List.replicate (a + c) (halfM n) ++ (F' ++ List.replicate (d + b) (identM n)) := by
    rw [hd.eq, ← List.replicate_append_replicate, ← List.replicate_append_replicate]
    simp only [List.append_assoc]
  refine ⟨h.all.app (fun p hp => by rw [List.mem_singleton.1 hp]; exact hx), ⟨a + c, d + b, ?_, by omega, ?_⟩, hd.ne⟩
  · rw [← e]
    have s1 := h1.right [x]
    rw [List.append_assoc, List.append_assoc] at s1
    have s2 := ((idents_move hx b).left F).left (List.replicate a (halfM n))
    have s3 := (hs.right (List.replicate b (identM n))).left (List.replicate a (halfM n))
    rw [List.append_assoc] at s3
    exact s1.trans (s2.trans s3)
  · rw [← e]
    exact Term.halfs (ht.idents b) a
/-- the normal form of a list of permutations behind a power of the half twist -/
noncomputable def settleM (L : List (List Int)) : List (List Int) := open Classical in if h : ∃ T, Stps L T ∧ Term T then Classical.choose h else []
theorem settleM_eq {n : Nat} {L T : List (List Int)} (ha : AllP n L) (hs : Stps L T) (ht : Term T) : settleM L = T := by
  have h : ∃ T, Stps L T ∧ Term T := ⟨T, hs, ht⟩
  unfold settleM
  rw [dif_pos h]
  obtain ⟨h1, h2⟩ := Classical.choose_spec h
  exact unique ha h1 hs h2 ht
noncomputable def nfP' (n : Nat) (P : Int) (L : List (List Int)) : Int := P + halfs n (settleM L)
noncomputable def nfF (n : Nat) (L : List (List Int)) : List (List Int) := pureF n (settleM L)
theorem Gar.nf {n : Nat} (hn : 2 ≤ n) {P P' : Int} {L F : List (List Int)} (h : Gar n P L P' F) : nfP' n P L = P' ∧ nfF n L = F := by
  obtain ⟨a, b, h1, h2, h3⟩ := h.run
  have hd : Dec n _ a F b := ⟨rfl, h.ne⟩
  unfold nfP' nfF
  rw [settleM_eq h.all h1 h3]
  exact ⟨by rw [hd.halfs hn, h2], hd.pure⟩
def lettP (n : Nat) (x : Int) : List Int := if 0 < x then bhM (identM n) x.natAbs else bhM (halfM n) x.natAbs
def rawStep (n : Nat) (s : Int × List (List Int)) (x : Int) : Int × List (List Int) := if 0 < x then (s.1, s.2 ++ [lettP n x]) else (s.1 - 1, s.2.map flipP ++ [lettP n x])
def rawM (n : Nat) (word : List Int) : Int × List (List Int) := word.foldl (rawStep n) (0, [])
/-- letters on n strands -/
def LettN (n : Nat) (word : List Int) : Prop := ∀ x ∈ word, 1 ≤ x.natAbs ∧ x.natAbs < n
theorem PermP.lettP {n : Nat} {x : Int} (h : 1 ≤ x.natAbs ∧ x.natAbs < n) : PermP n (lettP n x) := by
  unfold Go.Proofs.Ytplabnjdhkmmkaa.lettP
  split
  · exact (PermP.ident n).bh h.1 h.2
  · exact (PermP.half n).bh h.1 h.2
theorem rawM_all {n : Nat} {word : List Int} (h : LettN n word) : AllP n (rawM n word).2 := by
  have key : ∀ (w : List Int) (s : Int × List (List Int)), LettN n w → AllP n s.2 → AllP n (w.foldl (rawStep n) s).2 := by
    intro w
    induction w with
    | nil => intro s _ h; exact h
    | cons x w ih =>
      intro s hw hs
      refine ih _ (fun y hy => hw y (by simp [hy])) ?_
      have hx : PermP n (lettP n x) := PermP.lettP (hw x (by simp))
      unfold rawStep
      split
      · exact hs.app (fun p hp => by rw [List.mem_singleton.1 hp]; exact hx)
      · exact hs.map_flip.app (fun p hp => by rw [List.mem_singleton.1 hp]; exact hx)
  exact key word _ h (fun p hp => by simp at hp)
theorem rawM_snoc (n : Nat) (word : List Int) (x : Int) : rawM n (word ++ [x]) = rawStep n (rawM n word) x := by unfold rawM; rw [List.foldl_append]; rfl
end Go.Proofs.Ytplabnjdhkmmkaa
end
section
set_option linter.unusedSimpArgs false
set_option linter.unusedVariables false
namespace Go.Proofs.Ytplabnjdhkmmkaa
open Go.ChangeShapes Go.WideShapes Go.ChangeAt Go.RowKit
/-- one letter more, or one less -/
def redStep (out : List Int) (k : Int) : List Int := if out.getLast? = some (-k) then out.dropLast else out ++ [k]
def redM (ws : List Int) : List Int := ws.foldl redStep []
theorem redM_take {ws : List Int} {j : Nat} (h : j < ws.length) : redM (ws.take (j + 1)) = redStep (redM (ws.take j)) ws[j] := by
  unfold redM
  rw [List.take_succ_eq_append_getElem h, List.foldl_append]
  rfl
theorem redStep_len (out : List Int) (k : Int) : (redStep out k).length ≤ out.length + 1 := by
  unfold redStep
  split
  · simp; omega
  · simp
theorem redStep_mem {out : List Int} {k x : Int} (h : x ∈ redStep out k) : x ∈ out ∨ x = k := by
  unfold redStep at h
  split at h
  · exact .inl ((List.dropLast_sublist out).subset h)
  · rcases List.mem_append.1 h with h | h
    · exact .inl h
    · exact .inr (by simpa using h)
theorem red_foldl : ∀ (ws out : List Int), (ws.foldl redStep out).length ≤ out.length + ws.length ∧ ∀ x ∈ ws.foldl redStep out, x ∈ out ∨ x ∈ ws
  | [], out => by simp
  | k :: ws, out => by
    obtain ⟨h1, h2⟩ := red_foldl ws (redStep out k)
    have h3 := redStep_len out k
    refine ⟨by simp only [List.foldl_cons, List.length_cons]; omega, fun x hx => ?_⟩
    rcases h2 x hx with h | h
    · rcases redStep_mem h with h | h
      · exact .inl h
      · exact .inr (by simp [h])
    · exact .inr (by simp [h])
theorem redM_len (ws : List Int) : (redM ws).length ≤ ws.length := by have := (red_foldl ws []).1; simpa [redM] using this
theorem redM_mem {ws : List Int} {x : Int} (h : x ∈ redM ws) : x ∈ ws := by
  rcases (red_foldl ws []).2 x h with h | h
  · simp at h
  · exact h
end Go.Proofs.Ytplabnjdhkmmkaa
end
section
set_option linter.unusedSimpArgs false
set_option linter.unusedVariables false
namespace Go.Proofs.Ytplabnjdhkmmkaa
open Go.ChangeShapes Go.WideShapes Go.ChangeAt Go.RowKit
/-- what (f, half twist) has turned to on its way -/
structure Hv (n : Nat) (f p q : List Int) : Prop where
  hf : PermP n f
  hp : PermP n p
  hq : PermP n q
  c : ∀ j, j < n → ix q (ix p j).toNat = (n : Int) - 1 - ix f j
  i : ∀ i j, i < j → j < n → ix f j < ix f i → ix p j < ix p i
theorem Hv.step {n : Nat} {f p q : List Int} (h : Hv n f p q) : (p = halfM n ∧ q = flipP f) ∨ ∃ k, stP k q ∧ nfP k p ∧ Hv n f (bhM p k) (bfM k q) := by
  obtain ⟨hf, hp, hq, hc, hi⟩ := h
  have hl := hp.len
  have hl2 := hq.len
  by_cases e : ∃ k, 1 ≤ k ∧ k < n ∧ nfP k p
  · refine .inr ?_
    obtain ⟨k, h1, h2, i, j, h3, h4, h5, h6⟩ := e
    have c1 := hc i (by omega)
    have c2 := hc j (by omega)
    have hfi : ix f i < ix f j := by
      have hne : ix f i ≠ ix f j := fun e => by have := hf.inj i j (by omega) (by omega) e; omega
      by_cases c : ix f j < ix f i
      · have := hi i j h3 (by omega) c
        omega
      · omega
    have hs : stP k q := ⟨h1, by omega, by rw [h6, Int.toNat_natCast] at c2; rw [show (ix p i).toNat = k - 1 by omega] at c1; omega⟩
    have hnf : nfP k p := ⟨i, j, h3, h4, h5, h6⟩
    refine ⟨k, hs, hnf, hf, hp.nf hq hs, hq.st hs, fun t ht => ?_, fun a b h7 h8 h9 => ?_⟩
    · have e := comp_step hp hq hs
      have e1 : ix (compM (bhM p k) (bfM k q)) t = ix (compM p q) t := by rw [e]
      rw [ix_comp (by rw [bhM_length]; omega), ix_comp (by omega)] at e1
      rw [e1]
      exact hc t ht
    · have h10 := hi a b h7 h8 h9
      rw [ix_bh (by omega), ix_bh (by omega)]
      by_cases e : ix p b + 1 = k ∧ ix p a = k
      · have := hp.inj a j (by omega) (by omega) (by omega)
        have := hp.inj b i (by omega) (by omega) (by omega)
        omega
      · unfold swI
        repeat' split
        all_goals omega
  · refine .inl ?_
    have hpe := all_end hp fun k h1 h2 h3 => e ⟨k, h1, h2, h3⟩
    refine ⟨hpe, ext_ix (by rw [flipP_length, hl2, hf.len]) fun t ht => ?_⟩
    have c1 := hc (n - 1 - t) (by omega)
    rw [hpe, ix_half (by omega), show ((n : Int) - 1 - ((n - 1 - t : Nat) : Int)).toNat = t by omega] at c1
    rw [c1, ix_flip (by have := hf.len; omega), hf.len]
theorem Hv.runs {n : Nat} : ∀ (m : Nat) {f p q : List Int} (r : List (List Int)), invs q ≤ m → Hv n f p q → Stps (p :: q :: r) (halfM n :: flipP f :: r) := by
  intro m
  induction m with
  | zero =>
    intro f p q r hm h
    rcases h.step with ⟨e1, e2⟩ | ⟨k, h1, h2, -⟩
    · rw [e1, e2]; exact .refl _
    · have := invs_bf h1; omega
  | succ m ih =>
    intro f p q r hm h
    rcases h.step with ⟨e1, e2⟩ | ⟨k, h1, h2, h3⟩
    · rw [e1, e2]; exact .refl _
    · have := invs_bf h1
      exact .step (.here k h1 h2) (ih r (by omega) h3)
/-- the half twist moves to the front -/
theorem half_moves {n : Nat} {f : List Int} (hf : PermP n f) (r : List (List Int)) : Stps (f :: halfM n :: r) (halfM n :: flipP f :: r) :=
  Hv.runs _ r (Nat.le_refl _) ⟨hf, hf, .half n, fun j hj => by have := hf.bd j hj; rw [ix_half (by omega)]; omega, fun i j h1 h2 h3 => h3⟩
theorem half_passes {n : Nat} : ∀ {A : List (List Int)} (r : List (List Int)), AllP n A → Stps (A ++ halfM n :: r) (halfM n :: (A.map flipP ++ r))
  | [], r, _ => .refl _
  | p :: A, r, ha => (half_passes r ha.tail).there.trans (half_moves ha.head _)
def flipN : Nat → List (List Int) → List (List Int)
  | 0, A => A
  | a + 1, A => (flipN a A).map flipP
theorem flipN_all {n : Nat} {A : List (List Int)} (ha : AllP n A) : ∀ a, AllP n (flipN a A)
  | 0 => ha
  | a + 1 => (flipN_all ha a).map_flip
theorem flipN_two (A : List (List Int)) (a : Nat) : flipN (a + 2) A = flipN a A := by
  show ((flipN a A).map flipP).map flipP = _
  exact map_flipP_flipP _
theorem flipN_add (A : List (List Int)) (a b : Nat) : flipN (a + b) A = flipN b (flipN a A) := by
  induction b with
  | zero => rfl
  | succ b ih => show (flipN (a + b) A).map flipP = _; rw [ih]; rfl
theorem halfs_pass {n : Nat} {A : List (List Int)} (ha : AllP n A) (r : List (List Int)) : ∀ a, Stps (A ++ (List.replicate a (halfM n) ++ r)) (List.replicate a (halfM n) ++ (flipN a A ++ r))
  | 0 => .refl _
  | a + 1 => by
    have h1 := half_passes (List.replicate a (halfM n) ++ r) ha
    have h2 := (halfs_pass ha.map_flip r a).there (p := halfM n)
    have e : flipN a (A.map flipP) = flipN (a + 1) A := by
      rw [show A.map flipP = flipN 1 A from rfl, ← flipN_add, Nat.add_comm]
    rw [e] at h2
    exact h1.trans h2
/-- two states that come to one form -/
def Eqv (n : Nat) (P : Int) (L : List (List Int)) (P' : Int) (L' : List (List Int)) : Prop :=
  ∃ N a b a' b', Stps L (List.replicate a (halfM n) ++ (N ++ List.replicate b (identM n))) ∧ Stps L' (List.replicate a' (halfM n) ++ (N ++ List.replicate b' (identM n))) ∧ P + a = P' + a'
theorem Eqv.refl (n : Nat) (P : Int) (L : List (List Int)) : Eqv n P L P L := ⟨L, 0, 0, 0, 0, by simpa using Stps.refl L, by simpa using Stps.refl L, rfl⟩
theorem Eqv.symm {n : Nat} {P P' : Int} {L L' : List (List Int)} (h : Eqv n P L P' L') : Eqv n P' L' P L :=
  let ⟨N, a, b, a', b', h1, h2, h3⟩ := h; ⟨N, a', b', a, b, h2, h1, h3.symm⟩
theorem Eqv.runs {n : Nat} (P : Int) {L L' : List (List Int)} (h : Stps L L') : Eqv n P L P L' := ⟨L', 0, 0, 0, 0, by simpa using h, by simpa using Stps.refl L', rfl⟩
theorem Eqv.snoc {n : Nat} {P P' : Int} {L L' : List (List Int)} {x : List Int} (h : Eqv n P L P' L') (hx : PermP n x) : Eqv n P (L ++ [x]) P' (L' ++ [x]) := by
  obtain ⟨N, a, b, a', b', h1, h2, h3⟩ := h
  have key : ∀ {L : List (List Int)} {a b : Nat}, Stps L (List.replicate a (halfM n) ++ (N ++ List.replicate b (identM n))) → Stps (L ++ [x]) (List.replicate a (halfM n) ++ ((N ++ [x]) ++ List.replicate b (identM n))) := fun {L a b} h => by
    have s1 := h.right [x]
    rw [List.append_assoc, List.append_assoc] at s1
    have s2 := ((idents_move hx b).left N).left (List.replicate a (halfM n))
    rw [List.append_assoc]
    exact s1.trans s2
  exact ⟨N ++ [x], a, b, a', b', key h1, key h2, h3⟩
theorem Eqv.flip {n : Nat} {P P' : Int} {L L' : List (List Int)} (h : Eqv n P L P' L') (ha : AllP n L) (ha' : AllP n L') (d : Int) : Eqv n (P + d) (L.map flipP) (P' + d) (L'.map flipP) := by
  obtain ⟨N, a, b, a', b', h1, h2, h3⟩ := h
  have e : ∀ a b : Nat, (List.replicate a (halfM n) ++ (N ++ List.replicate b (identM n))).map flipP = List.replicate a (halfM n) ++ (N.map flipP ++ List.replicate b (identM n)) := fun a b => by
    rw [List.map_append, List.map_append, map_rep (flip_half n), map_rep (flip_ident n)]
  exact ⟨N.map flipP, a, b, a', b', by rw [← e]; exact h1.flip ha, by rw [← e]; exact h2.flip ha', by omega⟩
theorem Eqv.nf {n : Nat} (hn : 2 ≤ n) {P P' : Int} {L L' : List (List Int)} (h : Eqv n P L P' L') (ha : AllP n L) (ha' : AllP n L') : nfP' n P L = nfP' n P' L' ∧ nfF n L = nfF n L' := by
  obtain ⟨N, a, b, a', b', h1, h2, h3⟩ := h
  have hN : AllP n N := fun p hp => h1.allP ha p (by simp [hp])
  obtain ⟨T, t1, t2⟩ := settles _ (Nat.le_refl _) hN
  obtain ⟨c, F, d, hd⟩ := dec hn (t1.allP hN) t2
  have key : ∀ {L : List (List Int)} {P : Int} {a b : Nat}, AllP n L → Stps L (List.replicate a (halfM n) ++ (N ++ List.replicate b (identM n))) → nfP' n P L = P + a + c ∧ nfF n L = F := fun {L P a b} ha h => by
    have e : List.replicate a (halfM n) ++ (T ++ List.replicate b (identM n)) = List.replicate (a + c) (halfM n) ++ (F ++ List.replicate (d + b) (identM n)) := by
      rw [hd.eq, ← List.replicate_append_replicate, ← List.replicate_append_replicate]
      simp only [List.append_assoc]
    have s := h.trans ((t1.right (List.replicate b (identM n))).left (List.replicate a (halfM n)))
    have g : Gar n P L (P + (a + c : Nat)) F := ⟨ha, ⟨a + c, d + b, by rw [← e]; exact s, rfl, by rw [← e]; exact Term.halfs (t2.idents b) a⟩, hd.ne⟩
    obtain ⟨g1, g2⟩ := g.nf hn
    exact ⟨by rw [g1]; omega, g2⟩
  obtain ⟨k1, k2⟩ := key (P := P) ha h1
  obtain ⟨k3, k4⟩ := key (P := P') ha' h2
  exact ⟨by rw [k1, k3]; omega, by rw [k2, k4]⟩
theorem Eqv.of_nf {n : Nat} (hn : 2 ≤ n) {P P' : Int} {L L' : List (List Int)} (ha : AllP n L) (ha' : AllP n L') (h1 : nfP' n P L = nfP' n P' L') (h2 : nfF n L = nfF n L') : Eqv n P L P' L' := by
  obtain ⟨T, t1, t2⟩ := settles _ (Nat.le_refl _) ha
  obtain ⟨T', t1', t2'⟩ := settles _ (Nat.le_refl _) ha'
  obtain ⟨c, F, d, hd⟩ := dec hn (t1.allP ha) t2
  obtain ⟨c', F', d', hd'⟩ := dec hn (t1'.allP ha') t2'
  unfold nfP' nfF at *
  rw [settleM_eq ha t1 t2, settleM_eq ha' t1' t2', hd.halfs hn, hd'.halfs hn] at h1
  rw [settleM_eq ha t1 t2, settleM_eq ha' t1' t2', hd.pure, hd'.pure] at h2
  subst h2
  exact ⟨F, c, d, c', d', by rw [← hd.eq]; exact t1, by rw [← hd'.eq]; exact t1', h1⟩
theorem Eqv.trans {n : Nat} (hn : 2 ≤ n) {P P' P'' : Int} {L L' L'' : List (List Int)} (ha : AllP n L) (ha' : AllP n L') (ha'' : AllP n L'') (h : Eqv n P L P' L') (k : Eqv n P' L' P'' L'') : Eqv n P L P'' L'' := by
  obtain ⟨h1, h2⟩ := h.nf hn ha ha'
  obtain ⟨h3, h4⟩ := k.nf hn ha' ha''
  exact .of_nf hn ha ha'' (h1.trans h3) (h2.trans h4)
/-- words that mean the same braid -/
def WEq (n : Nat) (u v : List Int) : Prop := Eqv n (rawM n u).1 (rawM n u).2 (rawM n v).1 (rawM n v).2
theorem WEq.refl (n : Nat) (u : List Int) : WEq n u u := Eqv.refl _ _ _
theorem WEq.symm {n : Nat} {u v : List Int} (h : WEq n u v) : WEq n v u := Eqv.symm h
theorem WEq.trans {n : Nat} (hn : 2 ≤ n) {u v x : List Int} (hu : LettN n u) (hv : LettN n v) (hx : LettN n x) (h : WEq n u v) (k : WEq n v x) : WEq n u x :=
  Eqv.trans hn (rawM_all hu) (rawM_all hv) (rawM_all hx) h k
theorem LettN.left {n : Nat} {u v : List Int} (h : LettN n (u ++ v)) : LettN n u := fun x hx => h x (List.mem_append.2 (.inl hx))
theorem LettN.right {n : Nat} {u v : List Int} (h : LettN n (u ++ v)) : LettN n v := fun x hx => h x (List.mem_append.2 (.inr hx))
theorem LettN.app {n : Nat} {u v : List Int} (h : LettN n u) (k : LettN n v) : LettN n (u ++ v) := fun x hx => (List.mem_append.1 hx).elim (h x) (k x)
theorem WEq.snoc {n : Nat} {u v : List Int} {x : Int} (h : WEq n u v) (hu : LettN n u) (hv : LettN n v) (hx : 1 ≤ x.natAbs ∧ x.natAbs < n) : WEq n (u ++ [x]) (v ++ [x]) := by
  unfold WEq at *
  rw [rawM_snoc, rawM_snoc]
  unfold rawStep
  split
  · exact h.snoc (PermP.lettP hx)
  · exact (Eqv.flip h (rawM_all hu) (rawM_all hv) (-1)).snoc (PermP.lettP hx)
theorem WEq.right {n : Nat} {u v : List Int} (w : List Int) (h : WEq n u v) (hu : LettN n u) (hv : LettN n v) (hw : LettN n w) : WEq n (u ++ w) (v ++ w) := by
  induction w generalizing u v with
  | nil => simpa using h
  | cons x w ih =>
    have hx := hw x (by simp)
    have h1 := h.snoc hu hv hx
    have s : LettN n [x] := fun y hy => by rw [List.mem_singleton.1 hy]; exact hx
    have := ih h1 (hu.app s) (hv.app s) (fun y hy => hw y (by simp [hy]))
    simpa using this
/-- a letter and its inverse -/
theorem WEq.cancel {n : Nat} {u : List Int} {x : Int} (hu : LettN n u) (hx : 1 ≤ x.natAbs ∧ x.natAbs < n) : WEq n (u ++ [x, -x]) u := by
  have e : u ++ [x, -x] = (u ++ [x]) ++ [-x] := by simp
  unfold WEq
  rw [e, rawM_snoc, rawM_snoc]
  have hL := rawM_all hu
  generalize rawM n u = s at hL
  obtain ⟨P, L⟩ := s
  obtain ⟨k, hk⟩ : ∃ k, k = x.natAbs := ⟨_, rfl⟩
  have hk' : (-x).natAbs = k := by omega
  rw [← hk] at hx
  obtain ⟨hx1, hx2⟩ := hx
  have fin : ∀ {p q : List Int}, PermP n p → PermP n q → Red p q → compM p q = halfM n → Eqv n (P - 1) (L.map flipP ++ [p, q]) P L := fun {p q} hp hq hr hc => by
    have s1 := (joins _ [] (Nat.le_refl _) hp hq hr).left (L.map flipP)
    rw [hc] at s1
    have s2 := half_passes [identM n] hL.map_flip
    rw [map_flipP_flipP] at s2
    exact ⟨L, 1, 1, 0, 0, s1.trans s2, by simpa using Stps.refl L, by omega⟩
  by_cases hp : 0 < x
  · have e1 : rawStep n (P, L) x = (P, L ++ [bhM (identM n) k]) := by unfold rawStep lettP; rw [if_pos hp, if_pos hp, hk]
    have e2 : ∀ s : Int × List (List Int), rawStep n s (-x) = (s.1 - 1, s.2.map flipP ++ [bhM (halfM n) k]) := fun s => by unfold rawStep lettP; rw [if_neg (by omega), if_neg (by omega), hk']
    rw [e1, e2]
    show Eqv n (P - 1) ((L ++ [bhM (identM n) k]).map flipP ++ [bhM (halfM n) k]) P L
    rw [List.map_append, List.map_cons, List.map_nil, List.append_assoc]
    have hid := (PermP.ident n).bh hx1 hx2
    have hha := (PermP.half n).bh hx1 hx2
    have fl : ∀ j, j < n → ix (flipP (bhM (identM n) k)) j = (n : Int) - 1 - swI k ((n - 1 - j : Nat) : Int) := fun j hj => by
      rw [ix_flip (by rw [hid.len]; exact hj), hid.len, ix_bh (by rw [identM_length]; omega), ix_ident (by omega)]
    have cc : ∀ j, j < n → ix (bhM (halfM n) k) (ix (flipP (bhM (identM n) k)) j).toNat = (n : Int) - 1 - j := fun j hj => by
      have hb := swI_bd (k := k) (n := n) (x := ((n - 1 - j : Nat) : Int)) hx1 hx2 (by omega)
      rw [fl j hj, ix_bh (by rw [halfM_length]; omega), ix_half (by omega)]
      have : (n : Int) - 1 - (((n : Int) - 1 - swI k ((n - 1 - j : Nat) : Int)).toNat : Int) = swI k ((n - 1 - j : Nat) : Int) := by omega
      rw [this, swI_swI]
      omega
    refine fin hid.flip hha (fun i j h1 h2 h3 => ?_) (ext_ix (by rw [compM_length, flipP_length, hid.len, halfM_length]) fun j hj => ?_)
    · rw [flipP_length, hid.len] at h2
      rw [cc i (by omega), cc j h2]
      omega
    · rw [compM_length, flipP_length, hid.len] at hj
      rw [ix_comp (by rw [flipP_length, hid.len]; exact hj), cc j hj, ix_half hj]
  · have e1 : rawStep n (P, L) x = (P - 1, L.map flipP ++ [bhM (halfM n) k]) := by unfold rawStep lettP; rw [if_neg hp, if_neg hp, hk]
    have e2 : ∀ s : Int × List (List Int), rawStep n s (-x) = (s.1, s.2 ++ [bhM (identM n) k]) := fun s => by unfold rawStep lettP; rw [if_pos (by omega), if_pos (by omega), hk']
    rw [e1, e2]
    show Eqv n (P - 1) ((L.map flipP ++ [bhM (halfM n) k]) ++ [bhM (identM n) k]) P L
    rw [List.append_assoc]
    have hid := (PermP.ident n).bh hx1 hx2
    have hha := (PermP.half n).bh hx1 hx2
    have cc : ∀ j, j < n → ix (bhM (identM n) k) (ix (bhM (halfM n) k) j).toNat = (n : Int) - 1 - j := fun j hj => by
      have hb := swI_bd (k := k) (n := n) (x := (n : Int) - 1 - j) hx1 hx2 (by omega)
      rw [ix_bh (p := halfM n) (by rw [halfM_length]; omega), ix_half hj, ix_bh (by rw [identM_length]; omega), ix_ident (by omega)]
      rw [show ((swI k ((n : Int) - 1 - j)).toNat : Int) = swI k ((n : Int) - 1 - j) by omega, swI_swI]
    refine fin hha hid (fun i j h1 h2 h3 => ?_) (ext_ix (by rw [compM_length, bhM_length, halfM_length]) fun j hj => ?_)
    · rw [bhM_length, halfM_length] at h2
      rw [cc i (by omega), cc j h2]
      omega
    · rw [compM_length, bhM_length, halfM_length] at hj
      rw [ix_comp (by rw [bhM_length, halfM_length]; exact hj), cc j hj, ix_half hj]
/-- what is reduced means the same -/
theorem WEq.red {n : Nat} (hn : 2 ≤ n) {u : List Int} (hu : LettN n u) : LettN n (redM u) ∧ WEq n (redM u) u := by
  have key : ∀ (w : List Int) (o a : List Int), LettN n w → LettN n o → LettN n a → WEq n o a → LettN n (w.foldl redStep o) ∧ WEq n (w.foldl redStep o) (a ++ w) := by
    intro w
    induction w with
    | nil => intro o a _ ho _ h; exact ⟨ho, by simpa using h⟩
    | cons x w ih =>
      intro o a hw ho ha h
      have hx := hw x (by simp)
      have s : LettN n [x] := fun y hy => by rw [List.mem_singleton.1 hy]; exact hx
      have h1 := h.snoc ho ha hx
      have hox : LettN n (redStep o x) ∧ WEq n (redStep o x) (o ++ [x]) := by
        unfold redStep
        split
        · rename_i hl
          have hd : o = o.dropLast ++ [-x] := by
            have hne : o ≠ [] := fun e => by rw [e] at hl; simp at hl
            rw [List.getLast?_eq_some_getLast hne, Option.some.injEq] at hl
            rw [← hl]; exact (List.dropLast_concat_getLast hne).symm
          have hdl : LettN n o.dropLast := fun y hy => ho y (List.dropLast_subset _ hy)
          refine ⟨hdl, ?_⟩
          have h2 := WEq.cancel (x := -x) hdl (by omega)
          rw [Int.neg_neg] at h2
          have e : o ++ [x] = o.dropLast ++ [-x, x] := by
            conv => lhs; rw [hd]
            simp
          rw [e]
          exact h2.symm
        · exact ⟨ho.app s, WEq.refl _ _⟩
      have := ih (redStep o x) (a ++ [x]) (fun y hy => hw y (by simp [hy])) hox.1 (ha.app s) (WEq.trans hn hox.1 (ho.app s) (ha.app s) hox.2 h1)
      simpa using this
  have := key u [] [] hu (fun y hy => by simp at hy) (fun y hy => by simp at hy) (WEq.refl _ _)
  simpa [redM] using this
end Go.Proofs.Ytplabnjdhkmmkaa
end
section
set_option linter.unusedSimpArgs false
set_option linter.unusedVariables false
namespace Go.Proofs.Ytplabnjdhkmmkaa
open Go.ChangeShapes Go.WideShapes Go.ChangeAt Go.RowKit
/-- how many letters are negative -/
def negs : List Int → Nat
  | [] => 0
  | x :: w => (if 0 < x then 0 else 1) + negs w
theorem rawM_fold (n : Nat) (u : List Int) : ∀ s : Int × List (List Int), u.foldl (rawStep n) s = (s.1 - negs u, flipN (negs u) s.2 ++ (rawM n u).2) := by
  have key : ∀ (u : List Int) (s : Int × List (List Int)) (t : Int × List (List Int)) (A : List (List Int)), s.2 = A ++ t.2 → u.foldl (rawStep n) s = (s.1 - negs u, flipN (negs u) A ++ (u.foldl (rawStep n) t).2) := by
    intro u
    induction u with
    | nil => intro s t A h; simp [negs, flipN, ← h]
    | cons x u ih =>
      intro s t A h
      rw [List.foldl_cons, List.foldl_cons]
      by_cases hx : 0 < x
      · have e : ∀ s, rawStep n s x = (s.1, s.2 ++ [lettP n x]) := fun s => by unfold rawStep; rw [if_pos hx]
        rw [ih (rawStep n s x) (rawStep n t x) A (by rw [e, e, h, List.append_assoc])]
        rw [e s]
        simp only [negs, if_pos hx, Nat.zero_add]
      · have e : ∀ s, rawStep n s x = (s.1 - 1, s.2.map flipP ++ [lettP n x]) := fun s => by unfold rawStep; rw [if_neg hx]
        rw [ih (rawStep n s x) (rawStep n t x) (A.map flipP) (by rw [e, e, h, List.map_append, List.append_assoc])]
        rw [e s]
        simp only [negs, if_neg hx]
        have e2 : flipN (negs u) (A.map flipP) = flipN (1 + negs u) A := by
          rw [flipN_add]; rfl
        rw [e2]
        congr 1
        omega
  intro s
  exact key u s (0, []) s.2 (by simp)
theorem rawM_app (n : Nat) (w u : List Int) : rawM n (w ++ u) = ((rawM n w).1 - negs u, flipN (negs u) (rawM n w).2 ++ (rawM n u).2) := by
  unfold rawM
  rw [List.foldl_append, rawM_fold]
  rfl
theorem rawM_fst (n : Nat) (u : List Int) : (rawM n u).1 = - (negs u : Int) := by
  have := rawM_fold n u (0, [])
  have e : rawM n u = u.foldl (rawStep n) (0, []) := rfl
  rw [e, this]
  simp
theorem flipN_parity (A : List (List Int)) : ∀ (a b : Nat), a % 2 = b % 2 → flipN a A = flipN b A := by
  have key : ∀ a : Nat, flipN a A = flipN (a % 2) A := by
    intro a
    induction a using Nat.strongRecOn with
    | ind a ih =>
      by_cases h : a < 2
      · rw [Nat.mod_eq_of_lt h]
      · obtain ⟨b, rfl⟩ : ∃ b, a = b + 2 := ⟨a - 2, by omega⟩
        rw [flipN_two, ih b (by omega), Nat.add_mod_right]
  intro a b h
  rw [key a, key b, h]
/-- the same ahead of both -/
theorem WEq.left {n : Nat} {u v : List Int} (w : List Int) (h : WEq n u v) (hw : LettN n w) : WEq n (w ++ u) (w ++ v) := by
  obtain ⟨N, a, b, a', b', h1, h2, h3⟩ := h
  rw [rawM_fst, rawM_fst] at h3
  have hA := rawM_all hw
  unfold WEq
  rw [rawM_app, rawM_app]
  generalize rawM n w = s at hA
  obtain ⟨P, A⟩ := s
  have key : ∀ {u : List Int} {a b : Nat}, Stps (rawM n u).2 (List.replicate a (halfM n) ++ (N ++ List.replicate b (identM n))) → Stps (flipN (negs u) A ++ (rawM n u).2) (List.replicate a (halfM n) ++ ((flipN (negs u + a) A ++ N) ++ List.replicate b (identM n))) := fun {u a b} h => by
    have s1 := h.left (flipN (negs u) A)
    have s2 := halfs_pass (flipN_all hA (negs u)) (N ++ List.replicate b (identM n)) a
    rw [← flipN_add] at s2
    rw [List.append_assoc]
    exact s1.trans s2
  have k1 := key h1
  have k2 := key h2
  rw [flipN_parity A (negs u + a) (negs v + a') (by omega)] at k1
  refine ⟨_, a, b, a', b', k1, k2, ?_⟩
  show P - negs u + a = P - negs v + a'
  omega
theorem rawM_two {n : Nat} {k l : Nat} (hk : 1 ≤ k) (hl : 1 ≤ l) : rawM n [(k : Int), (l : Int)] = (0, [bhM (identM n) k, bhM (identM n) l]) := by
  have e : ∀ (k : Nat) (s : Int × List (List Int)), 1 ≤ k → rawStep n s (k : Int) = (s.1, s.2 ++ [bhM (identM n) k]) := fun k s hk => by unfold rawStep lettP; rw [if_pos (by omega), if_pos (by omega), Int.natAbs_natCast]
  show rawStep n (rawStep n (0, []) (k : Int)) (l : Int) = _
  rw [e k _ hk, e l _ hl]
  rfl
theorem rawM_three {n : Nat} {k l m : Nat} (hk : 1 ≤ k) (hl : 1 ≤ l) (hm : 1 ≤ m) : rawM n [(k : Int), (l : Int), (m : Int)] = (0, [bhM (identM n) k, bhM (identM n) l, bhM (identM n) m]) := by
  have e : ∀ (k : Nat) (s : Int × List (List Int)), 1 ≤ k → rawStep n s (k : Int) = (s.1, s.2 ++ [bhM (identM n) k]) := fun k s hk => by unfold rawStep lettP; rw [if_pos (by omega), if_pos (by omega), Int.natAbs_natCast]
  show rawStep n (rawStep n (rawStep n (0, []) (k : Int)) (l : Int)) (m : Int) = _
  rw [e k _ hk, e l _ hl, e m _ hm]
  rfl
theorem ix_let {n k j : Nat} (hj : j < n) : ix (bhM (identM n) k) j = swI k j := by rw [ix_bh (by rw [identM_length]; exact hj), ix_ident hj]
/-- letter behind a permutation that it does not end -/
theorem join_let {n k : Nat} {p : List Int} (hp : PermP n p) (hk : 1 ≤ k) (hk2 : k < n) (h : nfP k p) (r : List (List Int)) : Stps (p :: bhM (identM n) k :: r) (bhM p k :: identM n :: r) := by
  have hl := hp.len
  have e : compM p (bhM (identM n) k) = bhM p k := by
    refine ext_ix (by rw [compM_length, bhM_length]) fun j hj => ?_
    rw [compM_length] at hj
    have := hp.bd j (by omega)
    rw [ix_comp hj, ix_let (by omega), ix_bh hj, Int.toNat_of_nonneg this.1]
  have := joins _ r (Nat.le_refl _) hp ((PermP.ident n).bh hk hk2) (fun i j h1 h2 h3 => ?_)
  · rwa [e] at this
  · have b1 := hp.bd i (by omega)
    have b2 := hp.bd j (by omega)
    rw [ix_let (by omega), ix_let (by omega), Int.toNat_of_nonneg b1.1, Int.toNat_of_nonneg b2.1]
    by_cases c : ix p j + 1 = k ∧ ix p i = k
    · obtain ⟨a, b, h4, h5, h6, h7⟩ := h
      have := hp.inj a j (by omega) (by omega) (by omega)
      have := hp.inj b i (by omega) (by omega) (by omega)
      omega
    · unfold swI
      repeat' split
      all_goals omega
theorem nf_let {n k l : Nat} (hl : 1 ≤ l) (hl2 : l < n) (hk : 1 ≤ k) (hk2 : k < n) (h : l ≠ k) : nfP l (bhM (identM n) k) := by
  by_cases c : k + 1 < l ∨ l + 1 < k
  · exact nf_far c (nf_ident hl hl2)
  · by_cases d : l = k + 1
    · subst d
      exact (nf_adj (PermP.ident n) (nf_ident hk hk2) (nf_ident hl hl2)).1
    · obtain rfl : k = l + 1 := by omega
      exact (nf_adj (PermP.ident n) (nf_ident hl hl2) (nf_ident hk hk2)).2.2.1
theorem WEq.far {n k l : Nat} (hk : 1 ≤ k) (hk2 : k < n) (hl : 1 ≤ l) (hl2 : l < n) (h : k + 1 < l ∨ l + 1 < k) : WEq n [(k : Int), (l : Int)] [(l : Int), (k : Int)] := by
  unfold WEq
  rw [rawM_two hk hl, rawM_two hl hk]
  have s1 := join_let ((PermP.ident n).bh hk hk2) hl hl2 (nf_let hl hl2 hk hk2 (by omega)) []
  have s2 := join_let ((PermP.ident n).bh hl hl2) hk hk2 (nf_let hk hk2 hl hl2 (by omega)) []
  rw [bh_comm h] at s1
  exact ⟨[bhM (bhM (identM n) l) k], 0, 1, 0, 1, s1, s2, rfl⟩
theorem WEq.braid {n k : Nat} (hk : 1 ≤ k) (hk2 : k + 1 < n) : WEq n [(k : Int), ((k + 1 : Nat) : Int), (k : Int)] [((k + 1 : Nat) : Int), (k : Int), ((k + 1 : Nat) : Int)] := by
  unfold WEq
  rw [rawM_three hk (by omega) hk, rawM_three (by omega) hk (by omega)]
  have hid := PermP.ident n
  have h1 := hid.bh hk (by omega : k < n)
  have h2 := hid.bh (by omega : 1 ≤ k + 1) hk2
  obtain ⟨f1, f2, f3, f4⟩ := nf_adj hid (nf_ident hk (by omega : k < n)) (nf_ident (by omega : 1 ≤ k + 1) hk2)
  have s1 := join_let h1 (by omega) hk2 f1 [bhM (identM n) k]
  have s2 := (ident_moves h1 []).there (p := bhM (bhM (identM n) k) (k + 1))
  have s3 := join_let (h1.bh (by omega) hk2) hk (by omega) f2 [identM n]
  have t1 := join_let h2 hk (by omega) f3 [bhM (identM n) (k + 1)]
  have t2 := (ident_moves h2 []).there (p := bhM (bhM (identM n) (k + 1)) k)
  have t3 := join_let (h2.bh hk (by omega)) (by omega) hk2 f4 [identM n]
  rw [bh_braid] at s3
  exact ⟨[bhM (bhM (bhM (identM n) (k + 1)) k) (k + 1)], 0, 2, 0, 2, s1.trans (s2.trans s3), t1.trans (t2.trans t3), rfl⟩
end Go.Proofs.Ytplabnjdhkmmkaa
end
section
set_option linter.unusedSimpArgs false
set_option linter.unusedVariables false
namespace Go.Proofs.Ytplabnjdhkmmkaa
open Go.ChangeShapes Go.WideShapes Go.ChangeAt Go.RowKit
/-- a list whose first j places have been filled anew -/
def fillP (f : Nat → Int) (p : List Int) (j : Nat) : List Int := (List.range p.length).map fun t => if t < j then f t else ix p t
theorem fillP_length (f : Nat → Int) (p : List Int) (j : Nat) : (fillP f p j).length = p.length := by simp [fillP]
theorem ix_fillP {f : Nat → Int} {p : List Int} {j t : Nat} (h : t < p.length) : ix (fillP f p j) t = if t < j then f t else ix p t := by
  rw [ix_eq (by rw [fillP_length]; exact h)]
  simp [fillP]
theorem fillP_zero (f : Nat → Int) (p : List Int) : fillP f p 0 = p := by
  refine ext_ix (fillP_length _ _ _) fun j hj => ?_
  rw [fillP_length] at hj
  rw [ix_fillP hj, if_neg (by omega)]
theorem fillP_set {f : Nat → Int} {p : List Int} {j : Nat} (hj : j < p.length) : (fillP f p j).set j (f j) = fillP f p (j + 1) := by
  refine ext_ix (by rw [List.length_set, fillP_length, fillP_length]) fun t ht => ?_
  rw [List.length_set, fillP_length] at ht
  rw [ix_set (by rw [fillP_length]; exact hj), ix_fillP ht, ix_fillP ht]
  by_cases h : t = j
  · subst h; rw [if_pos rfl, if_pos (by omega)]
  · rw [if_neg h]
    by_cases h2 : t < j
    · rw [if_pos h2, if_pos (by omega)]
    · rw [if_neg h2, if_neg (by omega)]
theorem fillP_skip {f : Nat → Int} {p : List Int} {j : Nat} (hj : j < p.length) (h : f j = ix p j) : fillP f p j = fillP f p (j + 1) := by
  refine ext_ix (by rw [fillP_length, fillP_length]) fun t ht => ?_
  rw [fillP_length] at ht
  rw [ix_fillP ht, ix_fillP ht]
  by_cases e : t = j
  · subst e; rw [if_neg (by omega), if_pos (by omega), h]
  · by_cases h2 : t < j
    · rw [if_pos h2, if_pos (by omega)]
    · rw [if_neg h2, if_neg (by omega)]
theorem fillP_all (f : Nat → Int) (p : List Int) : fillP f p p.length = (List.range p.length).map f := by
  unfold fillP
  refine List.map_congr_left fun t ht => ?_
  rw [if_pos (List.mem_range.1 ht)]
theorem fill_bh (p : List Int) (k : Nat) : (List.range p.length).map (fun t => swI k (ix p t)) = bhM p k := by
  refine ext_ix (by simp [bhM_length]) fun t ht => ?_
  have ht : t < p.length := by simpa using ht
  rw [ix_bh ht, ix_eq (by simpa using ht)]
  simp
theorem fill_comp (p q : List Int) : (List.range p.length).map (fun t => ix q (ix p t).toNat) = compM p q := by
  refine ext_ix (by simp [compM_length]) fun t ht => ?_
  have ht : t < p.length := by simpa using ht
  rw [ix_comp ht, ix_eq (by simpa using ht)]
  simp
theorem set_bf {q : List Int} {k : Nat} (h1 : 1 ≤ k) (h2 : k < q.length) : (q.set (k - 1) (ix q k)).set k (ix q (k - 1)) = bfM k q := by
  refine ext_ix (by rw [List.length_set, List.length_set, bfM_length]) fun t ht => ?_
  rw [List.length_set, List.length_set] at ht
  rw [ix_set (by rw [List.length_set]; exact h2), ix_set (by omega), ix_bf ht]
  by_cases e : t = k
  · subst e; rw [if_pos rfl, sw_hi]
  · rw [if_neg e]
    by_cases e2 : t = k - 1
    · rw [if_pos e2, sw_lo (by omega)]
    · rw [if_neg e2, sw_ne (by omega) e]
theorem set_ident {n k : Nat} (h1 : 1 ≤ k) (h2 : k < n) : ((identM n).set (k - 1) (k : Int)).set k ((k : Int) - 1) = bhM (identM n) k := by
  have hl := identM_length n
  refine ext_ix (by rw [List.length_set, List.length_set, bhM_length]) fun t ht => ?_
  rw [List.length_set, List.length_set, hl] at ht
  rw [ix_set (by rw [List.length_set, hl]; exact h2), ix_set (by rw [hl]; omega), ix_let ht]
  by_cases e : t = k
  · subst e; rw [if_pos rfl, swI_hi rfl]
  · rw [if_neg e]
    by_cases e2 : t = k - 1
    · rw [if_pos e2, swI_lo (by omega)]
    · rw [if_neg e2, ix_ident ht, swI_ne (by omega) (by omega)]
theorem comp_half {n k : Nat} (h1 : 1 ≤ k) (h2 : k < n) : compM (halfM n) (bhM (identM n) k) = bhM (halfM n) k := by
  refine ext_ix (by rw [compM_length, bhM_length]) fun t ht => ?_
  rw [compM_length, halfM_length] at ht
  rw [ix_comp (by rw [halfM_length]; exact ht), ix_bh (p := halfM n) (by rw [halfM_length]; exact ht), ix_half ht, ix_let (by omega)]
  congr 1
  omega
/-- what the world's cells hold -/
def readI (w : World) (b n : Nat) : List Int := (List.range n).map fun j => match w.cell? ⟨b, j, none⟩ with | some (.int _ x) => x | _ => 0
theorem Ints.readI {w : World} {S : Nat → Prop} {b k : Nat} {xs : List Int} (h : Ints w S (.slice (some ⟨b, 0, none⟩) xs.length k) xs) : readI w b xs.length = xs := by
  obtain ⟨A, c, he, -, -, -, hr, -⟩ := h
  refine List.ext_getElem (by simp [Go.Proofs.Ytplabnjdhkmmkaa.readI]) fun j h1 h2 => ?_
  obtain ⟨b', o, hA, -, -, hc⟩ := hr (by omega)
  obtain ⟨rfl, rfl⟩ : some (⟨b, 0, none⟩ : Addr) = A ∧ k = c := by simpa using he
  obtain ⟨rfl, rfl⟩ : b = b' ∧ 0 = o := by simpa using hA
  have := (hc j h2).1
  rw [Nat.zero_add] at this
  simp [Go.Proofs.Ytplabnjdhkmmkaa.readI, this]
/-- two neighbours have been weighed -/
structure Wgh (n : Nat) (p q p' q' : List Int) : Prop where
  pp : PermP n p'
  pq : PermP n q'
  done : extraM p' q' = 0
  run : ∀ r, Stps (p :: q :: r) (p' :: q' :: r)
  same : extraM p q = 0 → p' = p ∧ q' = q
  less : extraM p q ≠ 0 → invs q' < invs q
theorem Stps.mu_le {n : Nat} {A B : List (List Int)} (h : Stps A B) : AllP n A → A = B ∨ mu 0 B < mu 0 A := by
  induction h with
  | refl => intro _; exact .inl rfl
  | step h k ih =>
    intro ha
    have h1 := h.mu ha 0
    rcases ih (h.allP ha) with e | e
    · subst e; exact .inr (by omega)
    · exact .inr (by omega)
def fac2 (L : List (List Int)) (i : Nat) : List Int := L.getD i []
theorem fac2_eq {L : List (List Int)} {i : Nat} (h : i < L.length) : fac2 L i = L[i] := by unfold fac2; simp [h]
theorem set_two {L : List (List Int)} {i : Nat} (h : i + 1 < L.length) (p' q' : List Int) : (L.set i p').set (i + 1) q' = L.take i ++ p' :: q' :: L.drop (i + 2) ∧ L = L.take i ++ fac2 L i :: fac2 L (i + 1) :: L.drop (i + 2) := by
  refine ⟨?_, ?_⟩
  · refine List.ext_getElem (by simp; omega) fun j h1 h2 => ?_
    simp only [List.length_set] at h1
    rw [List.getElem_set, List.getElem_set]
    by_cases e1 : i + 1 = j
    · subst e1
      rw [if_pos rfl, List.getElem_append_right (by simp; omega)]
      simp [Nat.min_eq_left (show i ≤ L.length by omega)]
    · rw [if_neg e1]
      by_cases e2 : i = j
      · subst e2
        rw [if_pos rfl, List.getElem_append_right (by rw [List.length_take]; omega)]
        simp [Nat.min_eq_left (show i ≤ L.length by omega)]
      · rw [if_neg e2]
        by_cases e3 : j < i
        · rw [List.getElem_append_left (by simp; omega)]; simp
        · rw [List.getElem_append_right (by simp; omega)]
          obtain ⟨d, rfl⟩ : ∃ d, j = i + 2 + d := ⟨j - i - 2, by omega⟩
          simp [Nat.min_eq_left (show i ≤ L.length by omega), show i + 2 + d - i = d + 2 by omega]
  · rw [fac2_eq (by omega), fac2_eq h, List.getElem_cons_drop, List.getElem_cons_drop, List.take_append_drop]
theorem Wgh.pass {n : Nat} {L : List (List Int)} {i : Nat} {p' q' : List Int} (hi : i + 1 < L.length) (h : Wgh n (fac2 L i) (fac2 L (i + 1)) p' q') : Stps L ((L.set i p').set (i + 1) q') := by
  obtain ⟨e1, e2⟩ := set_two hi p' q'
  rw [e1]
  conv => lhs; rw [e2]
  exact (h.run _).left _
/-- one pass over the neighbours from behind: what it has found down to place i -/
structure Pass (n : Nat) (L0 L : List (List Int)) (again : Bool) (i : Nat) : Prop where
  run : Stps L0 L
  none : again = false → L = L0 ∧ ∀ j, i ≤ j → j + 1 < L.length → extraM (fac2 L j) (fac2 L (j + 1)) = 0
  some : again = true → mu 0 L < mu 0 L0
theorem Pass.start (n : Nat) (L : List (List Int)) {i : Nat} (h : L.length ≤ i + 1) : Pass n L L false i := ⟨.refl _, fun _ => ⟨rfl, fun j h1 h2 => by omega⟩, fun h => by cases h⟩
theorem Pass.len {n : Nat} {L0 L : List (List Int)} {again : Bool} {i : Nat} (h : Pass n L0 L again i) : L.length = L0.length := by
  have key : ∀ {A B : List (List Int)}, Stp A B → B.length = A.length := by
    intro A B h
    induction h with
    | here => rfl
    | there h ih => simp [ih]
  have : ∀ {A B : List (List Int)}, Stps A B → B.length = A.length := by
    intro A B h
    induction h with
    | refl => rfl
    | step h _ ih => rw [ih, key h]
  exact this h.run
theorem Pass.next {n : Nat} {L0 L : List (List Int)} {again : Bool} {i : Nat} {p' q' : List Int} (h : Pass n L0 L again (i + 1)) (ha : AllP n L0) (hi : i + 1 < L.length) (hw : Wgh n (fac2 L i) (fac2 L (i + 1)) p' q') :
    Pass n L0 ((L.set i p').set (i + 1) q') (again || decide (extraM (fac2 L i) (fac2 L (i + 1)) ≠ 0)) i := by
  have hs := hw.pass hi
  have hAll := h.run.allP ha
  refine ⟨h.run.trans hs, fun e => ?_, fun e => ?_⟩
  · rw [Bool.or_eq_false_iff, decide_eq_false_iff_not, Decidable.not_not] at e
    obtain ⟨e1, e2⟩ := hw.same e.2
    obtain ⟨k1, k2⟩ := h.none e.1
    have hL : (L.set i p').set (i + 1) q' = L := by
      obtain ⟨s1, s2⟩ := set_two hi p' q'
      rw [s1, e1, e2]
      exact s2.symm
    rw [hL]
    refine ⟨k1, fun j h1 h2 => ?_⟩
    by_cases e3 : j = i
    · subst e3; exact e.2
    · exact k2 j (by omega) h2
  · rcases hs.mu_le hAll with e3 | e3
    · cases hag : again with
      | true => rw [← e3]; exact h.some hag
      | false =>
        rw [hag, Bool.false_or, decide_eq_true_eq] at e
        have h1 := hw.less e
        have h2 : fac2 L (i + 1) = q' := by
          have : fac2 L (i + 1) = fac2 ((L.set i p').set (i + 1) q') (i + 1) := congrArg (fun l => fac2 l (i + 1)) e3
          rw [this, fac2_eq (by simpa using hi), List.getElem_set_self]
        rw [h2] at h1
        omega
    · cases hag : again with
      | true => have := h.some hag; omega
      | false => rw [(h.none hag).1] at e3; rw [(h.none hag).1]; exact e3
theorem Pass.term {n : Nat} {L0 L : List (List Int)} (h : Pass n L0 L false 0) (ha : AllP n L0) : Term L := by
  obtain ⟨e, k⟩ := h.none rfl
  refine term_of (by rw [e]; exact ha) fun i hi => ?_
  exact k i (by omega) hi
end Go.Proofs.Ytplabnjdhkmmkaa
end
