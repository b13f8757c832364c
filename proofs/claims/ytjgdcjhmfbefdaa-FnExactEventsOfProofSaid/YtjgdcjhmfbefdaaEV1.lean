/- Marks on nested copies: cells keep their kinds. No condition. -/
import Derived.Test.YtjgdcjhmfbefdaaPermX
import Derived.Test.YtjgdcjhmfbefdaaRow5
import Derived.Test.YtjgdcjhmfbefdaaPrfA
import Derived.Laws.AppendOwnNone
import Derived.RegionTactic
import Derived.ChangeAlike
import Derived.Test.YtjgdcjhmfbefdaaNsE
import Derived.Test.YtjgdcjhmfbefdaaPermO
import Derived.Test.YtjgdcjhmfbefdaaVprM
import Derived.Test.YtjgdcjhmfbefdaaOwnS
import Derived.Deep.RegionHeld3
import Derived.Deep.RegionLaw
import Derived.Test.YtjgdcjhmfbefdaaVprP
set_option linter.unusedSimpArgs false
set_option linter.unusedVariables false
set_option maxRecDepth 100000
set_option maxHeartbeats 1000000
namespace Go.Proofs.Ytjgdcjhmfbefdaa
open Go.ChangeShapes Go.WideShapes Go.ChangeAt Go.RowKit
/-- sums of what a function is worth at the first places -/
def sumTo (f : Nat → Int) : Nat → Int
  | 0 => 0
  | n + 1 => sumTo f n + f n
theorem sumTo_same {f g : Nat → Int} : ∀ {n : Nat}, (∀ i, i < n → f i = g i) → sumTo f n = sumTo g n
  | 0, _ => rfl
  | n + 1, h => by rw [sumTo, sumTo, sumTo_same fun i hi => h i (by omega), h n (by omega)]
theorem sumTo_two {f g : Nat → Int} {k : Nat} (h : ∀ i, i ≠ k → i ≠ k + 1 → f i = g i) : ∀ {n : Nat}, k + 2 ≤ n → sumTo f n - sumTo g n = (f k - g k) + (f (k + 1) - g (k + 1)) := by
  intro n hn
  induction n with
  | zero => omega
  | succ n ih =>
    by_cases e : n = k + 1
    · subst e
      simp only [sumTo]
      have := sumTo_same (f := f) (g := g) (n := k) fun i hi => h i (by omega) (by omega)
      omega
    · have := ih (by omega)
      have := h n (by omega) (by omega)
      simp only [sumTo]
      omega
theorem sumTo_bd {f : Nat → Int} {a b : Int} : ∀ {n : Nat}, (∀ i, i < n → a ≤ f i ∧ f i ≤ b) → a * n ≤ sumTo f n ∧ sumTo f n ≤ b * n
  | 0, _ => by simp [sumTo]
  | n + 1, h => by
    have h1 := sumTo_bd (n := n) fun i hi => h i (by omega)
    have h2 := h n (by omega)
    rw [sumTo]
    have e1 : a * ((n + 1 : Nat) : Int) = a * n + a := by rw [Int.natCast_add, Int.mul_add]; simp
    have e2 : b * ((n + 1 : Nat) : Int) = b * n + b := by rw [Int.natCast_add, Int.mul_add]; simp
    omega
/-- two neighbours change places -/
def swapAt (p : List Int) (k : Nat) : List Int := (p.set k (ix p (k + 1))).set (k + 1) (ix p k)
theorem swapAt_length (p : List Int) (k : Nat) : (swapAt p k).length = p.length := by simp [swapAt]
theorem swapAt_ix {p : List Int} {k i : Nat} (hk : k + 1 < p.length) (hi : i < p.length) : ix (swapAt p k) i = if i = k + 1 then ix p k else if i = k then ix p (k + 1) else ix p i := by
  rw [ix_eq (by rw [swapAt_length]; exact hi)]
  unfold swapAt
  rw [List.getElem_set]
  by_cases h1 : k + 1 = i
  · rw [if_pos h1, if_pos h1.symm]
  · rw [if_neg h1, if_neg (fun h => h1 h.symm), List.getElem_set]
    by_cases h2 : k = i
    · rw [if_pos h2, if_pos h2.symm]
    · rw [if_neg h2, if_neg (fun h => h2 h.symm), ix_eq hi]
def wt (p : List Int) : Int := sumTo (fun i => (i : Int) * ix p i) p.length
theorem wt_swap {p : List Int} {k : Nat} (hk : k + 1 < p.length) (h : ix p (k + 1) < ix p k) : wt p < wt (swapAt p k) := by
  unfold wt
  rw [swapAt_length]
  have h1 := sumTo_two (f := fun i => (i : Int) * ix (swapAt p k) i) (g := fun i => (i : Int) * ix p i) (k := k) (fun i h1 h2 => by
    by_cases hi : i < p.length
    · rw [swapAt_ix hk hi, if_neg h2, if_neg h1]
    · have e1 : ix (swapAt p k) i = 0 := by unfold ix; rw [List.getD_eq_getElem?_getD, List.getElem?_eq_none (by rw [swapAt_length]; omega)]; rfl
      have e2 : ix p i = 0 := by unfold ix; rw [List.getD_eq_getElem?_getD, List.getElem?_eq_none (by omega)]; rfl
      rw [e1, e2]) (n := p.length) (by omega)
  rw [swapAt_ix hk (show k < p.length by omega), swapAt_ix hk hk, if_neg (by omega), if_pos rfl, if_pos rfl] at h1
  have e : ((k + 1 : Nat) : Int) = (k : Int) + 1 := by omega
  rw [e, Int.add_mul, Int.add_mul] at h1
  omega
/-- few things with small numbers -/
def Small12 (p : List Int) : Prop := p.length ≤ 12 ∧ ∀ i, i < p.length → 0 ≤ ix p i ∧ ix p i ≤ 11
theorem Small12.of_perm {p : List Int} (h : permB p = true) : Small12 p := ⟨permB_len h, fun i hi => by have h1 := permB_ix h hi; have h2 := permB_len h; omega⟩
theorem Small12.swap {p : List Int} {k : Nat} (h : Small12 p) (hk : k + 1 < p.length) : Small12 (swapAt p k) := ⟨by rw [swapAt_length]; exact h.1, fun i hi => by
  rw [swapAt_length] at hi
  rw [swapAt_ix hk hi]
  split
  · exact h.2 k (by omega)
  · split
    · exact h.2 (k + 1) hk
    · exact h.2 i hi⟩
theorem Small12.wt_bd {p : List Int} (h : Small12 p) : 0 ≤ wt p ∧ wt p ≤ 1452 := by
  have h1 := sumTo_bd (f := fun i => (i : Int) * ix p i) (a := 0) (b := 121) (n := p.length) (fun i hi => by
    have h2 := h.2 i hi
    have h3 := h.1
    refine ⟨Int.mul_nonneg (by omega) h2.1, ?_⟩
    have : (i : Int) * ix p i ≤ 11 * 11 := Int.mul_le_mul (by omega) h2.2 h2.1 (by omega)
    omega)
  have h3 := h.1
  unfold wt
  omega
/-- the place of the first inversion -/
theorem descTo_at (p : List Int) : ∀ j, ∀ x ∈ descTo p j, ∃ k : Nat, x = k ∧ k < j ∧ ix p (k + 1) < ix p k
  | 0 => by simp [descTo]
  | j + 1 => by
    intro x hx
    unfold descTo at hx
    split at hx
    · rcases List.mem_append.1 hx with h | h
      · obtain ⟨k, e, h1, h2⟩ := descTo_at p j x h
        exact ⟨k, e, by omega, h2⟩
      · simp at h
        exact ⟨j, h, by omega, by assumption⟩
    · obtain ⟨k, e, h1, h2⟩ := descTo_at p j x hx
      exact ⟨k, e, by omega, h2⟩
theorem desc_head {p : List Int} {x : Int} {r : List Int} (h : descM p = x :: r) : ∃ k : Nat, x = k ∧ k + 1 < p.length ∧ ix p (k + 1) < ix p k := by
  have hm : x ∈ descTo p (p.length - 1) := by unfold descM at h; rw [h]; simp
  obtain ⟨k, e, h1, h2⟩ := descTo_at p _ x hm
  exact ⟨k, e, by omega, h2⟩
/-- the letters that bring a permutation in order -/
def wordF : Nat → List Int → List Int
  | 0, _ => []
  | f + 1, p => match descM p with
    | [] => []
    | x :: _ => (x + 1) :: wordF f (swapAt p x.toNat)
def wordM (p : List Int) : List Int := wordF 2001 p
theorem wordF_none {p : List Int} {f : Nat} (h : descM p = []) : wordF f p = [] := by cases f <;> simp [wordF, h]
theorem wordF_some {p : List Int} {f : Nat} {x : Int} {r : List Int} (h : descM p = x :: r) : wordF (f + 1) p = (x + 1) :: wordF f (swapAt p x.toNat) := by simp [wordF, h]
theorem wordF_length : ∀ (f : Nat) (p : List Int), (wordF f p).length ≤ f
  | 0, _ => by simp [wordF]
  | f + 1, p => by
    cases h : descM p with
    | nil => rw [wordF_none h]; simp
    | cons x r => rw [wordF_some h]; have := wordF_length f (swapAt p x.toNat); simp; omega
theorem wordM_length (p : List Int) : (wordM p).length ≤ 2001 := wordF_length _ _
theorem wordF_bd : ∀ (f : Nat) (p : List Int), p.length ≤ 12 → ∀ x ∈ wordF f p, 1 ≤ x ∧ x ≤ 11
  | 0, _, _ => by simp [wordF]
  | f + 1, p, hp => by
    cases h : descM p with
    | nil => rw [wordF_none h]; simp
    | cons x r =>
      rw [wordF_some h]
      intro y hy
      obtain ⟨k, rfl, h1, h2⟩ := desc_head h
      rcases List.mem_cons.1 hy with hy | hy
      · omega
      · exact wordF_bd f _ (by rw [swapAt_length]; exact hp) y hy
theorem wordM_bd {p : List Int} (hp : p.length ≤ 12) : ∀ x ∈ wordM p, 1 ≤ x ∧ x ≤ 11 := wordF_bd _ _ hp
/-- in the middle of spelling -/
def Spell (p out now : List Int) : Prop := Small12 now ∧ now.length = p.length ∧ ∃ f : Nat, wordM p = out ++ wordF f now ∧ 2000 - wt now < f ∧ f + out.length ≤ 2001
theorem Spell.start {p : List Int} (h : permB p = true) : Spell p [] p := ⟨Small12.of_perm h, rfl, 2001, rfl, by have := (Small12.of_perm h).wt_bd; omega, by simp⟩
theorem Spell.done {p out now : List Int} (h : Spell p out now) (hd : descM now = []) : wordM p = out := by
  obtain ⟨-, -, f, h1, -, -⟩ := h
  rw [h1, wordF_none hd, List.append_nil]
theorem Spell.next {p out now r : List Int} {k : Nat} (h : Spell p out now) (hd : descM now = (k : Int) :: r) : Spell p (out ++ [(k : Int) + 1]) (swapAt now k) ∧ wt now < wt (swapAt now k) := by
  obtain ⟨h0, hl, f, h1, h2, h3⟩ := h
  obtain ⟨k', hk, h4, h5⟩ := desc_head hd
  obtain rfl : k = k' := by omega
  have hw := wt_swap h4 h5
  have hb := (h0.swap h4).wt_bd
  obtain ⟨g, rfl⟩ : ∃ g, f = g + 1 := ⟨f - 1, by have := h0.wt_bd; omega⟩
  refine ⟨⟨h0.swap h4, by rw [swapAt_length, hl], g, ?_, by omega, by simp; omega⟩, hw⟩
  rw [h1, wordF_some hd]
  simp
theorem Spell.bd {p out now : List Int} (h : Spell p out now) : out.length ≤ 2001 := by
  obtain ⟨-, -, f, -, -, h3⟩ := h
  omega
end Go.Proofs.Ytjgdcjhmfbefdaa
set_option linter.unusedSimpArgs false
set_option linter.unusedVariables false
set_option maxRecDepth 100000
set_option maxHeartbeats 1000000
namespace Go.Proofs.Ytjgdcjhmfbefdaa
open Go.ChangeShapes Go.WideShapes Go.ChangeAt Go.RowKit
set_option maxRecDepth 100000 in
/-- 'out = append(out, list...)' -/
theorem wp_append_ints {w : World} {ops : Array Oper} {rest : List Oper} {o : Oper} {a : Act} {Q : Exit → Act → World → Prop} (hgd : o.guard = none) (s x : Operand)
    (ho : o.op = .call { callee := .builtin .append, args := #[s, x], argTypes := #[37, 37] })
    (base : Nat) (v : Value) (xs : List Int) (hs : a.eval s = v) (hown : OwnI w base v xs)
    (S : Nat → Prop) (u : Value) (ys : List Int) (hx : a.eval x = u) (hsrc : Ints w S u ys) (hlen : xs.length + ys.length ≤ 1099511627776) (hbase : base ≤ w.heap.size)
    (h : ∀ v' w', OwnI w' base v' (xs ++ ys) → Chg (fun b => v.ownBlock = some b) w w' → (∀ b, v'.ownBlock = some b → v.ownBlock = some b ∨ w.heap.size ≤ b) → Chg (fun k => base ≤ k) w w' → wpList Try.prog ops Q rest (a.put o.dst v') w') : wpList Try.prog ops Q (o :: rest) a w := by
  obtain ⟨i0, hi, hz0, hz1, hz2⟩ := info_parts info2
  obtain ⟨A, c, rfl, hlc, hcm, hok, hr, hnn⟩ := hsrc
  have hok' : ∀ y ∈ xs ++ ys, I64 y := fun y hy => (List.mem_append.1 hy).elim (hown.2 y) (hok y)
  cases A with
  | none =>
    have hy : ys = [] := by
      rcases Nat.eq_zero_or_pos ys.length with h0 | h0
      · exact List.eq_nil_of_length_eq_zero h0
      · obtain ⟨b, oo, h1, _⟩ := hr h0
        cases h1
    subst hy
    obtain rfl := hnn rfl
    refine wpList_append_own_none hgd s x 37 ho base 2 i0 1 Try.underlying37 hi v xs.length _ hs hown.1 hx ?_
    exact h v w (by simpa using hown) (Chg.refl _ _) (fun b hb => .inl hb) (Chg.refl _ _)
  | some ad =>
    have hnews : ∀ j q, (ys.map (Value.int .i64))[j]? = some q → w.cell? (ad.add j) = some q := by
      intro j q hq
      obtain ⟨hj, he⟩ := List.getElem?_eq_some_iff.1 hq
      have hj' : j < ys.length := by simpa using hj
      obtain ⟨b, oo, h1, _, _, hc⟩ := hr (by omega)
      injection h1 with h1
      subst h1
      have := (hc j hj').1
      rw [← he, List.getElem_map, ← this]
      unfold Addr.add
      by_cases h0 : j = 0 <;> simp [h0]
    refine wpList_append_own2 (P := Try.prog) hgd s x 37 ho base 2 i0 (.int .i64 0) 1 8 Try.underlying37 hi hz0 hz1 hz2 rfl (by decide) v xs.length _ hs hown.1 ad ys.length c (ys.map (Value.int .i64)) hx (by simp) hnews ?_ ?_ ?_ hbase ?_
    · intro q hq
      obtain ⟨y, _, rfl⟩ := List.mem_map.1 hq
      rfl
    · unfold Go.maxLen; omega
    · omega
    · intro v' w' h2 h3 h4
      exact h v' w' ⟨by simpa using h2, hok'⟩ (Chg.of_grown h3) h4 ((Chg.refl _ _).grown h3 fun k hk => .inl (hown.1.lt k hk).1)
theorem eqlIn_nil {P : Program} (w : World) (d : Nat) (t e : TypeId) (a : Option Addr) (l c : Nat) (h : P.underlying t = some (.slice e)) : (Op.equalIn (d + 1) t (.slice a l c) (.slice none 0 0)).run P w = .ok a.isNone w := by
  cases a <;> simp [Op.equalIn, run_underlying h]
theorem eql_nil {P : Program} (w : World) (t e : TypeId) (a : Option Addr) (l c : Nat) (h : P.underlying t = some (.slice e)) : (binOp .eql t (.slice a l c) (.slice none 0 0)).run P w = .ok (.bool a.isNone) w := by
  have h1 : (Op.equal t (.slice a l c) (.slice none 0 0)).run P w = .ok a.isNone w := eqlIn_nil w 9999 t e a l c h
  simp only [binOp]
  simp [h1]
set_option maxRecDepth 100000 in
set_option maxHeartbeats 2000000 in
theorem l00Own_any (w : World) (S : Nat → Prop) (v : Value) (xs : List Int) (h : Ints w S v xs) (hl : xs.length ≤ 100000) :
    Calls Try.prog 114 #[v] w fun e w' => ∃ v', e = .returned v' ∧ Ints w' (New w.heap.size w'.heap.size) v' xs ∧ Up w w' := by
  obtain ⟨A, c, rfl, hlc, hcm, -⟩ := h.shape
  have H := Lib.hid h
  have M0 := Lib.hid (OwnI.made w w.heap.size (Nat.le_refl _))
  have HL := Lib.hid (show ([] : List Int).length + xs.length ≤ 1099511627776 by simp; omega)
  clear h
  go_enter Try.func114, Try.ntmps114
  go_wp2_with (first | (at_builtin; refine wp_append_ints rfl _ _ rfl w.heap.size _ ([] : List Int) rfl M0.out _ _ xs rfl (H.out.up (by repeat (first | exact Chg.refl _ _ | apply Chg.drew | apply Chg.drewN | refine Chg.alloc ?_ _))) HL.out (by simp) ?_; intro v' w1 ho1 _ _ hg1; have HO := Lib.hid ho1; have HG := Lib.hid (Chg.new ((Chg.refl Nowhere w).alloc _) hg1 (fun i hi => by omega)); clear ho1 hg1))
  go_ret
  exact ⟨_, rfl, by have := HO.out.ints; rw [List.nil_append] at this; exact this, HG.out⟩
set_option maxRecDepth 100000 in
set_option maxHeartbeats 2000000 in
theorem clone_any (w : World) (S : Nat → Prop) (v : Value) (xs : List Int) (h : Ints w S v xs) (hl : xs.length ≤ 100000) :
    Calls Try.prog 232 #[v] w fun e w' => ∃ v', e = .returned v' ∧ Ints w' (New w.heap.size w'.heap.size) v' xs ∧ Up w w' := by
  obtain ⟨A, c, rfl, hlc, hcm, -⟩ := h.shape
  have H := Lib.hid h
  have M0 := Lib.hid (OwnI.made w w.heap.size (Nat.le_refl _))
  have HL := Lib.hid (show ([] : List Int).length + xs.length ≤ 1099511627776 by simp; omega)
  clear h
  have hq := fun u : World => eql_nil (P := Try.prog) u 37 2 A xs.length c Try.underlying37
  cases A with
  | none =>
    obtain ⟨_, _, he, _, _, _, _, hnn⟩ := H.out
    have hz : xs = [] := by
      rcases Nat.eq_zero_or_pos xs.length with h0 | h0
      · exact List.eq_nil_of_length_eq_zero h0
      · obtain ⟨_, _, h1, _⟩ := H.out.ix h0; cases h1
    subst hz
    go_enter Try.func232, Try.ntmps232
    have hq2 := fun u : World => eql_nil (P := Try.prog) u 37 2 none 0 0 Try.underlying37
    go_wp2
    go_ret
    exact ⟨_, rfl, Ints.nil _ _ _ _ (by omega), Chg.refl _ _⟩
  | some a =>
    go_enter Try.func232, Try.ntmps232
    go_wp2_with (first | (at_builtin; refine wp_append_ints rfl _ _ rfl w.heap.size _ ([] : List Int) rfl M0.out _ _ xs rfl (H.out.up (by repeat (first | exact Chg.refl _ _ | apply Chg.drew | apply Chg.drewN | refine Chg.alloc ?_ _))) HL.out (by simp) ?_; intro v' w1 ho1 _ _ hg1; have HO := Lib.hid ho1; have HG := Lib.hid (Chg.new ((Chg.refl Nowhere w).alloc _) hg1 (fun i hi => by omega)); clear ho1 hg1))
    go_ret
    exact ⟨_, rfl, by have := HO.out.ints; rw [List.nil_append] at this; exact this, HG.out⟩
end Go.Proofs.Ytjgdcjhmfbefdaa
set_option linter.unusedSimpArgs false
set_option linter.unusedVariables false
set_option maxRecDepth 100000
set_option maxHeartbeats 4000000
namespace Go.Proofs.Ytjgdcjhmfbefdaa
open Go.ChangeShapes Go.WideShapes Go.ChangeAt Go.RowKit
def lenOf : Value → Nat
  | .slice _ n _ => n
  | _ => 0
theorem OwnI.lenOf {w : World} {base : Nat} {v : Value} {xs : List Int} (h : OwnI w base v xs) : Go.Proofs.Ytjgdcjhmfbefdaa.lenOf v = xs.length := by
  obtain ⟨A, c, rfl, -⟩ := h.ints.shape
  rfl
theorem ints_blk {w : World} {S : Nat → Prop} {b o c n : Nat} {xs : List Int} (h : Ints w S (.slice (some ⟨b, o, none⟩) n c) xs) (hp : 0 < xs.length) : S b := by
  obtain ⟨A', c', he, _, _, _, hr, _⟩ := h
  obtain ⟨b', o', hA, hs, _⟩ := hr hp
  simp at he
  obtain ⟨rfl, rfl, rfl⟩ := he
  simp at hA
  rw [hA.1]
  exact hs
theorem l04Before_any (w : World) (S : Nat → Prop) (v : Value) (p : List Int) (k : Nat) (h : Ints w S v p) (hk : k + 1 < p.length) (hl : p.length ≤ 100) :
    Calls Try.prog 219 #[.int .i64 ((k : Int) + 1), v] w fun e w' => ∃ u, e = .returned u ∧ Ints w' (New w.heap.size w'.heap.size) u (swapAt p k) ∧ Up w w' := by
  obtain ⟨A, c, rfl, hlc, hcm, -⟩ := h.shape
  have H := Lib.hid h
  clear h
  go_enter Try.func219, Try.ntmps219
  go_wp2_with fail
  refine (l00Own_any _ S _ p H.out (by omega)).mono ?_
  rintro e w1 ⟨v1, rfl, k1, g1⟩
  obtain ⟨B, d, rfl, hld, hdm, -⟩ := k1.shape
  obtain ⟨b1, o1, rfl, hbl, hc⟩ := H.out.ix (show k < p.length by omega)
  obtain ⟨b2, o2, rfl, hbl2, hcc⟩ := ints_ixf k1 (i := k) (by omega)
  have hb2 : w.heap.size ≤ b2 := by
    obtain ⟨A', c', he, _, _, _, hr, _⟩ := k1
    obtain ⟨b', o', hA, hs, _⟩ := hr (by omega)
    simp at he
    obtain ⟨rfl, -⟩ := he
    simp at hA
    rw [hA.1]
    exact hs.1
  have K1 := Lib.hid k1
  have G1 := Lib.hid g1
  have HX := Lib.hid (show ∀ x ∈ p, I64 x from k1.choose_spec.choose_spec.2.2.2.1)
  have f1 := g1.cell (hc (k + 1) hk) id
  obtain ⟨d0, e0⟩ := hcc k (by omega)
  obtain ⟨d1, e1⟩ := hcc (k + 1) hk
  have IX1 : Hid (I64 (ix p (k + 1))) := Lib.hid (by rw [ix_eq hk]; exact HX.out _ (List.getElem_mem _))
  have IX0 : Hid (I64 (ix p k)) := Lib.hid (by rw [ix_eq (show k < p.length by omega)]; exact HX.out _ (List.getElem_mem _))
  have C1 := Lib.hid (show Chg (fun b => b = b2) w1 (w1.setCell ⟨b2, o2 + k, none⟩ (.int .i64 (ix p (k + 1)))) from Chg.setCell (Chg.refl (fun b => b = b2) _) (p := ⟨b2, o2 + k, none⟩) (.inl rfl) _)
  have f0' := C1.out.cell (g1.cell (hc k (by omega)) id) (fun he => by have he : b1 = b2 := he; omega)
  have d1' := (World.cell?_setCell_other w1 ⟨b2, o2 + k, none⟩ ⟨b2, o2 + (k + 1), none⟩ (.int .i64 (ix p (k + 1))) (fun h => by injection h with _ h _; omega)).trans d1
  have e1' : (w1.setCell ⟨b2, o2 + k, none⟩ (.int .i64 (ix p (k + 1)))).frozen? ⟨b2, o2 + (k + 1), none⟩ = false := by simpa using e1
  have HS1 := Lib.hid (k1.set (k := k) (by omega) IX1.out)
  clear k1 g1 hc hcc d1 e1 C1
  go_wp2
  go_ret
  have h2 := HS1.out
  have h3 : Ints (w1.setCell ⟨b2, o2 + k, none⟩ (.int .i64 (ix p (k + 1)))) (New w.heap.size w1.heap.size) (.slice (some ⟨b2, o2, none⟩) (p.set k (ix p (k + 1))).length d) (p.set k (ix p (k + 1))) := by rw [List.length_set]; exact h2
  have h4 := h3.set (k := k + 1) (by rw [List.length_set]; exact hk) IX0.out
  refine ⟨_, rfl, ?_, Chg.new G1.out (Chg.setCell (Chg.setCell (Chg.refl (fun b => b = b2) _) (p := ⟨b2, o2 + k, none⟩) (.inl rfl) _) (p := ⟨b2, o2 + (k + 1), none⟩) (.inl rfl) _) (fun i hi he => by have he : i = b2 := he; omega)⟩
  rw [List.length_set] at h4
  exact h4.mono (fun b hb h => ⟨h.1, hb⟩)
theorem l04Word_any (w : World) (S : Nat → Prop) (v : Value) (p : List Int) (h : Ints w S v p) (hp : permB p = true) :
    Calls Try.prog 163 #[v] w fun e w' => ∃ u, e = .returned u ∧ Ints w' (New w.heap.size w'.heap.size) u (wordM p) ∧ Up w w' := by
  have hl := permB_len hp
  obtain ⟨A, c, rfl, hlc, hcm, -⟩ := h.shape
  have H := Lib.hid h
  have HP := Lib.hid (Spell.start hp)
  have M0 := Lib.hid (OwnI.made w w.heap.size (Nat.le_refl _))
  clear h hp
  go_enter Try.func163, Try.ntmps163
  go_wp2_with fail
  refine (l00Own_any _ S _ p (H.out.up (by repeat (first | exact Chg.refl _ _ | apply Chg.drew | apply Chg.drewN | refine Chg.alloc ?_ _))) (by omega)).mono ?_
  rintro e w1 ⟨v1, rfl, k1, g1⟩
  obtain ⟨B, d, rfl, hld, hdm, -⟩ := k1.shape
  have K1 := Lib.hid k1
  have U1 := Lib.hid (show Up w w1 from Chg.trans (by repeat (first | exact Chg.refl _ _ | apply Chg.drew | apply Chg.drewN | refine Chg.alloc ?_ _)) g1)
  have M1 := Lib.hid (M0.out.up g1)
  have hz1 : w.heap.size + 1 ≤ w1.heap.size := by have := g1.size; simpa using this
  clear k1 g1
  go_wp2
  go_loopw [3, 4] (fun ov rv wr => ∃ (out nw : List Int) (B : Option Addr) (d lo : Nat), rv = .slice B nw.length d ∧ nw.length = p.length ∧ Hid (Spell p out nw) ∧ Hid (OwnI wr w.heap.size ov out) ∧ Hid (Ints wr (fun b => lo ≤ b) (.slice B nw.length d) nw) ∧ Hid (∀ g, ov.ownBlock = some g → g < lo) ∧ Hid (Up w wr)) (fun ov _ _ => 2002 - lenOf ov)
  case atStart => exact ⟨[], p, B, d, w.heap.size + 1, rfl, rfl, HP.out, M1.out, K1.out.mono (fun b _ h => by have := h.1; simp at this; omega), fun g hg => by have h : w.heap.size = g := (by simpa [Value.ownBlock] using hg); omega, U1.out⟩
  case round =>
    obtain ⟨out, nw, B, d, lo, rfl, hnl, hsp, hown, hrd, hap, hu⟩ := hrel
    have HNL := Lib.hid hnl
    have hnl2 : nw.length ≤ 12 := by omega
    have hol := hsp.out.bd
    have HLO := Lib.hid hown.out.lenOf
    clear hnl
    cases hd : descM nw with
    | nil =>
      have HB := Lib.hid (hsp.out.done hd)
      have HD := Lib.hid (show (startM nw).length = 0 by unfold startM; rw [hd]; rfl)
      clear hd
      go_wp2_with fail
      refine (l04Start_any _ _ _ nw hrd.out (by omega)).mono ?_
      rintro e w2 ⟨v2, rfl, k2, g2⟩
      obtain ⟨B2, d2, rfl, -, -, -⟩ := k2.shape
      have G2 := Lib.hid g2
      rw [HD.out]
      clear k2 g2
      go_wp2
      go_ret
      exact ⟨_, rfl, by rw [HB.out]; exact (hown.out.up G2.out).ints, Chg.trans hu.out G2.out⟩
    | cons x r =>
      obtain ⟨kn, rfl, hk1, hk2⟩ := desc_head hd
      have HD := Lib.hid (show 0 < (startM nw).length by unfold startM; rw [hd]; simp)
      have HX := Lib.hid (show ix (startM nw) 0 = (kn : Int) + 1 by unfold startM; rw [hd]; rfl)
      have HN := Lib.hid (hsp.out.next hd).1
      have HI := Lib.hid (show I64 ((kn : Int) + 1) by unfold I64; omega)
      have HL := Lib.hid (show out.length ≤ 1099511627776 by omega)
      clear hd hk2
      go_wp2_with fail
      refine (l04Start_any _ _ _ nw hrd.out (by omega)).mono ?_
      rintro e w2 ⟨v2, rfl, k2, g2⟩
      obtain ⟨B2, d2, rfl, -, -, -⟩ := k2.shape
      have G2 := Lib.hid g2
      have K2 := Lib.hid k2
      have hlz : ((startM nw).length == 0) = false := by have := HD.out; simp; exact fun h => by rw [h] at this; simp at this
      have hlz2 : (((startM nw).length : Int) == 0) = false := by have := HD.out; simp; exact fun h => by rw [h] at this; simp at this
      have hlz3 : 0 < (startM nw).length := HD.out
      obtain ⟨b2, o2, rfl, hbl2, hc2⟩ := k2.ix HD.out
      have f0 := hc2 0 HD.out
      rw [HX.out, Nat.add_zero] at f0
      have Hf0 := Lib.hid f0
      have HO2 := Lib.hid (hown.out.up g2)
      have HR2 := Lib.hid (hrd.out.up g2)
      have hz2 := hu.out.size
      have hz3 := g2.size
      have HNB : Hid (∀ g, u3.ownBlock = some g → g ≠ b2) := Lib.hid fun g hg he => by
        have h1 := (hown.out.lt hg).2
        have h2 := (ints_blk K2.out HD.out).1
        omega
      clear k2 g2 hc2
      go_wp2_with (first | (at_builtin; refine wp_append_int2 rfl _ _ rfl w.heap.size _ out rfl (HO2.out.alloc _) _ ((kn : Int) + 1) rfl (cell_new _ _ _ _) HI.out HL.out ?_ ?_; (simp; omega); intro v' w3 h1 h2 h3 h4; have HO := Lib.hid h1; have HC := Lib.hid h2; have HBB := Lib.hid h3; have HG := Lib.hid h4; have f0 := Chg.cell h2 (Chg.cell ((Chg.refl Nowhere w2).alloc (.cells #[.int .i64 ((kn : Int) + 1)] 2)) Hf0.out id) (fun he => HNB.out b2 he rfl); have HR3 := Lib.hid (Ints.keep (HR2.out.up ((Chg.refl _ _).alloc _)) h2 (fun b _ hb he => by have := hap.out b he; have hb : lo ≤ b := hb; omega)); have U3 := Lib.hid (Chg.new (Chg.trans hu.out (Chg.alloc G2.out _)) h4 (fun i hi he => by omega)); clear h1 h2 h3 h4) | (go_at_call 219; refine (l04Before_any _ _ _ nw kn HR3.out hk1 (by omega)).mono ?_; rintro e w4 ⟨v4, rfl, k4, g4⟩; have K4 := Lib.hid k4; have G4 := Lib.hid g4; obtain ⟨B4, d4, rfl, -, -, -⟩ := k4.shape; clear k4 g4 f0))
      go_roundw
      case rel => exact ⟨out ++ [(kn : Int) + 1], swapAt nw kn, B4, d4, w3.heap.size, rfl, by rw [swapAt_length]; exact HNL.out, HN.out, HO.out.up G4.out, K4.out.mono (fun b _ h => h.1), fun g hg => (HO.out.lt hg).2, Chg.trans U3.out G4.out⟩
      case measure =>
        have h1 := HO.out.lenOf
        have h2 := HLO.out
        simp only [List.length_append, List.length_cons, List.length_nil] at h1
        simp [h1, h2]
        omega
end Go.Proofs.Ytjgdcjhmfbefdaa
set_option linter.unusedSimpArgs false
set_option linter.unusedVariables false
set_option maxRecDepth 100000
set_option maxHeartbeats 4000000
namespace Go.Proofs.Ytjgdcjhmfbefdaa
open Go.ChangeShapes Go.WideShapes Go.ChangeAt Go.RowKit
theorem reducedWord_any (w : World) (S : Nat → Prop) (v : Value) (p : List Int) (h : Ints w S v p) (hp : permB p = true) :
    Calls Try.prog 220 #[v] w fun e w' => ∃ u ws, e = .returned u ∧ ws.map (· + 1) = wordM p ∧ Ints w' (New w.heap.size w'.heap.size) u ws ∧ Up w w' := by
  have hl := permB_len hp
  obtain ⟨A, c, rfl, hlc, hcm, -⟩ := h.shape
  have H := Lib.hid h
  have HP := Lib.hid (Spell.start hp)
  clear h hp
  go_enter Try.func220, Try.ntmps220
  go_wp2_with fail
  refine (clone_any _ S _ p (H.out.up (by repeat (first | exact Chg.refl _ _ | apply Chg.drew | apply Chg.drewN | refine Chg.alloc ?_ _))) (by omega)).mono ?_
  rintro e w1 ⟨v1, rfl, k1, g1⟩
  obtain ⟨B, d, rfl, hld, hdm, -⟩ := k1.shape
  have K1 := Lib.hid k1
  have U1 := Lib.hid (show Up w w1 from Chg.trans (by repeat (first | exact Chg.refl _ _ | apply Chg.drew | apply Chg.drewN | refine Chg.alloc ?_ _)) g1)
  have M1 := Lib.hid (OwnI.made w1 w1.heap.size (Nat.le_refl _))
  clear k1 g1
  go_wp2
  go_loopw [4] (fun ov wr => ∃ (out nw : List Int), nw.length = p.length ∧ Hid (Spell p (out.map (· + 1)) nw) ∧ Hid (OwnI wr w1.heap.size ov out) ∧ Hid (Ints wr (New w.heap.size w1.heap.size) (.slice B p.length d) nw) ∧ Hid (Up w wr) ∧ w1.heap.size ≤ wr.heap.size) (fun ov _ => 2002 - lenOf ov)
  case atStart => exact ⟨[], p, rfl, HP.out, M1.out, (K1.out.mono (fun b _ h => h)).up ((Chg.refl _ _).alloc _), Chg.alloc U1.out _, by simp⟩
  case round =>
    obtain ⟨out, nw, hnl, hsp, hown, hrd, hu, hz⟩ := hrel
    have HNL := Lib.hid hnl
    have hnl2 : nw.length ≤ 12 := by omega
    have hol : out.length ≤ 2001 := by have := hsp.out.bd; simpa using this
    have HLO := Lib.hid hown.out.lenOf
    have hrd2 : Ints wr (New w.heap.size w1.heap.size) (.slice B nw.length d) nw := by rw [hnl]; exact hrd.out
    have HR := Lib.hid hrd2
    clear hrd2
    cases hd : descM nw with
    | nil =>
      have HB := Lib.hid (hsp.out.done hd)
      have HD := Lib.hid (show (descM nw).length = 0 by rw [hd]; rfl)
      clear hd hnl
      go_wp2_with fail
      refine (descents_any _ _ _ nw hrd.out (by omega)).mono ?_
      rintro e w2 ⟨v2, rfl, k2, g2⟩
      obtain ⟨B2, d2, rfl, -, -, -⟩ := k2.shape
      have G2 := Lib.hid g2
      rw [HD.out]
      clear k2 g2
      go_wp2
      go_ret
      exact ⟨_, out, rfl, HB.out.symm, (hown.out.up G2.out).ints.mono (fun b _ h => ⟨Nat.le_trans U1.out.size h.1, h.2⟩), Chg.trans hu.out G2.out⟩
    | cons x r =>
      obtain ⟨kn, rfl, hk1, hk2⟩ := desc_head hd
      have HD := Lib.hid (show 0 < (descM nw).length by rw [hd]; simp)
      have HX := Lib.hid (show ix (descM nw) 0 = (kn : Int) by rw [hd]; rfl)
      have HN := Lib.hid (hsp.out.next hd).1
      have HI := Lib.hid (show I64 (kn : Int) by unfold I64; omega)
      have HL := Lib.hid (show out.length ≤ 1099511627776 by omega)
      clear hd hk2 hnl
      go_wp2_with fail
      refine (descents_any _ _ _ nw hrd.out (by omega)).mono ?_
      rintro e w2 ⟨v2, rfl, k2, g2⟩
      obtain ⟨B2, d2, rfl, -, -, -⟩ := k2.shape
      have hlz2 : (((descM nw).length : Int) == 0) = false := by have := HD.out; simp; exact fun h => by rw [h] at this; simp at this
      have hlz3 : 0 < (descM nw).length := HD.out
      obtain ⟨b2, o2, rfl, hbl2, hc2⟩ := k2.ix HD.out
      have f0 := hc2 0 HD.out
      rw [HX.out, Nat.add_zero] at f0
      obtain ⟨b, o, rfl, hbl, hc⟩ := ints_ixf (HR.out.up g2) (i := kn) (by omega)
      obtain ⟨p1, p2⟩ := hc kn (by omega)
      obtain ⟨p3, p4⟩ := hc (kn + 1) hk1
      have hnn : ¬ o + kn = o + (kn + 1) := by omega
      have hnn2 : ¬ o + (kn + 1) = o + kn := by omega
      have hkp : kn < p.length := by have := HNL.out; omega
      have hkp1 : kn + 1 < p.length := by have := HNL.out; omega
      have hkpI : (kn : Int) + 1 < p.length := by omega
      have htn : ((kn : Int) + 1).toNat = kn + 1 := by omega
      have hw1 : IntKind.i64.wrap ((kn : Int) + 1) = (kn : Int) + 1 := IntWalk.i64_in _ (by omega)
      have HO2 := Lib.hid (hown.out.up g2)
      have HR2 := Lib.hid (HR.out.up g2)
      have G2 := Lib.hid g2
      have HBN := Lib.hid (ints_blk HR2.out (by omega))
      have C3 := Lib.hid (show Chg (fun x => x = b) w2 (((w2.setCell ⟨b, o + kn, none⟩ (.int .i64 (ix nw (kn + 1)))).setCell ⟨b, o + (kn + 1), none⟩ (.int .i64 (ix nw kn))).drew) from Chg.drew (Chg.setCell (Chg.setCell (Chg.refl (fun x => x = b) w2) (p := ⟨b, o + kn, none⟩) (.inl rfl) _) (p := ⟨b, o + (kn + 1), none⟩) (.inl rfl) _))
      have IX1 : Hid (I64 (ix nw (kn + 1))) := Lib.hid (by have := hsp.out.1.2 (kn + 1) hk1; unfold I64; omega)
      have IX0 : Hid (I64 (ix nw kn)) := Lib.hid (by have := hsp.out.1.2 kn (by omega); unfold I64; omega)
      have HSW : Hid (Ints (((w2.setCell ⟨b, o + kn, none⟩ (.int .i64 (ix nw (kn + 1)))).setCell ⟨b, o + (kn + 1), none⟩ (.int .i64 (ix nw kn))).drew) (New w.heap.size w1.heap.size) (.slice (some ⟨b, o, none⟩) nw.length d) (swapAt nw kn)) := by
        have h1 := HR2.out.set (k := kn) (by omega) IX1.out
        have h2 : Ints (w2.setCell ⟨b, o + kn, none⟩ (.int .i64 (ix nw (kn + 1)))) (New w.heap.size w1.heap.size) (.slice (some ⟨b, o, none⟩) (nw.set kn (ix nw (kn + 1))).length d) (nw.set kn (ix nw (kn + 1))) := by rw [List.length_set]; exact h1
        have h3 := h2.set (k := kn + 1) (by rw [List.length_set]; exact hk1) IX0.out
        rw [List.length_set] at h3
        exact Ints.up h3 (Chg.drew (Chg.refl _ _))
      have HO3 := Lib.hid (HO2.out.kept C3.out (fun g hg he => by have h1 := (HO2.out.lt hg).1; have h2 := HBN.out.2; have he : g = b := he; omega))
      have U3 := Lib.hid (Chg.new (Chg.trans hu.out G2.out) C3.out (fun i hi he => by have h2 := HBN.out.1; have he : i = b := he; omega))
      have hz2 := G2.out.size
      have hz3 := C3.out.size
      have HMAP := Lib.hid (show (out ++ [(kn : Int)]).map (· + 1) = out.map (· + 1) ++ [(kn : Int) + 1] by simp)
      obtain ⟨w7, h7⟩ : ∃ w7 : World, w7 = (((w2.setCell ⟨b, o + kn, none⟩ (.int .i64 (ix nw (kn + 1)))).setCell ⟨b, o + (kn + 1), none⟩ (.int .i64 (ix nw kn))).drew) := ⟨_, rfl⟩
      rw [← h7] at HSW HO3 C3 U3 hz3
      have H7 := Lib.hid h7
      clear k2 g2 hc2 hc h7
      go_wp2
      go_region
      rw [← H7.out]
      go_wp2_with (first | (at_builtin; refine wp_append_int2 rfl _ _ rfl w1.heap.size _ out rfl (HO3.out.alloc _) _ (kn : Int) rfl (cell_new _ _ _ _) HI.out HL.out ?_ ?_; (simp; omega); intro v' w4 h1 h2 h3 h4; have HO := Lib.hid h1; have HC := Lib.hid h2; have HG := Lib.hid h4; clear h1 h2 h3 h4))
      go_roundw
      case rel => exact ⟨out ++ [(kn : Int)], swapAt nw kn, by rw [swapAt_length]; exact HNL.out, by rw [HMAP.out]; exact HN.out, HO.out, by have h := Ints.keep (Ints.up HSW.out ((Chg.refl _ _).alloc _)) HG.out (fun b _ hb he => by have := hb.2; have he : w1.heap.size ≤ b := he; omega); rw [HNL.out] at h; exact h, Chg.new (Chg.alloc U3.out _) HG.out (fun i hi he => by have := U1.out.size; have he : w1.heap.size ≤ i := he; omega), by have := HG.out.size; simp at this; omega⟩
      case measure =>
        have h1 := HO.out.lenOf
        have h2 := HLO.out
        simp only [List.length_append, List.length_cons, List.length_nil] at h1
        simp [h1, h2]
        omega
end Go.Proofs.Ytjgdcjhmfbefdaa
set_option linter.unusedSimpArgs false
set_option linter.unusedVariables false
set_option maxRecDepth 100000
set_option maxHeartbeats 4000000
namespace Go.Proofs.Ytjgdcjhmfbefdaa
open Go.ChangeShapes Go.WideShapes Go.ChangeAt Go.RowKit
theorem permutationLetters_any (w : World) (S : Nat → Prop) (v : Value) (p : List Int) (h : Ints w S v p) (hp : permB p = true) :
    Calls Try.prog 167 #[v] w fun e w' => ∃ u, e = .returned u ∧ Ints w' (New w.heap.size w'.heap.size) u (wordM p) ∧ Up w w' := by
  obtain ⟨A, c, rfl, hlc, hcm, -⟩ := h.shape
  have H := Lib.hid h
  have HWB := Lib.hid (wordM_bd (permB_len hp))
  have HWL := Lib.hid (wordM_length p)
  have HP := Lib.hid hp
  clear h hp
  go_enter Try.func167, Try.ntmps167
  go_wp2_with fail
  refine (reducedWord_any _ S _ p H.out HP.out).mono ?_
  rintro e w1 ⟨v, xs, rfl, hxs, k1, g1⟩
  obtain ⟨B, d, rfl, hld, hdm, -⟩ := k1.shape
  have K1 := Lib.hid k1
  have G1 := Lib.hid g1
  have HX := Lib.hid hxs
  have hxl : xs.length ≤ 2001 := by have h1 := HWL.out; rw [← hxs, List.length_map] at h1; exact h1
  have HXB : Hid (∀ j (hj : j < xs.length), 0 ≤ ix xs j ∧ ix xs j ≤ 1000) := Lib.hid fun j hj => by
    have h1 := HWB.out (ix xs j + 1) (by rw [← HX.out, ix_eq hj]; exact List.mem_map.2 ⟨_, List.getElem_mem hj, rfl⟩)
    omega
  clear k1 g1 hxs
  go_wp2
  go_loopw [4, 9] (fun _ i wr => ∃ j : Nat, j ≤ xs.length ∧ i = .int .i64 j ∧ Hid (Chg (New w.heap.size w1.heap.size) w1 wr) ∧ Hid (Ints wr (New w.heap.size w1.heap.size) (.slice B xs.length d) (riseTo xs j))) (fun _ i _ => xs.length - (intOf i).toNat)
  case atStart => exact ⟨0, by omega, rfl, Chg.refl _ _, K1.out⟩
  case round =>
    obtain ⟨j, hj, rfl, hg, hc⟩ := hrel
    by_cases hlt : j < xs.length
    · have hlen := riseTo_length xs j
      have hI2 : Ints wr (New w.heap.size w1.heap.size) (.slice B (riseTo xs j).length d) (riseTo xs j) := by rw [hlen]; exact hc.out
      obtain ⟨b, o, rfl, hbl, hcc⟩ := ints_ixf hI2 (i := j) (by omega)
      obtain ⟨f0, q0⟩ := hcc j (by omega)
      have hv : ix (riseTo xs j) j = ix xs j := by rw [ix_eq (by omega), riseTo_get, if_neg (by omega)]
      rw [hv] at f0
      obtain ⟨hb0, hb1⟩ := HXB.out j hlt
      have HS := Lib.hid (hI2.set (k := j) (by omega) (x := ix xs j + 1) (by unfold I64; omega))
      have HNB : Hid (New w.heap.size w1.heap.size b) := by
        obtain ⟨A', c', he, _, _, _, hr, _⟩ := hI2
        obtain ⟨b', o', hA, hs, _⟩ := hr (by omega)
        simp at he
        obtain ⟨rfl, -⟩ := he
        simp at hA
        rw [hA.1]
        exact hs
      clear hcc hI2 hlen hv
      go_wp2
      go_roundw
      case rel => exact ⟨j + 1, by omega, by go_num, Chg.setCell hg.out (p := ⟨b, o + j, none⟩) (.inl HNB.out) _, by have h := HS.out; rw [riseTo_length] at h; exact h⟩
      case measure => simp [intOf]; omega
    · obtain rfl : j = xs.length := by omega
      have HE := Lib.hid (riseTo_all xs)
      go_wp2
      go_ret
      exact ⟨_, rfl, by rw [← HX.out, ← HE.out]; exact hc.out.mono (fun b hb h => ⟨h.1, hb⟩), Chg.new G1.out hg.out (fun i hi h => by have := h.1; omega)⟩
/-- the first k letters of a word from behind, turned round -/
def negTo (ws : List Int) (k : Nat) : List Int := (List.range k).map fun i : Nat => -(ix ws (ws.length - 1 - i))
def negL (ws : List Int) : List Int := negTo ws ws.length
theorem negTo_succ (ws : List Int) (k : Nat) : negTo ws (k + 1) = negTo ws k ++ [-(ix ws (ws.length - 1 - k))] := by simp [negTo, List.range_succ]
theorem negTo_length (ws : List Int) (k : Nat) : (negTo ws k).length = k := by simp [negTo]
theorem negL_length (ws : List Int) : (negL ws).length = ws.length := negTo_length _ _
def Lett (ws : List Int) : Prop := ∀ x ∈ ws, (1 ≤ x ∧ x ≤ 11) ∨ (-11 ≤ x ∧ x ≤ -1)
theorem Lett.ix {ws : List Int} (h : Lett ws) {i : Nat} (hi : i < ws.length) : (1 ≤ Go.Proofs.Ytjgdcjhmfbefdaa.ix ws i ∧ Go.Proofs.Ytjgdcjhmfbefdaa.ix ws i ≤ 11) ∨ (-11 ≤ Go.Proofs.Ytjgdcjhmfbefdaa.ix ws i ∧ Go.Proofs.Ytjgdcjhmfbefdaa.ix ws i ≤ -1) := by rw [ix_eq hi]; exact h _ (List.getElem_mem hi)
theorem Lett.neg {ws : List Int} (h : Lett ws) : Lett (negL ws) := by
  intro x hx
  obtain ⟨i, hi, rfl⟩ := List.mem_map.1 hx
  have hi := List.mem_range.1 hi
  have := h.ix (show ws.length - 1 - i < ws.length by omega)
  omega
theorem Lett.word {p : List Int} (h : permB p = true) : Lett (wordM p) := fun x hx => .inl (wordM_bd (permB_len h) x hx)
theorem OwnI.madeCap (w : World) (base n : Nat) (hb : base ≤ w.heap.size) (hn : n ≤ 1000000) : OwnI (w.alloc (.cells (madeCells #[.int .i64 0] n) 2)) base (.slice (some ⟨w.heap.size, 0, none⟩) 0 n) [] :=
  ⟨World.ownsRow_made w _ n hb (by unfold Go.maxLen; omega) (by simp [size_madeCells]), by simp⟩
theorem inverted_any (w : World) (S : Nat → Prop) (v : Value) (ws : List Int) (h : Ints w S v ws) (hL : Lett ws) (hl : ws.length ≤ 100000) :
    Calls Try.prog 168 #[v] w fun e w' => ∃ u, e = .returned u ∧ Ints w' (New w.heap.size w'.heap.size) u (negL ws) ∧ Up w w' := by
  obtain ⟨A, c, rfl, hlc, hcm, -⟩ := h.shape
  have H := Lib.hid h
  have HLT := Lib.hid hL
  clear h hL
  obtain ⟨i0, hi, hz0, hz1, hz2⟩ := info_parts info2
  have hmk : ∀ u : World, (Instr.makeSlice 37 (.int .i64 0) (.int .i64 (ws.length : Int))).run Try.prog u =
      .ok (.slice (some ⟨u.heap.size, 0, none⟩) 0 ws.length) (u.alloc (.cells (madeCells #[.int .i64 0] ws.length) 2)) := fun u => by
    have h := run_make (P := Try.prog) u 37 2 i0 (.int .i64 0) Try.underlying37 hi hz0 .i64 .i64 0 (ws.length : Int) (by omega) (by omega) (by rw [hz2]; omega) (by omega)
    simpa [hz1, Value.cells] using h
  go_enter Try.func168, Try.ntmps168
  go_wp2
  have Hi := Lib.hid hmk
  clear hmk hi hz0 hz1 hz2
  go_loopw [3, 4] (fun v i wr => ∃ j : Nat, j ≤ ws.length ∧ i = .int .i64 ((ws.length : Int) - 1 - j) ∧ Hid (OwnI wr w.heap.size v (negTo ws j)) ∧ Hid (Up w wr)) (fun _ i _ => (intOf i + 1).toNat)
  case atStart => exact ⟨0, by omega, by simp, OwnI.madeCap w _ _ (Nat.le_refl _) (by omega), (Chg.refl _ _).alloc _⟩
  case round =>
    obtain ⟨j, hj, rfl, ho, hg⟩ := hrel
    by_cases hlt : j < ws.length
    · have hbd := HLT.out.ix (show ws.length - 1 - j < ws.length by omega)
      have HI := Lib.hid (show I64 (-(ix ws (ws.length - 1 - j))) by unfold I64; omega)
      have HL := Lib.hid (show (negTo ws j).length ≤ 1099511627776 by rw [negTo_length]; omega)
      obtain ⟨b1, o1, rfl, -, hc1⟩ := (H.out.up hg.out).ix (show ws.length - 1 - j < ws.length by omega)
      have f1 := hc1 (ws.length - 1 - j) (by omega)
      have hbd1 : -11 ≤ ix ws (ws.length - 1 - j) := by omega
      have hbd2 : ix ws (ws.length - 1 - j) ≤ 11 := by omega
      have hidx : (ws.length : Int) - 1 - j = ((ws.length - 1 - j : Nat) : Int) := by omega
      have hsz := hg.out.size
      have hlt2 : ws.length - 1 - j < ws.length := by omega
      have HJ := Lib.hid hidx
      obtain ⟨t, ht⟩ : ∃ t : Nat, t = ws.length - 1 - j := ⟨_, rfl⟩
      rw [hidx]
      rw [← ht] at f1 hbd1 hbd2 hlt2 HI HJ ⊢
      have HT := Lib.hid ht
      clear hbd hc1 hidx ht
      go_wp2_with (first | (at_builtin; refine wp_append_int rfl _ _ rfl w.heap.size _ (negTo ws j) rfl (ho.out.alloc _) _ (-(ix ws t)) rfl (cell_new _ _ _ _) HI.out HL.out ?_ ?_; (simp; omega); intro v' w' h1 h2 h3; have HO := Lib.hid h1; have HG := Lib.hid h3; clear h1 h2 h3; go_wp2))
      go_roundw
      case rel => exact ⟨j + 1, by omega, by have := HJ.out; simp only [Value.int.injEq, true_and]; omega, by rw [negTo_succ, ← HT.out]; exact HO.out, Chg.new (hg.out.alloc _) HG.out (fun i hi => by omega)⟩
      case measure => first | (simp [intOf]; done) | (have := HJ.out; simp [intOf]; omega)
    · obtain rfl : j = ws.length := by omega
      have hge : ¬ (0 : Int) ≤ (ws.length : Int) - 1 - ws.length := by omega
      go_wp2
      go_ret
      exact ⟨_, rfl, ho.out.ints, hg.out⟩
theorem l03Inverse_any (w : World) (S : Nat → Prop) (v : Value) (ws : List Int) (h : Ints w S v ws) (hL : Lett ws) (hl : ws.length ≤ 100000) :
    Calls Try.prog 165 #[v] w fun e w' => ∃ u, e = .returned u ∧ Ints w' (New w.heap.size w'.heap.size) u (negL ws) ∧ Up w w' := by
  obtain ⟨A, c, rfl, hlc, hcm, -⟩ := h.shape
  have H := Lib.hid h
  have HLT := Lib.hid hL
  clear h hL
  go_enter Try.func165, Try.ntmps165
  go_wp2
  go_loopw [3, 4] (fun v i wr => ∃ j : Nat, j ≤ ws.length ∧ i = .int .i64 ((ws.length : Int) - 1 - j) ∧ Hid (OwnI wr w.heap.size v (negTo ws j)) ∧ Hid (Up w wr)) (fun _ i _ => (intOf i + 1).toNat)
  case atStart => exact ⟨0, by omega, by simp, OwnI.made w _ (Nat.le_refl _), (Chg.refl _ _).alloc _⟩
  case round =>
    obtain ⟨j, hj, rfl, ho, hg⟩ := hrel
    by_cases hlt : j < ws.length
    · have hbd := HLT.out.ix (show ws.length - 1 - j < ws.length by omega)
      have HI := Lib.hid (show I64 (-(ix ws (ws.length - 1 - j))) by unfold I64; omega)
      have HL := Lib.hid (show (negTo ws j).length ≤ 1099511627776 by rw [negTo_length]; omega)
      obtain ⟨b1, o1, rfl, -, hc1⟩ := (H.out.up hg.out).ix (show ws.length - 1 - j < ws.length by omega)
      have f1 := hc1 (ws.length - 1 - j) (by omega)
      have hbd1 : -11 ≤ ix ws (ws.length - 1 - j) := by omega
      have hbd2 : ix ws (ws.length - 1 - j) ≤ 11 := by omega
      have hidx : (ws.length : Int) - 1 - j = ((ws.length - 1 - j : Nat) : Int) := by omega
      have hsz := hg.out.size
      have hlt2 : ws.length - 1 - j < ws.length := by omega
      have HJ := Lib.hid hidx
      obtain ⟨t, ht⟩ : ∃ t : Nat, t = ws.length - 1 - j := ⟨_, rfl⟩
      rw [hidx]
      rw [← ht] at f1 hbd1 hbd2 hlt2 HI HJ ⊢
      have HT := Lib.hid ht
      clear hbd hc1 hidx ht
      go_wp2_with (first | (at_builtin; refine wp_append_int rfl _ _ rfl w.heap.size _ (negTo ws j) rfl (ho.out.alloc _) _ (-(ix ws t)) rfl (cell_new _ _ _ _) HI.out HL.out ?_ ?_; (simp; omega); intro v' w' h1 h2 h3; have HO := Lib.hid h1; have HG := Lib.hid h3; clear h1 h2 h3; go_wp2))
      go_roundw
      case rel => exact ⟨j + 1, by omega, by have := HJ.out; simp only [Value.int.injEq, true_and]; omega, by rw [negTo_succ, ← HT.out]; exact HO.out, Chg.new (hg.out.alloc _) HG.out (fun i hi => by omega)⟩
      case measure => first | (simp [intOf]; done) | (have := HJ.out; simp [intOf]; omega)
    · obtain rfl : j = ws.length := by omega
      have hge : ¬ (0 : Int) ≤ (ws.length : Int) - 1 - ws.length := by omega
      go_wp2
      go_ret
      exact ⟨_, rfl, ho.out.ints, hg.out⟩
def absK (k : Int) : Int := if k < 0 then -k else k
def signK (k : Int) : Int := if k < 0 then -1 else 1
theorem signK_bd (k : Int) : -1 ≤ signK k ∧ signK k ≤ 1 := by unfold signK; split <;> omega
def evK (k : Int) : EvM := ⟨1, absK k - 1, signK k, 0, 0, 0⟩
def evL (ws : List Int) : List EvM := ws.map evK
theorem evL_take {ws : List Int} {j : Nat} (h : j < ws.length) : evL (ws.take (j + 1)) = evL (ws.take j) ++ [evK ws[j]] := by
  unfold evL
  rw [List.take_succ_eq_append_getElem h, List.map_append]
  rfl
theorem evL_length (ws : List Int) : (evL ws).length = ws.length := by simp [evL]
theorem l03Abs_any (w : World) (k : Int) (h : -11 ≤ k ∧ k ≤ 11) : Calls Try.prog 166 #[.int .i64 k] w fun e w' => e = .returned (.int .i64 (absK k)) ∧ w = w' := by
  obtain ⟨h0, h1⟩ := h
  by_cases hk : k < 0
  · have HA := Lib.hid (show absK k = -k by unfold absK; rw [if_pos hk])
    go_enter Try.func166, Try.ntmps166
    go_wp2
    go_ret
    exact ⟨ret_int HA.out.symm, rfl⟩
  · have HA := Lib.hid (show absK k = k by unfold absK; rw [if_neg hk])
    go_enter Try.func166, Try.ntmps166
    go_wp2
    go_ret
    exact ⟨ret_int HA.out.symm, rfl⟩
theorem size_any (w : World) (k : Int) (h : -11 ≤ k ∧ k ≤ 11) : Calls Try.prog 127 #[.int .i64 k] w fun e w' => e = .returned (.int .i64 (absK k)) ∧ w = w' := by
  obtain ⟨h0, h1⟩ := h
  have hw : IntKind.i64.wrap (-k) = -k := IntWalk.i64_in _ (by omega)
  go_enter Try.func127, Try.ntmps127
  go_wp2
  all_goals (go_ret; exact ⟨ret_int (by unfold absK; split <;> omega), rfl⟩)
theorem wordEvents_any (w : World) (S : Nat → Prop) (v : Value) (ws : List Int) (h : Ints w S v ws) (hL : Lett ws) (hl : ws.length ≤ 1000000) :
    Calls Try.prog 100 #[v] w fun e w' => ∃ u, e = .returned u ∧ Evs w' (New w.heap.size w'.heap.size) u (evL ws) ∧ Up w w' := by
  obtain ⟨A, c, rfl, hlc, hcm, -⟩ := h.shape
  have H := Lib.hid h
  have HLT := Lib.hid hL
  clear h hL
  go_enter Try.func100, Try.ntmps100
  go_wp2
  go_loopw [3, 9] (fun v i wr => ∃ j : Nat, j ≤ ws.length ∧ i = .int .i64 j ∧ Hid (OwnEvs wr w.heap.size v (evL (ws.take j))) ∧ Hid (Up w wr)) (fun _ i _ => ws.length - (intOf i).toNat)
  case atStart => exact ⟨0, by omega, rfl, OwnEvs.made w _ (Nat.le_refl _), (Chg.refl _ _).alloc _⟩
  case round =>
    obtain ⟨j, hj, rfl, ho, hg⟩ := hrel
    by_cases hlt : j < ws.length
    · have hbd := HLT.out.ix hlt
      rw [ix_eq hlt] at hbd
      have HL := Lib.hid (show (evL (ws.take j)).length ≤ 1099511627775 by rw [evL_length, List.length_take]; omega)
      obtain ⟨b1, o1, rfl, -, hc1⟩ := (H.out.up hg.out).ix hlt
      have f1 := hc1 j hlt
      rw [ix_eq hlt] at f1
      have hsz := hg.out.size
      have HT := Lib.hid (evL_take hlt)
      have HB := Lib.hid hbd
      have HK11 : Hid (-11 ≤ ws[j] ∧ ws[j] ≤ 11) := Lib.hid (by omega)
      have hab0 : 1 ≤ absK ws[j] ∧ absK ws[j] ≤ 11 := by unfold absK; split <;> omega
      have HY : Hid ((evK ws[j]).ok) := Lib.hid (by have h1 := signK_bd ws[j]; unfold EvM.ok evK I64; simp only []; omega)
      obtain ⟨ha1, ha2⟩ := hab0
      clear hc1 hbd
      have hq : IntKind.i64.wrap ((ws[j]).tdiv (absK ws[j])) = signK ws[j] := by
        have := HB.out
        unfold absK signK
        by_cases hn : ws[j] < 0
        · rw [if_pos hn, if_pos hn, Int.tdiv_neg, Int.tdiv_self (by omega)]
          rfl
        · rw [if_neg hn, if_neg hn, Int.tdiv_self (by omega)]
          rfl
      go_wp2_with (first | (go_at_call 127; refine (size_any _ _ HK11.out).mono ?_; rintro e w' ⟨rfl, rfl⟩) | (at_builtin; refine wp_append1Evs rfl _ _ rfl w.heap.size _ (evL (ws.take j)) rfl (ho.out.alloc _) _ (evK ws[j]) rfl (heap_alloc_new _ _) HY.out HL.out (by simp; omega) ?_; intro v' w' h1 h2 h3; have HO := Lib.hid h1; have HG := Lib.hid h3; clear h1 h2 h3))
      go_roundw
      case rel => exact ⟨j + 1, by omega, by go_num, by rw [HT.out]; exact HO.out, Chg.new (hg.out.alloc _) HG.out (fun i hi => by omega)⟩
      case measure => first | (simp [intOf]; done) | (simp [intOf]; omega)
    · obtain rfl : j = ws.length := by omega
      have HE := Lib.hid (show ws.take ws.length = ws from List.take_length)
      go_wp2
      go_ret
      exact ⟨_, rfl, by have h := ho.out.rd; rw [HE.out] at h; exact h, hg.out⟩
theorem l10Letters_any (w : World) (S : Nat → Prop) (v : Value) (ws : List Int) (h : Ints w S v ws) (hL : Lett ws) (hl : ws.length ≤ 1000000) :
    Calls Try.prog 98 #[v] w fun e w' => ∃ u, e = .returned u ∧ Evs w' (New w.heap.size w'.heap.size) u (evL ws) ∧ Up w w' := by
  obtain ⟨A, c, rfl, hlc, hcm, -⟩ := h.shape
  have H := Lib.hid h
  have HLT := Lib.hid hL
  clear h hL
  go_enter Try.func98, Try.ntmps98
  go_wp2
  go_loopw [3, 4] (fun v i wr => ∃ j : Nat, j ≤ ws.length ∧ i = .int .i64 j ∧ Hid (OwnEvs wr w.heap.size v (evL (ws.take j))) ∧ Hid (Up w wr)) (fun _ i _ => ws.length - (intOf i).toNat)
  case atStart => exact ⟨0, by omega, rfl, OwnEvs.made w _ (Nat.le_refl _), (Chg.refl _ _).alloc _⟩
  case round =>
    obtain ⟨j, hj, rfl, ho, hg⟩ := hrel
    by_cases hlt : j < ws.length
    · have hbd := HLT.out.ix hlt
      rw [ix_eq hlt] at hbd
      have HL := Lib.hid (show (evL (ws.take j)).length ≤ 1099511627775 by rw [evL_length, List.length_take]; omega)
      obtain ⟨b1, o1, rfl, -, hc1⟩ := (H.out.up hg.out).ix hlt
      have f1 := hc1 j hlt
      rw [ix_eq hlt] at f1
      have hsz := hg.out.size
      have HT := Lib.hid (evL_take hlt)
      have HB := Lib.hid hbd
      have HK11 : Hid (-11 ≤ ws[j] ∧ ws[j] ≤ 11) := Lib.hid (by omega)
      have hab0 : 1 ≤ absK ws[j] ∧ absK ws[j] ≤ 11 := by unfold absK; split <;> omega
      have HY : Hid ((evK ws[j]).ok) := Lib.hid (by have h1 := signK_bd ws[j]; unfold EvM.ok evK I64; simp only []; omega)
      obtain ⟨ha1, ha2⟩ := hab0
      clear hc1 hbd
      have f1' := Chg.cell ((Chg.refl Nowhere wr).alloc (.cells #[.int .i64 1, .int .i64 (absK ws[j] - 1), .int .i64 1, .int .i64 0, .int .i64 0, .int .i64 0] 106)) f1 id
      by_cases hn : ws[j] < 0
      · have HC := Lib.hid (show (evK ws[j]).cells.toArray = #[.int .i64 1, .int .i64 (absK ws[j] - 1), .int .i64 (-1), .int .i64 0, .int .i64 0, .int .i64 0] by unfold evK signK; rw [if_pos hn]; rfl)
        go_wp2_with (first | (go_at_call 166; refine (l03Abs_any _ _ HK11.out).mono ?_; rintro e w' ⟨rfl, rfl⟩) | (at_builtin; refine wp_append1Evs rfl _ _ rfl w.heap.size _ (evL (ws.take j)) rfl ((ho.out.alloc _).alloc _) _ (evK ws[j]) rfl (by rw [HC.out]; exact heap_new_at (by simp)) HY.out HL.out (by simp; omega) ?_; intro v' w' h1 h2 h3; have HO := Lib.hid h1; have HG := Lib.hid h3; clear h1 h2 h3))
        go_roundw
        case rel => exact ⟨j + 1, by omega, by go_num, by rw [HT.out]; exact HO.out, Chg.new ((hg.out.alloc _).alloc _) HG.out (fun i hi => by omega)⟩
        case measure => first | (simp [intOf]; done) | (simp [intOf]; omega)
      · have HC := Lib.hid (show (evK ws[j]).cells.toArray = #[.int .i64 1, .int .i64 (absK ws[j] - 1), .int .i64 (1), .int .i64 0, .int .i64 0, .int .i64 0] by unfold evK signK; rw [if_neg hn]; rfl)
        go_wp2_with (first | (go_at_call 166; refine (l03Abs_any _ _ HK11.out).mono ?_; rintro e w' ⟨rfl, rfl⟩) | (at_builtin; refine wp_append1Evs rfl _ _ rfl w.heap.size _ (evL (ws.take j)) rfl ((ho.out.alloc _).alloc _) _ (evK ws[j]) rfl (by rw [HC.out]; exact heap_new_at (by simp)) HY.out HL.out (by simp; omega) ?_; intro v' w' h1 h2 h3; have HO := Lib.hid h1; have HG := Lib.hid h3; clear h1 h2 h3))
        go_roundw
        case rel => exact ⟨j + 1, by omega, by go_num, by rw [HT.out]; exact HO.out, Chg.new ((hg.out.alloc _).alloc _) HG.out (fun i hi => by omega)⟩
        case measure => first | (simp [intOf]; done) | (simp [intOf]; omega)
    · obtain rfl : j = ws.length := by omega
      have HE := Lib.hid (show ws.take ws.length = ws from List.take_length)
      go_wp2
      go_ret
      exact ⟨_, rfl, by have h := ho.out.rd; rw [HE.out] at h; exact h, hg.out⟩
end Go.Proofs.Ytjgdcjhmfbefdaa
set_option linter.unusedSimpArgs false
set_option linter.unusedVariables false
set_option maxRecDepth 100000
set_option maxHeartbeats 1000000
namespace Go.Proofs.Ytjgdcjhmfbefdaa
open Go.ChangeShapes Go.WideShapes Go.ChangeAt Go.RowKit
theorem identM_mem {n : Nat} {x : Int} : x ∈ identM n ↔ 0 ≤ x ∧ x < n := by
  unfold identM
  rw [List.mem_map]
  constructor
  · rintro ⟨i, hi, rfl⟩
    have := List.mem_range.1 hi
    omega
  · intro h
    exact ⟨x.toNat, List.mem_range.2 (by omega), by omega⟩
theorem identM_nodup (n : Nat) : (identM n).Nodup := by
  unfold identM
  rw [List.nodup_iff_pairwise_ne, List.pairwise_map]
  refine List.Pairwise.imp ?_ (List.nodup_iff_pairwise_ne.1 List.nodup_range)
  intro a b h he
  exact h (by omega)
theorem perm_half {n : Nat} (hn : n ≤ 12) : permB (halfM n) = true := by
  unfold permB halfM
  simp only [Bool.and_eq_true, decide_eq_true_eq, List.length_reverse, identM_length]
  refine ⟨⟨hn, fun x hx => ?_⟩, ?_⟩
  · exact identM_mem.1 (List.mem_reverse.1 hx)
  · rw [List.nodup_iff_pairwise_ne, List.pairwise_reverse]
    exact (List.nodup_iff_pairwise_ne.1 (identM_nodup n)).imp fun h e => h e.symm
def twist (x : NormM) : List Int := wordM (halfM x.n.toNat)
def twistS (x : NormM) : List Int := if x.p < 0 then negL (twist x) else twist x
def powTo (x : NormM) : Nat → List Int
  | 0 => []
  | k + 1 => powTo x k ++ twistS x
def facsTo (x : NormM) (j : Nat) : List Int := (x.fs.take j).flatMap wordM
theorem facsTo_succ {x : NormM} {j : Nat} (h : j < x.fs.length) : facsTo x (j + 1) = facsTo x j ++ wordM x.fs[j] := by
  unfold facsTo
  rw [List.take_succ_eq_append_getElem h, List.flatMap_append]
  simp
def brW (x : NormM) : List Int := powTo x x.p.natAbs ++ facsTo x x.fs.length
theorem twistS_length (x : NormM) : (twistS x).length ≤ 2001 := by
  unfold twistS twist
  split
  · rw [negL_length]; exact wordM_length _
  · exact wordM_length _
theorem powTo_length (x : NormM) : ∀ k, (powTo x k).length ≤ k * 2001
  | 0 => by simp [powTo]
  | k + 1 => by
    have h1 := powTo_length x k
    have h2 := twistS_length x
    rw [powTo, List.length_append, Nat.add_mul]
    omega
theorem facsTo_length (x : NormM) : ∀ j, (facsTo x j).length ≤ j * 2001 := by
  intro j
  induction j with
  | zero => simp [facsTo]
  | succ j ih =>
    by_cases h : j < x.fs.length
    · rw [facsTo_succ h, List.length_append, Nat.add_mul]
      have := wordM_length x.fs[j]
      omega
    · have e : facsTo x (j + 1) = facsTo x j := by unfold facsTo; rw [List.take_of_length_le (by omega), List.take_of_length_le (by omega)]
      rw [e, Nat.add_mul]
      omega
theorem okN_perm {x : NormM} (h : okN x = true) {j : Nat} (hj : j < x.fs.length) : permB x.fs[j] = true := by
  cases hb : facB x.n x.fs j with
  | false => rw [okN_fac hj hb] at h; cases h
  | true =>
    unfold facB at hb
    simp only [Bool.and_eq_true] at hb
    have := hb.1.1.1.2
    rwa [fac_eq hj] at this
theorem okN_pb {x : NormM} (h : okN x = true) : -100 ≤ x.p ∧ x.p ≤ 100 := by
  cases hb : inB x.p (-100) 100 with
  | false => rw [okN_p hb] at h; cases h
  | true => exact of_decide_eq_true hb
theorem okN_fl {x : NormM} (h : okN x = true) : x.fs.length ≤ 100 := by
  by_cases hb : x.fs.length ≤ 100
  · exact hb
  · rw [okN_l hb] at h; cases h
theorem Lett.nil : Lett [] := fun x hx => by simp at hx
theorem Lett.app {a b : List Int} (h : Lett a) (k : Lett b) : Lett (a ++ b) := fun x hx => (List.mem_append.1 hx).elim (h x) (k x)
theorem Lett.twist {x : NormM} (h : okN x = true) : Lett (twist x) := Lett.word (perm_half (by have := okN_bd h; omega))
theorem Lett.twistS {x : NormM} (h : okN x = true) : Lett (twistS x) := by
  unfold Go.Proofs.Ytjgdcjhmfbefdaa.twistS
  split
  · exact (Lett.twist h).neg
  · exact Lett.twist h
theorem Lett.pow {x : NormM} (h : okN x = true) : ∀ k, Lett (powTo x k)
  | 0 => Lett.nil
  | k + 1 => (Lett.pow h k).app (Lett.twistS h)
theorem Lett.facs {x : NormM} (h : okN x = true) : ∀ j, j ≤ x.fs.length → Lett (facsTo x j)
  | 0, _ => by unfold facsTo; simpa using Lett.nil
  | j + 1, hj => by rw [facsTo_succ (show j < x.fs.length by omega)]; exact (Lett.facs h j (by omega)).app (Lett.word (okN_perm h _))
theorem Lett.brW {x : NormM} (h : okN x = true) : Lett (brW x) := (Lett.pow h _).app (Lett.facs h _ (Nat.le_refl _))
def BrnPost (x : NormM) (w : World) (e : Ending) (w' : World) : Prop :=
  ((brW x).length ≤ 40 → ∃ u, e = .returned (.tuple #[.agg #[.int .i64 x.n, u], .int .i64 0]) ∧ Ints w' (New w.heap.size w'.heap.size) u (brW x)) ∧
  (¬ (brW x).length ≤ 40 → e = .returned (.tuple #[.agg #[.int .i64 0, .slice none 0 0], .int .i64 5])) ∧ Up w w'
end Go.Proofs.Ytjgdcjhmfbefdaa
set_option linter.unusedSimpArgs false
set_option linter.unusedVariables false
set_option maxRecDepth 100000
set_option maxHeartbeats 4000000
namespace Go.Proofs.Ytjgdcjhmfbefdaa
open Go.ChangeShapes Go.WideShapes Go.ChangeAt Go.RowKit
theorem sHalf_any (w : World) (x : NormM) (h : 0 ≤ x.n ∧ x.n ≤ 12) :
    Calls Try.prog 164 #[.int .i64 x.n] w fun e w' => ∃ v, e = .returned v ∧ Ints w' (New w.heap.size w'.heap.size) v (halfM x.n.toNat) ∧ Up w w' := by
  have := l04Half_any w x.n.toNat (by omega)
  rwa [Int.toNat_of_nonneg h.1] at this
theorem iHalf_any (w : World) (x : NormM) (h : 0 ≤ x.n ∧ x.n ≤ 12) :
    Calls Try.prog 158 #[.int .i64 x.n] w fun e w' => ∃ v, e = .returned v ∧ Ints w' (New w.heap.size w'.heap.size) v (halfM x.n.toNat) ∧ Up w w' := by
  have := halfTwist_any w x.n.toNat (by omega)
  rwa [Int.toNat_of_nonneg h.1] at this
theorem sBraidP_any (w : World) (M H L : Nat → Prop) (v : Value) (x : NormM) (h : NormV w M H L v x) (hok : okN x = true) (hs : 0 ≤ x.p) :
    Calls Try.prog 97 #[v] w (BrnPost x w) := by
  obtain ⟨A, c, rfl, h0, ⟨hlc, hcm⟩, -, -⟩ := h
  have UW := Lib.hid (show Up w ((w.alloc (.cells #[.int .i64 x.n, .int .i64 x.p, .slice A x.fs.length c] 100)).alloc (.cells #[.int .i64 0, .slice none 0 0] 148)) from ((Chg.refl Nowhere w).alloc _).alloc _)
  have H0 := Lib.hid (h0.up UW.out)
  have Hc0 := Lib.hid (show ((w.alloc (.cells #[.int .i64 x.n, .int .i64 x.p, .slice A x.fs.length c] 100)).alloc (.cells #[.int .i64 0, .slice none 0 0] 148)).cell? ⟨w.heap.size, 0, none⟩ = some (.int .i64 x.n) from Chg.cell ((Chg.refl Nowhere _).alloc _) (cell_new w _ _ 0) id)
  have Hc1 := Lib.hid (show ((w.alloc (.cells #[.int .i64 x.n, .int .i64 x.p, .slice A x.fs.length c] 100)).alloc (.cells #[.int .i64 0, .slice none 0 0] 148)).cell? ⟨w.heap.size, 1, none⟩ = some (.int .i64 x.p) from Chg.cell ((Chg.refl Nowhere _).alloc _) (cell_new w _ _ 1) id)
  have Hc2 := Lib.hid (show ((w.alloc (.cells #[.int .i64 x.n, .int .i64 x.p, .slice A x.fs.length c] 100)).alloc (.cells #[.int .i64 0, .slice none 0 0] 148)).cell? ⟨w.heap.size, 2, none⟩ = some (.slice A x.fs.length c) from Chg.cell ((Chg.refl Nowhere _).alloc _) (cell_new w _ _ 2) id)
  have Hr0 := Lib.hid (cell_at (by simp) rfl : ((w.alloc (.cells #[.int .i64 x.n, .int .i64 x.p, .slice A x.fs.length c] 100)).alloc (.cells #[.int .i64 0, .slice none 0 0] 148)).cell? ⟨w.heap.size + 1, 0, none⟩ = some (.int .i64 0))
  have Hr1 := Lib.hid (cell_at (by simp) rfl : ((w.alloc (.cells #[.int .i64 x.n, .int .i64 x.p, .slice A x.fs.length c] 100)).alloc (.cells #[.int .i64 0, .slice none 0 0] 148)).cell? ⟨w.heap.size + 1, 1, none⟩ = some (.slice none 0 0))
  have hsA : (w.alloc (.cells #[.int .i64 x.n, .int .i64 x.p, .slice A x.fs.length c] 100)).heap.size = w.heap.size + 1 := by simp
  have Hy0 : Hid (((w.alloc (.cells #[.int .i64 x.n, .int .i64 x.p, .slice A x.fs.length c] 100)).alloc (.cells #[.int .i64 0, .slice none 0 0] 148)).frozen? ⟨w.heap.size + 1, 0, none⟩ = false) := Lib.hid (by have h := frozen_new (w.alloc (.cells #[.int .i64 x.n, .int .i64 x.p, .slice A x.fs.length c] 100)) #[.int .i64 0, .slice none 0 0] 148 0; rw [hsA] at h; exact h)
  have Hy1 : Hid (((w.alloc (.cells #[.int .i64 x.n, .int .i64 x.p, .slice A x.fs.length c] 100)).alloc (.cells #[.int .i64 0, .slice none 0 0] 148)).frozen? ⟨w.heap.size + 1, 1, none⟩ = false) := Lib.hid (by have h := frozen_new (w.alloc (.cells #[.int .i64 x.n, .int .i64 x.p, .slice A x.fs.length c] 100)) #[.int .i64 0, .slice none 0 0] 148 1; rw [hsA] at h; exact h)
  have HOK := Lib.hid hok
  have HBD := Lib.hid (okN_bd hok)
  have HPB := Lib.hid (okN_pb hok)
  have HFL := Lib.hid (okN_fl hok)
  have HZ0 : Hid (((w.alloc (.cells #[.int .i64 x.n, .int .i64 x.p, .slice A x.fs.length c] 100)).alloc (.cells #[.int .i64 0, .slice none 0 0] 148)).heap.size = w.heap.size + 2) := Lib.hid (by simp)
  clear h0 hok hsA
  have HS := Lib.hid hs
  clear hs
  go_enter Try.func97, Try.ntmps97
  go_wp2_with fail
  refine (l04Ok_any _ M H L w.heap.size 0 x A c Hc0.out Hc1.out Hc2.out H0.out hlc hcm).mono ?_
  rintro e w1 ⟨rfl, g1⟩
  rw [HOK.out]
  have G1 := Lib.hid g1
  have hz1 := g1.size
  have M1 := Lib.hid (OwnI.made w1 w1.heap.size (Nat.le_refl _))
  have Q0 := Chg.cell (Chg.alloc g1 (.cells #[] 2)) Hc0.out id
  clear g1
  go_wp2_with fail
  refine (sHalf_any _ x HBD.out).mono ?_
  rintro e w2 ⟨v2, rfl, k2, g2⟩
  clear Q0
  go_wp2_with fail
  refine (l04Word_any _ _ _ _ k2 (perm_half (by have := HBD.out; omega))).mono ?_
  rintro e w3 ⟨v3, rfl, k3, g3⟩
  obtain ⟨B3, d3, rfl, -, -, -⟩ := k3.shape
  have U13 := Lib.hid (show Up w1 w3 from Chg.trans (Chg.trans (by repeat (first | exact Chg.refl _ _ | apply Chg.drew | apply Chg.drewN | refine Chg.alloc ?_ _)) g2) g3)
  have U3 := Lib.hid (Chg.trans G1.out U13.out)
  have K3 := Lib.hid (show Ints w3 _ _ (twist x) from k3)
  have M3 := Lib.hid (M1.out.up (Chg.trans (Chg.refl _ _) (Chg.trans g2 g3)))
  have hz3 := U13.out.size
  have hz12 : w1.heap.size + 1 ≤ w2.heap.size := by have := g2.size; simpa using this
  have hz23 := g3.size
  clear k2 k3 g2 g3
  have HLT := Lib.hid (Lett.twist HOK.out)
  have HLB := Lib.hid (show (twist x).length ≤ 2001 from wordM_length _)
  have HPL := Lib.hid (powTo_length x)
  have HFA := Lib.hid (facsTo_length x)
  have HTS := Lib.hid (show twistS x = twist x from by have := HS.out; unfold twistS; rw [if_neg (by omega)])
  go_wp2
  go_loopw [4, 6] (fun v i wr => ∃ k : Nat, k ≤ x.p.natAbs ∧ i = .int .i64 ((k : Int)) ∧ Hid (OwnI wr w1.heap.size v (powTo x k)) ∧ Hid (Up w1 wr) ∧ Hid (Ints wr (New w2.heap.size w3.heap.size) (.slice B3 (twist x).length d3) (twist x)) ∧ Hid (∀ g, v.ownBlock = some g → g < w2.heap.size ∨ w3.heap.size ≤ g) ∧ Hid (w3.heap.size ≤ wr.heap.size)) (fun _ i _ => x.p.natAbs - (intOf i).natAbs)
  case atStart => exact ⟨0, by omega, rfl, M3.out, U13.out, K3.out, fun g hg => by have : w1.heap.size = g := (by simpa [Value.ownBlock] using hg); have := hz12; omega, Nat.le_refl _⟩
  case round =>
    obtain ⟨k, hk, rfl, ho, hu, ht, ha, hz⟩ := hrel
    have c1 := Chg.cell (Chg.trans G1.out hu.out) Hc1.out id
    have hsp := HS.out
    by_cases hlt : k < x.p.natAbs
    · have hpl := HPL.out k
      have hpl2 : k * 2001 ≤ 100 * 2001 := Nat.mul_le_mul_right _ (by have := HPB.out; omega)
      have hlb := HLB.out
      have HL := Lib.hid (show (powTo x k).length + (twist x).length ≤ 1099511627776 by omega)
      have hsz := hu.out.size
      go_wp2_with (at_builtin; refine wp_append_ints rfl _ _ rfl w1.heap.size _ (powTo x k) rfl ho.out _ _ (twist x) rfl ht.out HL.out (by omega) ?_; (intro v' w' h1 h2 h3 h4; have HO := Lib.hid h1; have HC := Lib.hid h2; have HN := Lib.hid h3; have HG := Lib.hid h4; clear h1 h2 h3 h4))
      have hz5 := HG.out.size
      have hz6 := hz.out
      go_roundw
      case rel => exact ⟨k + 1, by omega, by go_num, by rw [show powTo x (k + 1) = powTo x k ++ twistS x from rfl, HTS.out]; exact HO.out, Chg.new hu.out HG.out (fun i hi => by omega), ht.out.keep HC.out (fun b hb h he => by have := ha.out b he; have := h.1; have := h.2; omega), fun g hg => (HN.out g hg).elim (ha.out g) (fun h => .inr (by omega)), Lib.hid (by omega)⟩
      case measure => first | (simp [intOf]; done) | (simp [intOf]; omega)
    · obtain rfl : k = x.p.natAbs := by omega
      go_wp2
      go_loopw [4, 7] (fun v i wr => i = .int .i64 0 ∧ Hid (OwnI wr w1.heap.size v (powTo x x.p.natAbs)) ∧ Hid (Up w1 wr) ∧ Hid (Ints wr (New w2.heap.size w3.heap.size) (.slice B3 (twist x).length d3) (twist x)) ∧ Hid (∀ g, v.ownBlock = some g → g < w2.heap.size ∨ w3.heap.size ≤ g) ∧ Hid (w3.heap.size ≤ wr.heap.size)) (fun _ i _ => 0)
      case atStart => exact ⟨rfl, ho, hu, ht, ha, hz⟩
      case round =>
        obtain ⟨rfl, ho, hu, ht, ha, hz⟩ := hrel
        have c1 := Chg.cell (Chg.trans G1.out hu.out) Hc1.out id
        have hsp := HS.out
        go_wp2
        have HO5 := Lib.hid (show OwnI _ w1.heap.size _ (powTo x x.p.natAbs ++ facsTo x 0) by have e : facsTo x 0 = [] := rfl; rw [e, List.append_nil]; exact ho.out)
        have U5 := Lib.hid hu.out
        clear ho hu ht ha hz
        go_loopw [4, 8] (fun v i wr => ∃ j : Nat, j ≤ x.fs.length ∧ i = .int .i64 j ∧ Hid (OwnI wr w1.heap.size v (powTo x x.p.natAbs ++ facsTo x j)) ∧ Hid (Up w1 wr)) (fun _ i _ => x.fs.length - (intOf i).toNat)
        case atStart => exact ⟨0, by omega, rfl, HO5, U5⟩
        case round =>
          clear U5 HO5
          obtain ⟨j, hj, rfl, ho, hu⟩ := hrel
          have c2 := Chg.cell (Chg.trans G1.out hu.out) Hc2.out id
          have hpl := HPL.out x.p.natAbs
          have hpl2 : x.p.natAbs * 2001 ≤ 100 * 2001 := Nat.mul_le_mul_right _ (by have := HPB.out; omega)
          have hfl := HFL.out
          have hfa := HFA.out j
          have hfa2 : j * 2001 ≤ 100 * 2001 := Nat.mul_le_mul_right _ (by omega)
          by_cases hlt : j < x.fs.length
          · obtain ⟨b3, o3, c3', vs3, he3, -, -, -, hE3, hc3⟩ := (H0.out.up (Chg.trans G1.out hu.out)).at_ hlt
            obtain ⟨rfl, rfl⟩ : A = some ⟨b3, o3, none⟩ ∧ c = c3' := by simpa using he3
            obtain ⟨A4, k4, rfl, hv4, -⟩ := hE3.val
            have e0 := (hc3 0 _ rfl).1
            simp only [Nat.mul_one, Nat.add_zero] at e0
            have HV4 := Lib.hid hv4
            have HPJ := Lib.hid (okN_perm HOK.out hlt)
            have hwl := wordM_length x.fs[j]
            have HL := Lib.hid (show (powTo x x.p.natAbs ++ facsTo x j).length + (wordM x.fs[j]).length ≤ 1099511627776 by rw [List.length_append]; omega)
            have HSU := Lib.hid (facsTo_succ hlt)
            have hsz := hu.out.size
            clear hc3 hv4 he3
            go_wp2_with (first | (at_builtin; refine wp_append_ints rfl _ _ rfl w1.heap.size _ (powTo x x.p.natAbs ++ facsTo x j) rfl (ho.out.up G6.out) _ _ (wordM x.fs[j]) rfl K6.out HL.out (by omega) ?_; (intro v' w' h1 h2 h3 h4; have HO := Lib.hid h1; have HC := Lib.hid h2; have HN := Lib.hid h3; have HG := Lib.hid h4; clear h1 h2 h3 h4)) | (go_at_call 163; refine (l04Word_any _ _ _ _ HV4.out HPJ.out).mono ?_; rintro e w6 ⟨v6, rfl, k6, g6⟩; have K6 := Lib.hid k6; have G6 := Lib.hid g6; have hz6 := g6.size; clear k6 g6))
            go_roundw
            case rel => exact ⟨j + 1, by omega, by go_num, by rw [HSU.out, ← List.append_assoc]; exact HO.out, Chg.new (Chg.trans hu.out G6.out) HG.out (fun i hi => by omega)⟩
            case measure => first | (simp [intOf]; done) | (simp [intOf]; omega)
          · obtain rfl : j = x.fs.length := by omega
            have HO := Lib.hid (show OwnI _ w1.heap.size _ (brW x) from ho.out)
            obtain ⟨B7, d7, rfl, -, -, -⟩ := ho.out.ints.shape
            have UT := Lib.hid (Chg.trans G1.out hu.out)
            have c0 := Chg.cell UT.out Hc0.out id
            have r0 := Chg.cell UT.out Hr0.out id
            have r1 := Chg.cell UT.out Hr1.out id
            have y0 := (Chg.frozen UT.out Hr0.out id).trans Hy0.out
            have y1 := (Chg.frozen UT.out Hr1.out id).trans Hy1.out
            have hlen : (powTo x x.p.natAbs ++ facsTo x x.fs.length).length = (brW x).length := rfl
            rw [hlen]
            have UE := Lib.hid (Chg.trans UW.out UT.out)
            clear hpl hpl2 hfl hfa hfa2 hlen ho hu
            by_cases hlg : (brW x).length ≤ 40
            · have HG := Lib.hid hlg
              go_wp2
              refine bodyPost_ret (v := .tuple #[.agg #[.int .i64 x.n, .slice B7 (brW x).length d7], .int .i64 0]) (by rw [results_cell_tmp rfl]; go_simp) rfl ?_
              have hz0 := HZ0.out
              have C7 := Lib.hid (show Chg (fun b => b = w.heap.size + 1) wr ((wr.setCell ⟨w.heap.size + 1, 0, none⟩ (.int .i64 x.n)).setCell ⟨w.heap.size + 1, 1, none⟩ (.slice B7 (brW x).length d7)) from Chg.setCell (Chg.setCell (Chg.refl (fun b => b = w.heap.size + 1) wr) (p := ⟨w.heap.size + 1, 0, none⟩) (.inl rfl) _) (p := ⟨w.heap.size + 1, 1, none⟩) (.inl rfl) _)
              exact ⟨fun _ => ⟨_, rfl, (HO.out.ints.keep C7.out (fun b _ h he => by have := h.1; omega)).mono (fun b _ h => ⟨by have := h.1; omega, Nat.lt_of_lt_of_le h.2 C7.out.size⟩)⟩, fun h => absurd HG.out h, Chg.new UE.out C7.out (fun i hi he => by omega)⟩
            · have HG := Lib.hid hlg
              go_wp2
              refine bodyPost_ret (v := .tuple #[.agg #[.int .i64 0, .slice none 0 0], .int .i64 5]) (by rw [results_cell_tmp rfl]; go_simp) rfl ?_
              exact ⟨fun h => absurd h HG.out, fun _ => rfl, Chg.new UE.out (Chg.setCell (Chg.setCell (Chg.refl (fun b => b = w.heap.size + 1) _) (.inl rfl) _) (.inl rfl) _) (fun i hi he => by omega)⟩
theorem sBraidN_any (w : World) (M H L : Nat → Prop) (v : Value) (x : NormM) (h : NormV w M H L v x) (hok : okN x = true) (hs : x.p < 0) :
    Calls Try.prog 97 #[v] w (BrnPost x w) := by
  obtain ⟨A, c, rfl, h0, ⟨hlc, hcm⟩, -, -⟩ := h
  have UW := Lib.hid (show Up w ((w.alloc (.cells #[.int .i64 x.n, .int .i64 x.p, .slice A x.fs.length c] 100)).alloc (.cells #[.int .i64 0, .slice none 0 0] 148)) from ((Chg.refl Nowhere w).alloc _).alloc _)
  have H0 := Lib.hid (h0.up UW.out)
  have Hc0 := Lib.hid (show ((w.alloc (.cells #[.int .i64 x.n, .int .i64 x.p, .slice A x.fs.length c] 100)).alloc (.cells #[.int .i64 0, .slice none 0 0] 148)).cell? ⟨w.heap.size, 0, none⟩ = some (.int .i64 x.n) from Chg.cell ((Chg.refl Nowhere _).alloc _) (cell_new w _ _ 0) id)
  have Hc1 := Lib.hid (show ((w.alloc (.cells #[.int .i64 x.n, .int .i64 x.p, .slice A x.fs.length c] 100)).alloc (.cells #[.int .i64 0, .slice none 0 0] 148)).cell? ⟨w.heap.size, 1, none⟩ = some (.int .i64 x.p) from Chg.cell ((Chg.refl Nowhere _).alloc _) (cell_new w _ _ 1) id)
  have Hc2 := Lib.hid (show ((w.alloc (.cells #[.int .i64 x.n, .int .i64 x.p, .slice A x.fs.length c] 100)).alloc (.cells #[.int .i64 0, .slice none 0 0] 148)).cell? ⟨w.heap.size, 2, none⟩ = some (.slice A x.fs.length c) from Chg.cell ((Chg.refl Nowhere _).alloc _) (cell_new w _ _ 2) id)
  have Hr0 := Lib.hid (cell_at (by simp) rfl : ((w.alloc (.cells #[.int .i64 x.n, .int .i64 x.p, .slice A x.fs.length c] 100)).alloc (.cells #[.int .i64 0, .slice none 0 0] 148)).cell? ⟨w.heap.size + 1, 0, none⟩ = some (.int .i64 0))
  have Hr1 := Lib.hid (cell_at (by simp) rfl : ((w.alloc (.cells #[.int .i64 x.n, .int .i64 x.p, .slice A x.fs.length c] 100)).alloc (.cells #[.int .i64 0, .slice none 0 0] 148)).cell? ⟨w.heap.size + 1, 1, none⟩ = some (.slice none 0 0))
  have hsA : (w.alloc (.cells #[.int .i64 x.n, .int .i64 x.p, .slice A x.fs.length c] 100)).heap.size = w.heap.size + 1 := by simp
  have Hy0 : Hid (((w.alloc (.cells #[.int .i64 x.n, .int .i64 x.p, .slice A x.fs.length c] 100)).alloc (.cells #[.int .i64 0, .slice none 0 0] 148)).frozen? ⟨w.heap.size + 1, 0, none⟩ = false) := Lib.hid (by have h := frozen_new (w.alloc (.cells #[.int .i64 x.n, .int .i64 x.p, .slice A x.fs.length c] 100)) #[.int .i64 0, .slice none 0 0] 148 0; rw [hsA] at h; exact h)
  have Hy1 : Hid (((w.alloc (.cells #[.int .i64 x.n, .int .i64 x.p, .slice A x.fs.length c] 100)).alloc (.cells #[.int .i64 0, .slice none 0 0] 148)).frozen? ⟨w.heap.size + 1, 1, none⟩ = false) := Lib.hid (by have h := frozen_new (w.alloc (.cells #[.int .i64 x.n, .int .i64 x.p, .slice A x.fs.length c] 100)) #[.int .i64 0, .slice none 0 0] 148 1; rw [hsA] at h; exact h)
  have HOK := Lib.hid hok
  have HBD := Lib.hid (okN_bd hok)
  have HPB := Lib.hid (okN_pb hok)
  have HFL := Lib.hid (okN_fl hok)
  have HZ0 : Hid (((w.alloc (.cells #[.int .i64 x.n, .int .i64 x.p, .slice A x.fs.length c] 100)).alloc (.cells #[.int .i64 0, .slice none 0 0] 148)).heap.size = w.heap.size + 2) := Lib.hid (by simp)
  clear h0 hok hsA
  have HS := Lib.hid hs
  clear hs
  go_enter Try.func97, Try.ntmps97
  go_wp2_with fail
  refine (l04Ok_any _ M H L w.heap.size 0 x A c Hc0.out Hc1.out Hc2.out H0.out hlc hcm).mono ?_
  rintro e w1 ⟨rfl, g1⟩
  rw [HOK.out]
  have G1 := Lib.hid g1
  have hz1 := g1.size
  have M1 := Lib.hid (OwnI.made w1 w1.heap.size (Nat.le_refl _))
  have Q0 := Chg.cell (Chg.alloc g1 (.cells #[] 2)) Hc0.out id
  clear g1
  go_wp2_with fail
  refine (sHalf_any _ x HBD.out).mono ?_
  rintro e w2 ⟨v2, rfl, k2, g2⟩
  clear Q0
  go_wp2_with fail
  refine (l04Word_any _ _ _ _ k2 (perm_half (by have := HBD.out; omega))).mono ?_
  rintro e w3 ⟨v3, rfl, k3, g3⟩
  obtain ⟨B3, d3, rfl, -, -, -⟩ := k3.shape
  have U13 := Lib.hid (show Up w1 w3 from Chg.trans (Chg.trans (by repeat (first | exact Chg.refl _ _ | apply Chg.drew | apply Chg.drewN | refine Chg.alloc ?_ _)) g2) g3)
  have U3 := Lib.hid (Chg.trans G1.out U13.out)
  have K3 := Lib.hid (show Ints w3 _ _ (twist x) from k3)
  have M3 := Lib.hid (M1.out.up (Chg.trans (Chg.refl _ _) (Chg.trans g2 g3)))
  have hz3 := U13.out.size
  have hz12 : w1.heap.size + 1 ≤ w2.heap.size := by have := g2.size; simpa using this
  have hz23 := g3.size
  clear k2 k3 g2 g3
  have HLT := Lib.hid (Lett.twist HOK.out)
  have HLB := Lib.hid (show (twist x).length ≤ 2001 from wordM_length _)
  have HPL := Lib.hid (powTo_length x)
  have HFA := Lib.hid (facsTo_length x)
  have HTS := Lib.hid (show twistS x = negL (twist x) from by have := HS.out; unfold twistS; rw [if_pos (by omega)])
  go_wp2
  go_loopw [4, 6] (fun v i wr => i = .int .i64 0 ∧ Hid (OwnI wr w1.heap.size v (powTo x 0)) ∧ Hid (Up w1 wr) ∧ Hid (Ints wr (New w2.heap.size w3.heap.size) (.slice B3 (twist x).length d3) (twist x)) ∧ Hid (∀ g, v.ownBlock = some g → g < w2.heap.size ∨ w3.heap.size ≤ g) ∧ Hid (w3.heap.size ≤ wr.heap.size)) (fun _ i _ => 0)
  case atStart => exact ⟨rfl, M3.out, U13.out, K3.out, fun g hg => by have : w1.heap.size = g := (by simpa [Value.ownBlock] using hg); have := hz12; omega, Nat.le_refl _⟩
  case round =>
    obtain ⟨rfl, ho, hu, ht, ha, hz⟩ := hrel
    have c1 := Chg.cell (Chg.trans G1.out hu.out) Hc1.out id
    have hsp := HS.out
    go_wp2
    go_loopw [4, 7] (fun v i wr => ∃ k : Nat, k ≤ x.p.natAbs ∧ i = .int .i64 (-(k : Int)) ∧ Hid (OwnI wr w1.heap.size v (powTo x k)) ∧ Hid (Up w1 wr) ∧ Hid (Ints wr (New w2.heap.size w3.heap.size) (.slice B3 (twist x).length d3) (twist x)) ∧ Hid (∀ g, v.ownBlock = some g → g < w2.heap.size ∨ w3.heap.size ≤ g) ∧ Hid (w3.heap.size ≤ wr.heap.size)) (fun _ i _ => x.p.natAbs - (intOf i).natAbs)
    case atStart => exact ⟨0, by omega, rfl, ho, hu, ht, ha, hz⟩
    case round =>
      obtain ⟨k, hk, rfl, ho, hu, ht, ha, hz⟩ := hrel
      have c1 := Chg.cell (Chg.trans G1.out hu.out) Hc1.out id
      have hsp := HS.out
      by_cases hlt : k < x.p.natAbs
      · have hpl := HPL.out k
        have hpl2 : k * 2001 ≤ 100 * 2001 := Nat.mul_le_mul_right _ (by have := HPB.out; omega)
        have hlb := HLB.out
        have HL := Lib.hid (show (powTo x k).length + (negL (twist x)).length ≤ 1099511627776 by rw [negL_length]; omega)
        have hsz := hu.out.size
        go_wp2_with (first | (at_builtin; refine wp_append_ints rfl _ _ rfl w1.heap.size _ (powTo x k) rfl (ho.out.up G4.out) _ _ (negL (twist x)) rfl K4.out HL.out (by omega) ?_; (intro v' w' h1 h2 h3 h4; have HO := Lib.hid h1; have HC := Lib.hid h2; have HN := Lib.hid h3; have HG := Lib.hid h4; clear h1 h2 h3 h4)) | (go_at_call 165; refine (l03Inverse_any _ _ _ (twist x) ht.out HLT.out (by omega)).mono ?_; rintro e w4 ⟨v4, rfl, k4, g4⟩; have K4 := Lib.hid k4; have G4 := Lib.hid g4; have hz4 := g4.size; clear k4 g4))
        have hz5 := HG.out.size
        have hz6 := hz.out
        go_roundw
        case rel => exact ⟨k + 1, by omega, by go_num, by rw [show powTo x (k + 1) = powTo x k ++ twistS x from rfl, HTS.out]; exact HO.out, Chg.new (Chg.trans hu.out G4.out) HG.out (fun i hi => by omega), (ht.out.up G4.out).keep HC.out (fun b hb h he => by have := ha.out b he; have := h.1; have := h.2; omega), fun g hg => (HN.out g hg).elim (ha.out g) (fun h => .inr (by omega)), Lib.hid (by omega)⟩
        case measure => first | (simp [intOf]; done) | (simp [intOf]; omega)
      · obtain rfl : k = x.p.natAbs := by omega
        go_wp2
        have HO5 := Lib.hid (show OwnI _ w1.heap.size _ (powTo x x.p.natAbs ++ facsTo x 0) by have e : facsTo x 0 = [] := rfl; rw [e, List.append_nil]; exact ho.out)
        have U5 := Lib.hid hu.out
        clear ho hu ht ha hz
        go_loopw [4, 8] (fun v i wr => ∃ j : Nat, j ≤ x.fs.length ∧ i = .int .i64 j ∧ Hid (OwnI wr w1.heap.size v (powTo x x.p.natAbs ++ facsTo x j)) ∧ Hid (Up w1 wr)) (fun _ i _ => x.fs.length - (intOf i).toNat)
        case atStart => exact ⟨0, by omega, rfl, HO5, U5⟩
        case round =>
          clear U5 HO5
          obtain ⟨j, hj, rfl, ho, hu⟩ := hrel
          have c2 := Chg.cell (Chg.trans G1.out hu.out) Hc2.out id
          have hpl := HPL.out x.p.natAbs
          have hpl2 : x.p.natAbs * 2001 ≤ 100 * 2001 := Nat.mul_le_mul_right _ (by have := HPB.out; omega)
          have hfl := HFL.out
          have hfa := HFA.out j
          have hfa2 : j * 2001 ≤ 100 * 2001 := Nat.mul_le_mul_right _ (by omega)
          by_cases hlt : j < x.fs.length
          · obtain ⟨b3, o3, c3', vs3, he3, -, -, -, hE3, hc3⟩ := (H0.out.up (Chg.trans G1.out hu.out)).at_ hlt
            obtain ⟨rfl, rfl⟩ : A = some ⟨b3, o3, none⟩ ∧ c = c3' := by simpa using he3
            obtain ⟨A4, k4, rfl, hv4, -⟩ := hE3.val
            have e0 := (hc3 0 _ rfl).1
            simp only [Nat.mul_one, Nat.add_zero] at e0
            have HV4 := Lib.hid hv4
            have HPJ := Lib.hid (okN_perm HOK.out hlt)
            have hwl := wordM_length x.fs[j]
            have HL := Lib.hid (show (powTo x x.p.natAbs ++ facsTo x j).length + (wordM x.fs[j]).length ≤ 1099511627776 by rw [List.length_append]; omega)
            have HSU := Lib.hid (facsTo_succ hlt)
            have hsz := hu.out.size
            clear hc3 hv4 he3
            go_wp2_with (first | (at_builtin; refine wp_append_ints rfl _ _ rfl w1.heap.size _ (powTo x x.p.natAbs ++ facsTo x j) rfl (ho.out.up G6.out) _ _ (wordM x.fs[j]) rfl K6.out HL.out (by omega) ?_; (intro v' w' h1 h2 h3 h4; have HO := Lib.hid h1; have HC := Lib.hid h2; have HN := Lib.hid h3; have HG := Lib.hid h4; clear h1 h2 h3 h4)) | (go_at_call 163; refine (l04Word_any _ _ _ _ HV4.out HPJ.out).mono ?_; rintro e w6 ⟨v6, rfl, k6, g6⟩; have K6 := Lib.hid k6; have G6 := Lib.hid g6; have hz6 := g6.size; clear k6 g6))
            go_roundw
            case rel => exact ⟨j + 1, by omega, by go_num, by rw [HSU.out, ← List.append_assoc]; exact HO.out, Chg.new (Chg.trans hu.out G6.out) HG.out (fun i hi => by omega)⟩
            case measure => first | (simp [intOf]; done) | (simp [intOf]; omega)
          · obtain rfl : j = x.fs.length := by omega
            have HO := Lib.hid (show OwnI _ w1.heap.size _ (brW x) from ho.out)
            obtain ⟨B7, d7, rfl, -, -, -⟩ := ho.out.ints.shape
            have UT := Lib.hid (Chg.trans G1.out hu.out)
            have c0 := Chg.cell UT.out Hc0.out id
            have r0 := Chg.cell UT.out Hr0.out id
            have r1 := Chg.cell UT.out Hr1.out id
            have y0 := (Chg.frozen UT.out Hr0.out id).trans Hy0.out
            have y1 := (Chg.frozen UT.out Hr1.out id).trans Hy1.out
            have hlen : (powTo x x.p.natAbs ++ facsTo x x.fs.length).length = (brW x).length := rfl
            rw [hlen]
            have UE := Lib.hid (Chg.trans UW.out UT.out)
            clear hpl hpl2 hfl hfa hfa2 hlen ho hu
            by_cases hlg : (brW x).length ≤ 40
            · have HG := Lib.hid hlg
              go_wp2
              refine bodyPost_ret (v := .tuple #[.agg #[.int .i64 x.n, .slice B7 (brW x).length d7], .int .i64 0]) (by rw [results_cell_tmp rfl]; go_simp) rfl ?_
              have hz0 := HZ0.out
              have C7 := Lib.hid (show Chg (fun b => b = w.heap.size + 1) wr ((wr.setCell ⟨w.heap.size + 1, 0, none⟩ (.int .i64 x.n)).setCell ⟨w.heap.size + 1, 1, none⟩ (.slice B7 (brW x).length d7)) from Chg.setCell (Chg.setCell (Chg.refl (fun b => b = w.heap.size + 1) wr) (p := ⟨w.heap.size + 1, 0, none⟩) (.inl rfl) _) (p := ⟨w.heap.size + 1, 1, none⟩) (.inl rfl) _)
              exact ⟨fun _ => ⟨_, rfl, (HO.out.ints.keep C7.out (fun b _ h he => by have := h.1; omega)).mono (fun b _ h => ⟨by have := h.1; omega, Nat.lt_of_lt_of_le h.2 C7.out.size⟩)⟩, fun h => absurd HG.out h, Chg.new UE.out C7.out (fun i hi he => by omega)⟩
            · have HG := Lib.hid hlg
              go_wp2
              refine bodyPost_ret (v := .tuple #[.agg #[.int .i64 0, .slice none 0 0], .int .i64 5]) (by rw [results_cell_tmp rfl]; go_simp) rfl ?_
              exact ⟨fun h => absurd h HG.out, fun _ => rfl, Chg.new UE.out (Chg.setCell (Chg.setCell (Chg.refl (fun b => b = w.heap.size + 1) _) (.inl rfl) _) (.inl rfl) _) (fun i hi he => by omega)⟩
theorem sBraid_any (w : World) (M H L : Nat → Prop) (v : Value) (x : NormM) (h : NormV w M H L v x) (hok : okN x = true) :
    Calls Try.prog 97 #[v] w (BrnPost x w) := by
  by_cases hs : x.p < 0
  · exact sBraidN_any w M H L v x h hok hs
  · exact sBraidP_any w M H L v x h hok (by omega)
end Go.Proofs.Ytjgdcjhmfbefdaa
set_option linter.unusedSimpArgs false
set_option linter.unusedVariables false
namespace Go.Proofs.Ytjgdcjhmfbefdaa
open Go.ChangeShapes Go.WideShapes Go.ChangeAt Go.RowKit
set_option maxRecDepth 100000 in
theorem wp_app_own2 {P : Program} {w : World} {o : Oper} {a : Act} {K : Act → World → Prop} {Q : Exit → Act → World → Prop} (s x : Operand) (t : TypeId)
    (ho : o.op = .call { callee := .builtin .append, args := #[s, x], argTypes := #[t, t] })
    (base : Nat) (e : TypeId) (i : TypeInfo) (z : Value) (size bytes : Nat) (ht : P.underlying t = some (.slice e)) (hi : P.info? e = some i) (hz : i.zero = some z)
    (hsize : i.size = size) (hby : i.bytes = bytes) (hzs : z.cells.size = size) (hsz : 0 < size)
    (v : Value) (n : Nat) (xs : List Value) (hs : a.eval s = v) (hown : w.ownsRow base e size v n xs)
    (ad : Addr) (m c : Nat) (news : List Value) (hx : a.eval x = .slice (some ad) m c) (hl : news.length = m * size) (hnews : ∀ j u, news[j]? = some u → w.cell? (ad.add j) = some u) (h1 : ∀ u ∈ news, u.oneCell' = true)
    (h63 : n + m ≤ maxLen) (hbytes : (n + m) * bytes ≤ 140737488355328) (hbase : base ≤ w.heap.size)
    (h : ∀ v' w', w'.ownsRow base e size v' (n + m) (xs ++ news) → w.grownBy w' v.ownBlock → (∀ g, v'.ownBlock = some g → v.ownBlock = some g ∨ w.heap.size ≤ g) → K (a.put o.dst v') w') : o.wp P a w K Q := by
  obtain ⟨v', w', hr, h2, h3, _⟩ := run_append_own (P := P) w base t o.type e i z size bytes ht hi hz hsize hby hzs hsz v n xs hown ad m c news hl hnews h1 h63 hbytes hbase
  have h5 := append_block (P := P) base t o.type e i z size bytes ht hi hz hsize hby hzs hsz v n xs hown ad m c news hl hnews h1 h63 hbytes hr
  unfold Oper.wp execOp
  simp only [ho, resolve, invoke, builtin, Sem.run_bind, Sem.run_pure, Result.andThen_ok, List.map_toArray, List.map_cons, List.map_nil, hs, hx, hr]
  exact h v' w' h2 h3 h5
set_option maxRecDepth 100000 in
set_option maxHeartbeats 4000000 in
theorem step_appInts {w : World} {ops : Array Oper} {o : Oper} {a : Act} {K : Act → World → Prop} {E : Prop} {Q : Exit → Act → World → Prop} (hgd : o.guard = none) (s x : Operand)
    (ho : o.op = .call { callee := .builtin .append, args := #[s, x], argTypes := #[37, 37] })
    (base : Nat) (v : Value) (xs : List Int) (hs : a.eval s = v) (hown : OwnI w base v xs)
    (S : Nat → Prop) (u : Value) (ys : List Int) (hx : a.eval x = u) (hsrc : Ints w S u ys) (hlen : xs.length + ys.length ≤ 1099511627776) (hbase : base ≤ w.heap.size)
    (h : ∀ v' w', OwnI w' base v' (xs ++ ys) → Chg (fun b => v.ownBlock = some b) w w' → (∀ b, v'.ownBlock = some b → v.ownBlock = some b ∨ w.heap.size ≤ b) → Chg (fun k => base ≤ k) w w' → K (a.put o.dst v') w') :
    if Region.wanted o (yielded ops a.tmps) = true then Oper.wp Try.prog o a w K Q else E := by
  have hw : Region.wanted o (yielded ops a.tmps) = true := by simp [Region.wanted, hgd]
  rw [if_pos hw]
  obtain ⟨i0, hi, hz0, hz1, hz2⟩ := info_parts info2
  obtain ⟨A, c, rfl, hlc, hcm, hok, hr, hnn⟩ := hsrc
  have hok' : ∀ y ∈ xs ++ ys, I64 y := fun y hy => (List.mem_append.1 hy).elim (hown.2 y) (hok y)
  cases A with
  | none =>
    have hy : ys = [] := by
      rcases Nat.eq_zero_or_pos ys.length with h0 | h0
      · exact List.eq_nil_of_length_eq_zero h0
      · obtain ⟨b, oo, h1, _⟩ := hr h0
        cases h1
    subst hy
    obtain rfl := hnn rfl
    have hrun := run_append_owned_none (P := Try.prog) (w := w) base 37 o.type 2 i0 1 Try.underlying37 hi v xs.length _ hown.1
    have hK := h v w (by simpa using hown) (Chg.refl _ _) (fun b hb => .inl hb) (Chg.refl _ _)
    unfold Oper.wp
    simp [execOp, ho, resolve, invoke, builtin, hs, hx, hrun, Result.andThen]
    exact hK
  | some ad =>
    have hnews : ∀ j q, (ys.map (Value.int .i64))[j]? = some q → w.cell? (ad.add j) = some q := by
      intro j q hq
      obtain ⟨hj, he⟩ := List.getElem?_eq_some_iff.1 hq
      have hj' : j < ys.length := by simpa using hj
      obtain ⟨b, oo, h1, _, _, hc⟩ := hr (by omega)
      injection h1 with h1
      subst h1
      have := (hc j hj').1
      rw [← he, List.getElem_map, ← this]
      unfold Addr.add
      by_cases h0 : j = 0 <;> simp [h0]
    refine wp_app_own2 (P := Try.prog) s x 37 ho base 2 i0 (.int .i64 0) 1 8 Try.underlying37 hi hz0 hz1 hz2 rfl (by decide) v xs.length _ hs hown.1 ad ys.length c (ys.map (Value.int .i64)) hx (by simp) hnews ?_ ?_ ?_ hbase ?_
    · intro q hq
      obtain ⟨y, _, rfl⟩ := List.mem_map.1 hq
      rfl
    · unfold Go.maxLen; omega
    · omega
    · intro v' w' h2 h3 h4
      exact h v' w' ⟨by simpa using h2, hok'⟩ (Chg.of_grown h3) h4 ((Chg.refl _ _).grown h3 fun k hk => .inl (hown.1.lt k hk).1)
end Go.Proofs.Ytjgdcjhmfbefdaa
set_option linter.unusedSimpArgs false
set_option linter.unusedVariables false
set_option maxRecDepth 100000
set_option maxHeartbeats 4000000
namespace Go.Proofs.Ytjgdcjhmfbefdaa
open Go.ChangeShapes Go.WideShapes Go.ChangeAt Go.RowKit
theorem sizeP_any (w : World) (k : Int) (h : -100 ≤ k ∧ k ≤ 100) : Calls Try.prog 127 #[.int .i64 k] w fun e w' => e = .returned (.int .i64 (k.natAbs : Int)) ∧ w = w' := by
  obtain ⟨h0, h1⟩ := h
  have hw : IntKind.i64.wrap (-k) = -k := IntWalk.i64_in _ (by omega)
  go_enter Try.func127, Try.ntmps127
  go_wp2
  all_goals (go_ret; exact ⟨ret_int (by omega), rfl⟩)
theorem iBraidP_any (w : World) (M H L : Nat → Prop) (v : Value) (x : NormM) (h : NormV w M H L v x) (hok : okN x = true) (hs : 0 ≤ x.p) :
    Calls Try.prog 99 #[v] w (BrnPost x w) := by
  have HNV := Lib.hid h
  obtain ⟨A, c, rfl, h0, ⟨hlc, hcm⟩, h8, h9⟩ := h
  have UW := Lib.hid (show Up w ((w.alloc (.cells #[.int .i64 x.n, .int .i64 x.p, .slice A x.fs.length c] 100)).alloc (.cells #[.int .i64 0, .slice none 0 0] 148)) from ((Chg.refl Nowhere w).alloc _).alloc _)
  have H0 := Lib.hid (h0.up UW.out)
  have Hc0 := Lib.hid (show ((w.alloc (.cells #[.int .i64 x.n, .int .i64 x.p, .slice A x.fs.length c] 100)).alloc (.cells #[.int .i64 0, .slice none 0 0] 148)).cell? ⟨w.heap.size, 0, none⟩ = some (.int .i64 x.n) from Chg.cell ((Chg.refl Nowhere _).alloc _) (cell_new w _ _ 0) id)
  have Hc1 := Lib.hid (show ((w.alloc (.cells #[.int .i64 x.n, .int .i64 x.p, .slice A x.fs.length c] 100)).alloc (.cells #[.int .i64 0, .slice none 0 0] 148)).cell? ⟨w.heap.size, 1, none⟩ = some (.int .i64 x.p) from Chg.cell ((Chg.refl Nowhere _).alloc _) (cell_new w _ _ 1) id)
  have Hc2 := Lib.hid (show ((w.alloc (.cells #[.int .i64 x.n, .int .i64 x.p, .slice A x.fs.length c] 100)).alloc (.cells #[.int .i64 0, .slice none 0 0] 148)).cell? ⟨w.heap.size, 2, none⟩ = some (.slice A x.fs.length c) from Chg.cell ((Chg.refl Nowhere _).alloc _) (cell_new w _ _ 2) id)
  have Hr0 := Lib.hid (cell_at (by simp) rfl : ((w.alloc (.cells #[.int .i64 x.n, .int .i64 x.p, .slice A x.fs.length c] 100)).alloc (.cells #[.int .i64 0, .slice none 0 0] 148)).cell? ⟨w.heap.size + 1, 0, none⟩ = some (.int .i64 0))
  have Hr1 := Lib.hid (cell_at (by simp) rfl : ((w.alloc (.cells #[.int .i64 x.n, .int .i64 x.p, .slice A x.fs.length c] 100)).alloc (.cells #[.int .i64 0, .slice none 0 0] 148)).cell? ⟨w.heap.size + 1, 1, none⟩ = some (.slice none 0 0))
  have hsA : (w.alloc (.cells #[.int .i64 x.n, .int .i64 x.p, .slice A x.fs.length c] 100)).heap.size = w.heap.size + 1 := by simp
  have Hy0 : Hid (((w.alloc (.cells #[.int .i64 x.n, .int .i64 x.p, .slice A x.fs.length c] 100)).alloc (.cells #[.int .i64 0, .slice none 0 0] 148)).frozen? ⟨w.heap.size + 1, 0, none⟩ = false) := Lib.hid (by have h := frozen_new (w.alloc (.cells #[.int .i64 x.n, .int .i64 x.p, .slice A x.fs.length c] 100)) #[.int .i64 0, .slice none 0 0] 148 0; rw [hsA] at h; exact h)
  have Hy1 : Hid (((w.alloc (.cells #[.int .i64 x.n, .int .i64 x.p, .slice A x.fs.length c] 100)).alloc (.cells #[.int .i64 0, .slice none 0 0] 148)).frozen? ⟨w.heap.size + 1, 1, none⟩ = false) := Lib.hid (by have h := frozen_new (w.alloc (.cells #[.int .i64 x.n, .int .i64 x.p, .slice A x.fs.length c] 100)) #[.int .i64 0, .slice none 0 0] 148 1; rw [hsA] at h; exact h)
  have HOK := Lib.hid hok
  have HBD := Lib.hid (okN_bd hok)
  have HPB := Lib.hid (okN_pb hok)
  have HFL := Lib.hid (okN_fl hok)
  have HZ0 : Hid (((w.alloc (.cells #[.int .i64 x.n, .int .i64 x.p, .slice A x.fs.length c] 100)).alloc (.cells #[.int .i64 0, .slice none 0 0] 148)).heap.size = w.heap.size + 2) := Lib.hid (by simp)
  have HV0 := Lib.hid (show NormV ((w.alloc (.cells #[.int .i64 x.n, .int .i64 x.p, .slice A x.fs.length c] 100)).alloc (.cells #[.int .i64 0, .slice none 0 0] 148)) M H L (.agg #[.int .i64 x.n, .int .i64 x.p, .slice A x.fs.length c]) x from HNV.out.up UW.out)
  clear HNV h0 hok hsA
  have HS := Lib.hid hs
  clear hs
  have Q0 := Hc0.out
  have Q1 := Hc1.out
  have Q2 := Hc2.out
  go_enter Try.func99, Try.ntmps99
  go_wp2_with fail
  refine (ValidNormal_any _ M H L _ x HV0.out).mono ?_
  rintro e w1 ⟨rfl, g1⟩
  rw [HOK.out]
  have G1 := Lib.hid g1
  clear Q0 Q1 Q2
  have Q0 := Chg.cell g1 Hc0.out id
  have hz1 := g1.size
  clear g1
  go_wp2_with fail
  refine (iHalf_any _ x HBD.out).mono ?_
  rintro e w2 ⟨v2, rfl, k2, g2⟩
  clear Q0
  go_wp2_with fail
  refine (permutationLetters_any _ _ _ _ k2 (perm_half (by have := HBD.out; omega))).mono ?_
  rintro e w3 ⟨v3, rfl, k3, g3⟩
  obtain ⟨B3, d3, rfl, -, -, -⟩ := k3.shape
  have U3 := Lib.hid (Chg.trans G1.out (Chg.trans g2 g3))
  have K3 := Lib.hid (show Ints w3 _ _ (twist x) from k3)
  clear k2 k3 g2 g3
  have HLT := Lib.hid (Lett.twist HOK.out)
  have HLB := Lib.hid (show (twist x).length ≤ 2001 from wordM_length _)
  have hsp := HS.out
  have Q1 := Chg.cell U3.out Hc1.out id
  obtain ⟨w4, hw4⟩ : ∃ w4, w4 = w3 := ⟨_, rfl⟩
  obtain rfl := hw4
  have e3 : twistS x = twist x := by have := HS.out; unfold twistS; rw [if_neg (by omega)]
  have U4 := U3
  have K4 := Lib.hid (show Ints w4 _ _ (twistS x) from by rw [e3]; exact K3.out)
  have hl4 : (wordM (halfM x.n.toNat)).length = (twistS x).length := by rw [e3]; rfl
  rw [hl4]
  clear Q1 U3 K3
  have Q4 := Chg.cell U4.out Hc1.out id
  have HTL := Lib.hid (twistS_length x)
  have HPL := Lib.hid (powTo_length x)
  have HFA := Lib.hid (facsTo_length x)
  have Q0 := Chg.cell U4.out Hc0.out id
  have Q1 := Chg.cell (Chg.alloc U4.out (.cells #[.int .i64 x.n, .slice none 0 0] 148)) Hc1.out id
  have HZ4 := Lib.hid (show w.heap.size + 2 ≤ w4.heap.size by have h1 := U4.out.size; have h2 := HZ0.out; omega)
  go_wp2_with fail
  refine (sizeP_any _ _ HPB.out).mono ?_
  rintro e w' ⟨rfl, rfl⟩
  clear Q0 Q1 Q4
  go_wp2
  go_loopw [27] (fun i wr => ∃ (k : Nat) (v : Value), k ≤ x.p.natAbs ∧ i = .int .i64 k ∧ Hid (wr.cell? ⟨w4.heap.size, 1, none⟩ = some v) ∧ Hid (wr.frozen? ⟨w4.heap.size, 1, none⟩ = false) ∧ Hid (wr.cell? ⟨w4.heap.size, 0, none⟩ = some (.int .i64 x.n)) ∧ Hid (OwnI wr (w4.heap.size + 1) v (powTo x k)) ∧ Hid (Up w4 wr) ∧ w4.heap.size + 1 ≤ wr.heap.size) (fun i _ => x.p.natAbs - (intOf i).toNat)
  case atStart => exact ⟨0, .slice none 0 0, by omega, rfl, cell_new w4 _ _ 1, frozen_new w4 _ _ 1, cell_new w4 _ _ 0, OwnI.nil _ _, (Chg.refl _ _).alloc _, by simp⟩
  case round =>
    obtain ⟨k, v, hk, rfl, hc, hf, hc0, ho, hu, hz⟩ := hrel
    by_cases hlt : k < x.p.natAbs
    · have hpl := HPL.out k
      have hpl2 : k * 2001 ≤ 100 * 2001 := Nat.mul_le_mul_right _ (by have := HPB.out; omega)
      have hlb := HTL.out
      have HL := Lib.hid (show (powTo x k).length + (twistS x).length ≤ 1099511627776 by omega)
      have HNG := Lib.hid (fun (b : Nat) (e : v.ownBlock = some b) => (show w4.heap.size + 1 ≤ b from (ho.out.lt e).1))
      have p1 := hc.out
      have y1 := hf.out
      have p0 := hc0.out
      have U6 := hu
      have hz5 := hz
      go_wp2_with (at_builtin; refine wp_append_ints rfl _ _ rfl (w4.heap.size + 1) v (powTo x k) rfl ho.out _ _ (twistS x) rfl (K4.out.up hu.out) HL.out (by have := hz5; first | omega | (simp; omega)) ?_; intro v' w' h1 h2 h3 h4; obtain ⟨E5, l5, e5, rfl⟩ : ∃ E l c, v' = Value.slice E l c := (by obtain ⟨A5, c5, h5, -⟩ := h1.ints.shape; exact ⟨_, _, _, h5⟩); have HO := Lib.hid h1; have HG := Lib.hid (show Chg (fun k => w4.heap.size + 1 ≤ k) wr w' from Chg.trans (Chg.of_up (by repeat (first | exact Chg.refl _ _ | apply Chg.drew | apply Chg.drewN | refine Chg.alloc ?_ _))) h4); have q1 := Chg.cell h2 (Chg.cell (show Up _ _ from (by repeat (first | exact Chg.refl _ _ | apply Chg.drew | apply Chg.drewN | refine Chg.alloc ?_ _))) p1 id) (fun e => by have : w4.heap.size + 1 ≤ w4.heap.size := HNG.out _ e; omega); have q0 := Chg.cell h2 (Chg.cell (show Up _ _ from (by repeat (first | exact Chg.refl _ _ | apply Chg.drew | apply Chg.drewN | refine Chg.alloc ?_ _))) p0 id) (fun e => by have : w4.heap.size + 1 ≤ w4.heap.size := HNG.out _ e; omega); have q2 := (Chg.frozen h2 (Chg.cell (show Up _ _ from (by repeat (first | exact Chg.refl _ _ | apply Chg.drew | apply Chg.drewN | refine Chg.alloc ?_ _))) p1 id) (fun e => by have : w4.heap.size + 1 ≤ w4.heap.size := HNG.out _ e; omega)).trans ((Chg.frozen (show Up _ _ from (by repeat (first | exact Chg.refl _ _ | apply Chg.drew | apply Chg.drewN | refine Chg.alloc ?_ _))) p1 id).trans y1); clear h1 h2 h3 h4)
      have C8 := Lib.hid (show Chg (fun b => b = w4.heap.size) w' (w'.setCell ⟨w4.heap.size, 1, none⟩ (.slice E5 l5 e5)) from Chg.setCell (Chg.refl (fun b => b = w4.heap.size) w') (p := ⟨w4.heap.size, 1, none⟩) (.inl rfl) _)
      have hz7 := HG.out.size
      have hz6 := U6.out.size
      have hz8 := C8.out.size
      have q2' : (w'.setCell ⟨w4.heap.size, 1, none⟩ (.slice E5 l5 e5)).frozen? ⟨w4.heap.size, 1, none⟩ = false := (by rw [World.frozen?_setCell]; exact q2)
      have q3' : (w'.setCell ⟨w4.heap.size, 1, none⟩ (.slice E5 l5 e5)).cell? ⟨w4.heap.size, 0, none⟩ = some (.int .i64 x.n) := (World.cell?_setCell_other w' ⟨w4.heap.size, 1, none⟩ ⟨w4.heap.size, 0, none⟩ (.slice E5 l5 e5) (fun h => (by injection h with _ h _; omega))).trans q0
      go_roundw
      case rel => exact ⟨k + 1, .slice E5 l5 e5, by omega, by go_num, World.cell?_setCell_same _ _ _ q1, q2', q3', (HO.out : OwnI w' _ _ _).kept C8.out (fun g hg he => by have := (HO.out.lt hg).1; omega), Chg.new (Chg.new U6.out HG.out (fun i hi => by omega)) C8.out (fun i hi he => by omega), by omega⟩
      case measure => first | (simp [intOf]; done) | (simp [intOf]; omega)
    · obtain rfl : k = x.p.natAbs := by omega
      have c2 := Chg.cell (Chg.trans U4.out hu.out) Hc2.out id
      go_wp2
      have HX := Lib.hid (show OwnI wr (w4.heap.size + 1) v (powTo x x.p.natAbs ++ facsTo x 0) by have e : facsTo x 0 = [] := rfl; rw [e, List.append_nil]; exact ho.out)
      go_loopw [38] (fun i wr => ∃ (j : Nat) (v : Value), j ≤ x.fs.length ∧ i = .int .i64 j ∧ Hid (wr.cell? ⟨w4.heap.size, 1, none⟩ = some v) ∧ Hid (wr.frozen? ⟨w4.heap.size, 1, none⟩ = false) ∧ Hid (wr.cell? ⟨w4.heap.size, 0, none⟩ = some (.int .i64 x.n)) ∧ Hid (OwnI wr (w4.heap.size + 1) v (powTo x x.p.natAbs ++ facsTo x j)) ∧ Hid (Up w4 wr) ∧ w4.heap.size + 1 ≤ wr.heap.size) (fun i _ => x.fs.length - (intOf i).toNat)
      case atStart => exact ⟨0, v, by omega, rfl, hc, hf, hc0, HX, hu, hz⟩
      case round =>
        clear HX hc hf hc0 ho hu hz c2
        obtain ⟨j, v, hj, rfl, hc, hf, hc0, ho, hu, hz⟩ := hrel
        have hpl := HPL.out x.p.natAbs
        have hpl2 : x.p.natAbs * 2001 ≤ 100 * 2001 := Nat.mul_le_mul_right _ (by have := HPB.out; omega)
        have hfl := HFL.out
        have hfa := HFA.out j
        have hfa2 : j * 2001 ≤ 100 * 2001 := Nat.mul_le_mul_right _ (by omega)
        by_cases hlt : j < x.fs.length
        · obtain ⟨b3, o3, c3', vs3, he3, -, -, -, hE3, hc3⟩ := (H0.out.up (Chg.trans U4.out hu.out)).at_ hlt
          obtain ⟨rfl, rfl⟩ : A = some ⟨b3, o3, none⟩ ∧ c = c3' := by simpa using he3
          obtain ⟨A4, k4, rfl, hv4, -⟩ := hE3.val
          have e0 := (hc3 0 _ rfl).1
          simp only [Nat.mul_one, Nat.add_zero] at e0
          have HV4 := Lib.hid hv4
          have HPJ := Lib.hid (okN_perm HOK.out hlt)
          have hwl := wordM_length x.fs[j]
          have HL := Lib.hid (show (powTo x x.p.natAbs ++ facsTo x j).length + (wordM x.fs[j]).length ≤ 1099511627776 by rw [List.length_append]; omega)
          have HSU := Lib.hid (facsTo_succ hlt)
          clear hc3 hv4 he3
          have HNG := Lib.hid (fun (b : Nat) (e : v.ownBlock = some b) => (show w4.heap.size + 1 ≤ b from (ho.out.lt e).1))
          have p9 := hc.out
          go_wp2_with fail
          go_region_law (first | (go_simp; go_at_call 167; with_reducible refine (permutationLetters_any _ _ _ _ (HV4.out.up (by repeat (first | exact Chg.refl _ _ | apply Chg.drew | apply Chg.drewN | refine Chg.alloc ?_ _))) HPJ.out).mono ?_; rintro e w6 ⟨v6, rfl, k6, g6⟩; have G6 := Lib.hid (Chg.trans (by repeat (first | exact Chg.refl _ _ | apply Chg.drew | apply Chg.drewN | refine Chg.alloc ?_ _)) g6 : Up wr w6); have K6 := Lib.hid k6; have hz5 : w4.heap.size + 1 ≤ w6.heap.size := Nat.le_trans hz G6.out.size; have U6 := Lib.hid (Chg.trans hu.out G6.out); have p0 := Chg.cell G6.out hc0.out id; have p1 := Chg.cell G6.out hc.out id; have y1 := (Chg.frozen G6.out hc.out id).trans hf.out; clear k6 g6) | (refine step_appInts rfl (.tmp 43) (.tmp 45) rfl (w4.heap.size + 1) v (powTo x x.p.natAbs ++ facsTo x j) (by simp [Act.eval, Act.put]) (ho.out.up (Chg.trans G6.out (by repeat (first | exact Chg.refl _ _ | apply Chg.drew | apply Chg.drewN | refine Chg.alloc ?_ _)))) _ _ (wordM x.fs[j]) (by simp [Act.eval, Act.put]) (K6.out.up (by repeat (first | exact Chg.refl _ _ | apply Chg.drew | apply Chg.drewN | refine Chg.alloc ?_ _))) HL.out (by have := hz5; first | omega | (simp; omega)) ?_; intro v' w' h1 h2 h3 h4; obtain ⟨E5, l5, e5, rfl⟩ : ∃ E l c, v' = Value.slice E l c := (by obtain ⟨A5, c5, h5, -⟩ := h1.ints.shape; exact ⟨_, _, _, h5⟩); have HO := Lib.hid h1; have HG := Lib.hid (show Chg (fun k => w4.heap.size + 1 ≤ k) w6 w' from Chg.trans (Chg.of_up (by repeat (first | exact Chg.refl _ _ | apply Chg.drew | apply Chg.drewN | refine Chg.alloc ?_ _))) h4); have q1 := Chg.cell h2 (Chg.cell (show Up _ _ from (by repeat (first | exact Chg.refl _ _ | apply Chg.drew | apply Chg.drewN | refine Chg.alloc ?_ _))) p1 id) (fun e => by have : w4.heap.size + 1 ≤ w4.heap.size := HNG.out _ e; omega); have q0 := Chg.cell h2 (Chg.cell (show Up _ _ from (by repeat (first | exact Chg.refl _ _ | apply Chg.drew | apply Chg.drewN | refine Chg.alloc ?_ _))) p0 id) (fun e => by have : w4.heap.size + 1 ≤ w4.heap.size := HNG.out _ e; omega); have q2 := (Chg.frozen h2 (Chg.cell (show Up _ _ from (by repeat (first | exact Chg.refl _ _ | apply Chg.drew | apply Chg.drewN | refine Chg.alloc ?_ _))) p1 id) (fun e => by have : w4.heap.size + 1 ≤ w4.heap.size := HNG.out _ e; omega)).trans ((Chg.frozen (show Up _ _ from (by repeat (first | exact Chg.refl _ _ | apply Chg.drew | apply Chg.drewN | refine Chg.alloc ?_ _))) p1 id).trans y1); clear h1 h2 h3 h4))
          all_goals go_wp2
          all_goals (have C8 := Lib.hid (show Chg (fun b => b = w4.heap.size) w' (w'.setCell ⟨w4.heap.size, 1, none⟩ (.slice E5 l5 e5)) from Chg.setCell (Chg.refl (fun b => b = w4.heap.size) w') (p := ⟨w4.heap.size, 1, none⟩) (.inl rfl) _); have hz7 := HG.out.size; have hz6 := U6.out.size; have hz8 := C8.out.size; have q2' : (w'.setCell ⟨w4.heap.size, 1, none⟩ (.slice E5 l5 e5)).frozen? ⟨w4.heap.size, 1, none⟩ = false := (by rw [World.frozen?_setCell]; exact q2); have q3' : (w'.setCell ⟨w4.heap.size, 1, none⟩ (.slice E5 l5 e5)).cell? ⟨w4.heap.size, 0, none⟩ = some (.int .i64 x.n) := (World.cell?_setCell_other w' ⟨w4.heap.size, 1, none⟩ ⟨w4.heap.size, 0, none⟩ (.slice E5 l5 e5) (fun h => (by injection h with _ h _; omega))).trans q0)
          all_goals (go_roundw; (case rel => (exact ⟨j + 1, .slice E5 l5 e5, by omega, by go_num, World.cell?_setCell_same _ _ _ q1, q2', q3', (by rw [HSU.out, ← List.append_assoc]; exact HO.out : OwnI w' _ _ _).kept C8.out (fun g hg he => by have := (HO.out.lt hg).1; omega), Chg.new (Chg.new U6.out HG.out (fun i hi => by omega)) C8.out (fun i hi he => by omega), by omega⟩)); (case measure => (first | (simp [intOf]; done) | (simp [intOf]; omega))))
        · obtain rfl : j = x.fs.length := by omega
          have HO := Lib.hid (show OwnI _ (w4.heap.size + 1) _ (brW x) from ho.out)
          obtain ⟨B7, d7, rfl, -, -, -⟩ := ho.out.ints.shape
          have UT := Lib.hid (Chg.trans U4.out hu.out)
          have r0 := Chg.cell UT.out Hr0.out id
          have r1 := Chg.cell UT.out Hr1.out id
          have c2 := Chg.cell UT.out Hc2.out id
          have p0 := hc0.out
          have p1 := hc.out
          have y0 := (Chg.frozen UT.out Hr0.out id).trans Hy0.out
          have y1 := (Chg.frozen UT.out Hr1.out id).trans Hy1.out
          have hlen : (powTo x x.p.natAbs ++ facsTo x x.fs.length).length = (brW x).length := rfl
          rw [hlen] at p1
          have UE := Lib.hid (Chg.trans UW.out UT.out)
          have hz4 := HZ4.out
          have hzr := hu.out.size
          clear hpl hpl2 hfl hfa hfa2 hlen ho hu hc hf hc0
          by_cases hlg : (brW x).length ≤ 40
          · have HG := Lib.hid hlg
            go_wp2
            refine bodyPost_ret (v := .tuple #[.agg #[.int .i64 x.n, .slice B7 (brW x).length d7], .int .i64 0]) (by rw [results_cell_tmp rfl]; go_simp) rfl ?_
            have C7 := Lib.hid (show Chg (fun b => b = w.heap.size + 1) wr ((wr.setCell ⟨w.heap.size + 1, 0, none⟩ (.int .i64 x.n)).setCell ⟨w.heap.size + 1, 1, none⟩ (.slice B7 (brW x).length d7)) from Chg.setCell (Chg.setCell (Chg.refl (fun b => b = w.heap.size + 1) wr) (p := ⟨w.heap.size + 1, 0, none⟩) (.inl rfl) _) (p := ⟨w.heap.size + 1, 1, none⟩) (.inl rfl) _)
            exact ⟨fun _ => ⟨_, rfl, (HO.out.ints.keep C7.out (fun b _ h he => by have := h.1; omega)).mono (fun b _ h => ⟨by have := h.1; omega, Nat.lt_of_lt_of_le h.2 C7.out.size⟩)⟩, fun h => absurd HG.out h, Chg.new UE.out C7.out (fun i hi he => by omega)⟩
          · have HG := Lib.hid hlg
            go_wp2
            refine bodyPost_ret (v := .tuple #[.agg #[.int .i64 0, .slice none 0 0], .int .i64 5]) (by rw [results_cell_tmp rfl]; go_simp) rfl ?_
            exact ⟨fun h => absurd h HG.out, fun _ => rfl, Chg.new UE.out (Chg.setCell (Chg.setCell (Chg.refl (fun b => b = w.heap.size + 1) _) (.inl rfl) _) (.inl rfl) _) (fun i hi he => by omega)⟩
theorem iBraidN_any (w : World) (M H L : Nat → Prop) (v : Value) (x : NormM) (h : NormV w M H L v x) (hok : okN x = true) (hs : x.p < 0) :
    Calls Try.prog 99 #[v] w (BrnPost x w) := by
  have HNV := Lib.hid h
  obtain ⟨A, c, rfl, h0, ⟨hlc, hcm⟩, h8, h9⟩ := h
  have UW := Lib.hid (show Up w ((w.alloc (.cells #[.int .i64 x.n, .int .i64 x.p, .slice A x.fs.length c] 100)).alloc (.cells #[.int .i64 0, .slice none 0 0] 148)) from ((Chg.refl Nowhere w).alloc _).alloc _)
  have H0 := Lib.hid (h0.up UW.out)
  have Hc0 := Lib.hid (show ((w.alloc (.cells #[.int .i64 x.n, .int .i64 x.p, .slice A x.fs.length c] 100)).alloc (.cells #[.int .i64 0, .slice none 0 0] 148)).cell? ⟨w.heap.size, 0, none⟩ = some (.int .i64 x.n) from Chg.cell ((Chg.refl Nowhere _).alloc _) (cell_new w _ _ 0) id)
  have Hc1 := Lib.hid (show ((w.alloc (.cells #[.int .i64 x.n, .int .i64 x.p, .slice A x.fs.length c] 100)).alloc (.cells #[.int .i64 0, .slice none 0 0] 148)).cell? ⟨w.heap.size, 1, none⟩ = some (.int .i64 x.p) from Chg.cell ((Chg.refl Nowhere _).alloc _) (cell_new w _ _ 1) id)
  have Hc2 := Lib.hid (show ((w.alloc (.cells #[.int .i64 x.n, .int .i64 x.p, .slice A x.fs.length c] 100)).alloc (.cells #[.int .i64 0, .slice none 0 0] 148)).cell? ⟨w.heap.size, 2, none⟩ = some (.slice A x.fs.length c) from Chg.cell ((Chg.refl Nowhere _).alloc _) (cell_new w _ _ 2) id)
  have Hr0 := Lib.hid (cell_at (by simp) rfl : ((w.alloc (.cells #[.int .i64 x.n, .int .i64 x.p, .slice A x.fs.length c] 100)).alloc (.cells #[.int .i64 0, .slice none 0 0] 148)).cell? ⟨w.heap.size + 1, 0, none⟩ = some (.int .i64 0))
  have Hr1 := Lib.hid (cell_at (by simp) rfl : ((w.alloc (.cells #[.int .i64 x.n, .int .i64 x.p, .slice A x.fs.length c] 100)).alloc (.cells #[.int .i64 0, .slice none 0 0] 148)).cell? ⟨w.heap.size + 1, 1, none⟩ = some (.slice none 0 0))
  have hsA : (w.alloc (.cells #[.int .i64 x.n, .int .i64 x.p, .slice A x.fs.length c] 100)).heap.size = w.heap.size + 1 := by simp
  have Hy0 : Hid (((w.alloc (.cells #[.int .i64 x.n, .int .i64 x.p, .slice A x.fs.length c] 100)).alloc (.cells #[.int .i64 0, .slice none 0 0] 148)).frozen? ⟨w.heap.size + 1, 0, none⟩ = false) := Lib.hid (by have h := frozen_new (w.alloc (.cells #[.int .i64 x.n, .int .i64 x.p, .slice A x.fs.length c] 100)) #[.int .i64 0, .slice none 0 0] 148 0; rw [hsA] at h; exact h)
  have Hy1 : Hid (((w.alloc (.cells #[.int .i64 x.n, .int .i64 x.p, .slice A x.fs.length c] 100)).alloc (.cells #[.int .i64 0, .slice none 0 0] 148)).frozen? ⟨w.heap.size + 1, 1, none⟩ = false) := Lib.hid (by have h := frozen_new (w.alloc (.cells #[.int .i64 x.n, .int .i64 x.p, .slice A x.fs.length c] 100)) #[.int .i64 0, .slice none 0 0] 148 1; rw [hsA] at h; exact h)
  have HOK := Lib.hid hok
  have HBD := Lib.hid (okN_bd hok)
  have HPB := Lib.hid (okN_pb hok)
  have HFL := Lib.hid (okN_fl hok)
  have HZ0 : Hid (((w.alloc (.cells #[.int .i64 x.n, .int .i64 x.p, .slice A x.fs.length c] 100)).alloc (.cells #[.int .i64 0, .slice none 0 0] 148)).heap.size = w.heap.size + 2) := Lib.hid (by simp)
  have HV0 := Lib.hid (show NormV ((w.alloc (.cells #[.int .i64 x.n, .int .i64 x.p, .slice A x.fs.length c] 100)).alloc (.cells #[.int .i64 0, .slice none 0 0] 148)) M H L (.agg #[.int .i64 x.n, .int .i64 x.p, .slice A x.fs.length c]) x from HNV.out.up UW.out)
  clear HNV h0 hok hsA
  have HS := Lib.hid hs
  clear hs
  have Q0 := Hc0.out
  have Q1 := Hc1.out
  have Q2 := Hc2.out
  go_enter Try.func99, Try.ntmps99
  go_wp2_with fail
  refine (ValidNormal_any _ M H L _ x HV0.out).mono ?_
  rintro e w1 ⟨rfl, g1⟩
  rw [HOK.out]
  have G1 := Lib.hid g1
  clear Q0 Q1 Q2
  have Q0 := Chg.cell g1 Hc0.out id
  have hz1 := g1.size
  clear g1
  go_wp2_with fail
  refine (iHalf_any _ x HBD.out).mono ?_
  rintro e w2 ⟨v2, rfl, k2, g2⟩
  clear Q0
  go_wp2_with fail
  refine (permutationLetters_any _ _ _ _ k2 (perm_half (by have := HBD.out; omega))).mono ?_
  rintro e w3 ⟨v3, rfl, k3, g3⟩
  obtain ⟨B3, d3, rfl, -, -, -⟩ := k3.shape
  have U3 := Lib.hid (Chg.trans G1.out (Chg.trans g2 g3))
  have K3 := Lib.hid (show Ints w3 _ _ (twist x) from k3)
  clear k2 k3 g2 g3
  have HLT := Lib.hid (Lett.twist HOK.out)
  have HLB := Lib.hid (show (twist x).length ≤ 2001 from wordM_length _)
  have hsp := HS.out
  have Q1 := Chg.cell U3.out Hc1.out id
  go_wp2_with fail
  refine (inverted_any _ _ _ (twist x) K3.out HLT.out (by have := HLB.out; omega)).mono ?_
  rintro e w4 ⟨v4, rfl, k4, g4⟩
  obtain ⟨B4, d4, rfl, -, -, -⟩ := k4.shape
  have U4 := Lib.hid (Chg.trans U3.out g4)
  have e4 : twistS x = negL (twist x) := by have := HS.out; unfold twistS; rw [if_pos (by omega)]
  have hl4 : (negL (twist x)).length = (twistS x).length := by rw [e4]
  rw [hl4]
  rw [hl4, ← e4] at k4
  have K4 := Lib.hid k4
  clear k4 g4 Q1
  have HTL := Lib.hid (twistS_length x)
  have HPL := Lib.hid (powTo_length x)
  have HFA := Lib.hid (facsTo_length x)
  have Q0 := Chg.cell U4.out Hc0.out id
  have Q1 := Chg.cell (Chg.alloc U4.out (.cells #[.int .i64 x.n, .slice none 0 0] 148)) Hc1.out id
  have HZ4 := Lib.hid (show w.heap.size + 2 ≤ w4.heap.size by have h1 := U4.out.size; have h2 := HZ0.out; omega)
  go_wp2_with fail
  refine (sizeP_any _ _ HPB.out).mono ?_
  rintro e w' ⟨rfl, rfl⟩
  clear Q0 Q1
  go_wp2
  go_loopw [27] (fun i wr => ∃ (k : Nat) (v : Value), k ≤ x.p.natAbs ∧ i = .int .i64 k ∧ Hid (wr.cell? ⟨w4.heap.size, 1, none⟩ = some v) ∧ Hid (wr.frozen? ⟨w4.heap.size, 1, none⟩ = false) ∧ Hid (wr.cell? ⟨w4.heap.size, 0, none⟩ = some (.int .i64 x.n)) ∧ Hid (OwnI wr (w4.heap.size + 1) v (powTo x k)) ∧ Hid (Up w4 wr) ∧ w4.heap.size + 1 ≤ wr.heap.size) (fun i _ => x.p.natAbs - (intOf i).toNat)
  case atStart => exact ⟨0, .slice none 0 0, by omega, rfl, cell_new w4 _ _ 1, frozen_new w4 _ _ 1, cell_new w4 _ _ 0, OwnI.nil _ _, (Chg.refl _ _).alloc _, by simp⟩
  case round =>
    obtain ⟨k, v, hk, rfl, hc, hf, hc0, ho, hu, hz⟩ := hrel
    by_cases hlt : k < x.p.natAbs
    · have hpl := HPL.out k
      have hpl2 : k * 2001 ≤ 100 * 2001 := Nat.mul_le_mul_right _ (by have := HPB.out; omega)
      have hlb := HTL.out
      have HL := Lib.hid (show (powTo x k).length + (twistS x).length ≤ 1099511627776 by omega)
      have HNG := Lib.hid (fun (b : Nat) (e : v.ownBlock = some b) => (show w4.heap.size + 1 ≤ b from (ho.out.lt e).1))
      have p1 := hc.out
      have y1 := hf.out
      have p0 := hc0.out
      have U6 := hu
      have hz5 := hz
      go_wp2_with (at_builtin; refine wp_append_ints rfl _ _ rfl (w4.heap.size + 1) v (powTo x k) rfl ho.out _ _ (twistS x) rfl (K4.out.up hu.out) HL.out (by have := hz5; first | omega | (simp; omega)) ?_; intro v' w' h1 h2 h3 h4; obtain ⟨E5, l5, e5, rfl⟩ : ∃ E l c, v' = Value.slice E l c := (by obtain ⟨A5, c5, h5, -⟩ := h1.ints.shape; exact ⟨_, _, _, h5⟩); have HO := Lib.hid h1; have HG := Lib.hid (show Chg (fun k => w4.heap.size + 1 ≤ k) wr w' from Chg.trans (Chg.of_up (by repeat (first | exact Chg.refl _ _ | apply Chg.drew | apply Chg.drewN | refine Chg.alloc ?_ _))) h4); have q1 := Chg.cell h2 (Chg.cell (show Up _ _ from (by repeat (first | exact Chg.refl _ _ | apply Chg.drew | apply Chg.drewN | refine Chg.alloc ?_ _))) p1 id) (fun e => by have : w4.heap.size + 1 ≤ w4.heap.size := HNG.out _ e; omega); have q0 := Chg.cell h2 (Chg.cell (show Up _ _ from (by repeat (first | exact Chg.refl _ _ | apply Chg.drew | apply Chg.drewN | refine Chg.alloc ?_ _))) p0 id) (fun e => by have : w4.heap.size + 1 ≤ w4.heap.size := HNG.out _ e; omega); have q2 := (Chg.frozen h2 (Chg.cell (show Up _ _ from (by repeat (first | exact Chg.refl _ _ | apply Chg.drew | apply Chg.drewN | refine Chg.alloc ?_ _))) p1 id) (fun e => by have : w4.heap.size + 1 ≤ w4.heap.size := HNG.out _ e; omega)).trans ((Chg.frozen (show Up _ _ from (by repeat (first | exact Chg.refl _ _ | apply Chg.drew | apply Chg.drewN | refine Chg.alloc ?_ _))) p1 id).trans y1); clear h1 h2 h3 h4)
      have C8 := Lib.hid (show Chg (fun b => b = w4.heap.size) w' (w'.setCell ⟨w4.heap.size, 1, none⟩ (.slice E5 l5 e5)) from Chg.setCell (Chg.refl (fun b => b = w4.heap.size) w') (p := ⟨w4.heap.size, 1, none⟩) (.inl rfl) _)
      have hz7 := HG.out.size
      have hz6 := U6.out.size
      have hz8 := C8.out.size
      have q2' : (w'.setCell ⟨w4.heap.size, 1, none⟩ (.slice E5 l5 e5)).frozen? ⟨w4.heap.size, 1, none⟩ = false := (by rw [World.frozen?_setCell]; exact q2)
      have q3' : (w'.setCell ⟨w4.heap.size, 1, none⟩ (.slice E5 l5 e5)).cell? ⟨w4.heap.size, 0, none⟩ = some (.int .i64 x.n) := (World.cell?_setCell_other w' ⟨w4.heap.size, 1, none⟩ ⟨w4.heap.size, 0, none⟩ (.slice E5 l5 e5) (fun h => (by injection h with _ h _; omega))).trans q0
      go_roundw
      case rel => exact ⟨k + 1, .slice E5 l5 e5, by omega, by go_num, World.cell?_setCell_same _ _ _ q1, q2', q3', (HO.out : OwnI w' _ _ _).kept C8.out (fun g hg he => by have := (HO.out.lt hg).1; omega), Chg.new (Chg.new U6.out HG.out (fun i hi => by omega)) C8.out (fun i hi he => by omega), by omega⟩
      case measure => first | (simp [intOf]; done) | (simp [intOf]; omega)
    · obtain rfl : k = x.p.natAbs := by omega
      have c2 := Chg.cell (Chg.trans U4.out hu.out) Hc2.out id
      go_wp2
      have HX := Lib.hid (show OwnI wr (w4.heap.size + 1) v (powTo x x.p.natAbs ++ facsTo x 0) by have e : facsTo x 0 = [] := rfl; rw [e, List.append_nil]; exact ho.out)
      go_loopw [38] (fun i wr => ∃ (j : Nat) (v : Value), j ≤ x.fs.length ∧ i = .int .i64 j ∧ Hid (wr.cell? ⟨w4.heap.size, 1, none⟩ = some v) ∧ Hid (wr.frozen? ⟨w4.heap.size, 1, none⟩ = false) ∧ Hid (wr.cell? ⟨w4.heap.size, 0, none⟩ = some (.int .i64 x.n)) ∧ Hid (OwnI wr (w4.heap.size + 1) v (powTo x x.p.natAbs ++ facsTo x j)) ∧ Hid (Up w4 wr) ∧ w4.heap.size + 1 ≤ wr.heap.size) (fun i _ => x.fs.length - (intOf i).toNat)
      case atStart => exact ⟨0, v, by omega, rfl, hc, hf, hc0, HX, hu, hz⟩
      case round =>
        clear HX hc hf hc0 ho hu hz c2
        obtain ⟨j, v, hj, rfl, hc, hf, hc0, ho, hu, hz⟩ := hrel
        have hpl := HPL.out x.p.natAbs
        have hpl2 : x.p.natAbs * 2001 ≤ 100 * 2001 := Nat.mul_le_mul_right _ (by have := HPB.out; omega)
        have hfl := HFL.out
        have hfa := HFA.out j
        have hfa2 : j * 2001 ≤ 100 * 2001 := Nat.mul_le_mul_right _ (by omega)
        by_cases hlt : j < x.fs.length
        · obtain ⟨b3, o3, c3', vs3, he3, -, -, -, hE3, hc3⟩ := (H0.out.up (Chg.trans U4.out hu.out)).at_ hlt
          obtain ⟨rfl, rfl⟩ : A = some ⟨b3, o3, none⟩ ∧ c = c3' := by simpa using he3
          obtain ⟨A4, k4, rfl, hv4, -⟩ := hE3.val
          have e0 := (hc3 0 _ rfl).1
          simp only [Nat.mul_one, Nat.add_zero] at e0
          have HV4 := Lib.hid hv4
          have HPJ := Lib.hid (okN_perm HOK.out hlt)
          have hwl := wordM_length x.fs[j]
          have HL := Lib.hid (show (powTo x x.p.natAbs ++ facsTo x j).length + (wordM x.fs[j]).length ≤ 1099511627776 by rw [List.length_append]; omega)
          have HSU := Lib.hid (facsTo_succ hlt)
          clear hc3 hv4 he3
          have HNG := Lib.hid (fun (b : Nat) (e : v.ownBlock = some b) => (show w4.heap.size + 1 ≤ b from (ho.out.lt e).1))
          have p9 := hc.out
          go_wp2_with fail
          go_region_law (first | (go_simp; go_at_call 167; with_reducible refine (permutationLetters_any _ _ _ _ (HV4.out.up (by repeat (first | exact Chg.refl _ _ | apply Chg.drew | apply Chg.drewN | refine Chg.alloc ?_ _))) HPJ.out).mono ?_; rintro e w6 ⟨v6, rfl, k6, g6⟩; have G6 := Lib.hid (Chg.trans (by repeat (first | exact Chg.refl _ _ | apply Chg.drew | apply Chg.drewN | refine Chg.alloc ?_ _)) g6 : Up wr w6); have K6 := Lib.hid k6; have hz5 : w4.heap.size + 1 ≤ w6.heap.size := Nat.le_trans hz G6.out.size; have U6 := Lib.hid (Chg.trans hu.out G6.out); have p0 := Chg.cell G6.out hc0.out id; have p1 := Chg.cell G6.out hc.out id; have y1 := (Chg.frozen G6.out hc.out id).trans hf.out; clear k6 g6) | (refine step_appInts rfl (.tmp 43) (.tmp 45) rfl (w4.heap.size + 1) v (powTo x x.p.natAbs ++ facsTo x j) (by simp [Act.eval, Act.put]) (ho.out.up (Chg.trans G6.out (by repeat (first | exact Chg.refl _ _ | apply Chg.drew | apply Chg.drewN | refine Chg.alloc ?_ _)))) _ _ (wordM x.fs[j]) (by simp [Act.eval, Act.put]) (K6.out.up (by repeat (first | exact Chg.refl _ _ | apply Chg.drew | apply Chg.drewN | refine Chg.alloc ?_ _))) HL.out (by have := hz5; first | omega | (simp; omega)) ?_; intro v' w' h1 h2 h3 h4; obtain ⟨E5, l5, e5, rfl⟩ : ∃ E l c, v' = Value.slice E l c := (by obtain ⟨A5, c5, h5, -⟩ := h1.ints.shape; exact ⟨_, _, _, h5⟩); have HO := Lib.hid h1; have HG := Lib.hid (show Chg (fun k => w4.heap.size + 1 ≤ k) w6 w' from Chg.trans (Chg.of_up (by repeat (first | exact Chg.refl _ _ | apply Chg.drew | apply Chg.drewN | refine Chg.alloc ?_ _))) h4); have q1 := Chg.cell h2 (Chg.cell (show Up _ _ from (by repeat (first | exact Chg.refl _ _ | apply Chg.drew | apply Chg.drewN | refine Chg.alloc ?_ _))) p1 id) (fun e => by have : w4.heap.size + 1 ≤ w4.heap.size := HNG.out _ e; omega); have q0 := Chg.cell h2 (Chg.cell (show Up _ _ from (by repeat (first | exact Chg.refl _ _ | apply Chg.drew | apply Chg.drewN | refine Chg.alloc ?_ _))) p0 id) (fun e => by have : w4.heap.size + 1 ≤ w4.heap.size := HNG.out _ e; omega); have q2 := (Chg.frozen h2 (Chg.cell (show Up _ _ from (by repeat (first | exact Chg.refl _ _ | apply Chg.drew | apply Chg.drewN | refine Chg.alloc ?_ _))) p1 id) (fun e => by have : w4.heap.size + 1 ≤ w4.heap.size := HNG.out _ e; omega)).trans ((Chg.frozen (show Up _ _ from (by repeat (first | exact Chg.refl _ _ | apply Chg.drew | apply Chg.drewN | refine Chg.alloc ?_ _))) p1 id).trans y1); clear h1 h2 h3 h4))
          all_goals go_wp2
          all_goals (have C8 := Lib.hid (show Chg (fun b => b = w4.heap.size) w' (w'.setCell ⟨w4.heap.size, 1, none⟩ (.slice E5 l5 e5)) from Chg.setCell (Chg.refl (fun b => b = w4.heap.size) w') (p := ⟨w4.heap.size, 1, none⟩) (.inl rfl) _); have hz7 := HG.out.size; have hz6 := U6.out.size; have hz8 := C8.out.size; have q2' : (w'.setCell ⟨w4.heap.size, 1, none⟩ (.slice E5 l5 e5)).frozen? ⟨w4.heap.size, 1, none⟩ = false := (by rw [World.frozen?_setCell]; exact q2); have q3' : (w'.setCell ⟨w4.heap.size, 1, none⟩ (.slice E5 l5 e5)).cell? ⟨w4.heap.size, 0, none⟩ = some (.int .i64 x.n) := (World.cell?_setCell_other w' ⟨w4.heap.size, 1, none⟩ ⟨w4.heap.size, 0, none⟩ (.slice E5 l5 e5) (fun h => (by injection h with _ h _; omega))).trans q0)
          all_goals (go_roundw; (case rel => (exact ⟨j + 1, .slice E5 l5 e5, by omega, by go_num, World.cell?_setCell_same _ _ _ q1, q2', q3', (by rw [HSU.out, ← List.append_assoc]; exact HO.out : OwnI w' _ _ _).kept C8.out (fun g hg he => by have := (HO.out.lt hg).1; omega), Chg.new (Chg.new U6.out HG.out (fun i hi => by omega)) C8.out (fun i hi he => by omega), by omega⟩)); (case measure => (first | (simp [intOf]; done) | (simp [intOf]; omega))))
        · obtain rfl : j = x.fs.length := by omega
          have HO := Lib.hid (show OwnI _ (w4.heap.size + 1) _ (brW x) from ho.out)
          obtain ⟨B7, d7, rfl, -, -, -⟩ := ho.out.ints.shape
          have UT := Lib.hid (Chg.trans U4.out hu.out)
          have r0 := Chg.cell UT.out Hr0.out id
          have r1 := Chg.cell UT.out Hr1.out id
          have c2 := Chg.cell UT.out Hc2.out id
          have p0 := hc0.out
          have p1 := hc.out
          have y0 := (Chg.frozen UT.out Hr0.out id).trans Hy0.out
          have y1 := (Chg.frozen UT.out Hr1.out id).trans Hy1.out
          have hlen : (powTo x x.p.natAbs ++ facsTo x x.fs.length).length = (brW x).length := rfl
          rw [hlen] at p1
          have UE := Lib.hid (Chg.trans UW.out UT.out)
          have hz4 := HZ4.out
          have hzr := hu.out.size
          clear hpl hpl2 hfl hfa hfa2 hlen ho hu hc hf hc0
          by_cases hlg : (brW x).length ≤ 40
          · have HG := Lib.hid hlg
            go_wp2
            refine bodyPost_ret (v := .tuple #[.agg #[.int .i64 x.n, .slice B7 (brW x).length d7], .int .i64 0]) (by rw [results_cell_tmp rfl]; go_simp) rfl ?_
            have C7 := Lib.hid (show Chg (fun b => b = w.heap.size + 1) wr ((wr.setCell ⟨w.heap.size + 1, 0, none⟩ (.int .i64 x.n)).setCell ⟨w.heap.size + 1, 1, none⟩ (.slice B7 (brW x).length d7)) from Chg.setCell (Chg.setCell (Chg.refl (fun b => b = w.heap.size + 1) wr) (p := ⟨w.heap.size + 1, 0, none⟩) (.inl rfl) _) (p := ⟨w.heap.size + 1, 1, none⟩) (.inl rfl) _)
            exact ⟨fun _ => ⟨_, rfl, (HO.out.ints.keep C7.out (fun b _ h he => by have := h.1; omega)).mono (fun b _ h => ⟨by have := h.1; omega, Nat.lt_of_lt_of_le h.2 C7.out.size⟩)⟩, fun h => absurd HG.out h, Chg.new UE.out C7.out (fun i hi he => by omega)⟩
          · have HG := Lib.hid hlg
            go_wp2
            refine bodyPost_ret (v := .tuple #[.agg #[.int .i64 0, .slice none 0 0], .int .i64 5]) (by rw [results_cell_tmp rfl]; go_simp) rfl ?_
            exact ⟨fun h => absurd h HG.out, fun _ => rfl, Chg.new UE.out (Chg.setCell (Chg.setCell (Chg.refl (fun b => b = w.heap.size + 1) _) (.inl rfl) _) (.inl rfl) _) (fun i hi he => by omega)⟩
theorem iBraid_any (w : World) (M H L : Nat → Prop) (v : Value) (x : NormM) (h : NormV w M H L v x) (hok : okN x = true) :
    Calls Try.prog 99 #[v] w (BrnPost x w) := by
  by_cases hs : x.p < 0
  · exact iBraidN_any w M H L v x h hok hs
  · exact iBraidP_any w M H L v x h hok (by omega)
end Go.Proofs.Ytjgdcjhmfbefdaa
set_option linter.unusedSimpArgs false
set_option linter.unusedVariables false
set_option maxRecDepth 100000
set_option maxHeartbeats 1000000
namespace Go.Proofs.Ytjgdcjhmfbefdaa
open Go.ChangeShapes Go.WideShapes Go.ChangeAt Go.RowKit
theorem okP_at {p : ProofM} {j : Nat} (h : okP p = true) (hj : j < p.forms.length) : ∃ n, prC p j n := by
  cases ht : prTo p j with
  | none =>
    have h4 := prTo_none (k := p.forms.length - j) ht
    rw [show j + (p.forms.length - j) = p.forms.length by omega] at h4
    unfold okP at h
    rw [h4] at h
    simp at h
  | some n =>
    by_cases hc : prC p j n
    · exact ⟨n, hc⟩
    · exact absurd (okP_stop hj ht (prStep_no hc)) (by rw [h]; simp)
theorem okP_lens {p : ProofM} (h : okP p = true) : 1 ≤ p.forms.length ∧ p.forms.length ≤ 60 ∧ p.sts.length = p.forms.length := by
  unfold okP at h
  simp only [Bool.and_eq_true, decide_eq_true_eq] at h
  exact h.1
theorem okP_form {p : ProofM} {j : Nat} (h : okP p = true) (hj : j < p.forms.length) : okN p.forms[j] = true := by
  obtain ⟨n, hc⟩ := okP_at h hj
  have := hc.1
  rwa [formI_eq hj] at this
theorem okP_st {p : ProofM} {j : Nat} (h : okP p = true) (hj : j < p.forms.length) : (stsI p j).length ≤ 2000 := by
  obtain ⟨n, hc⟩ := okP_at h hj
  exact hc.2.2.2.1
def evStep (p : ProofM) (j : Nat) (e : List EvM) : Option (List EvM) := if (brW (formI p j)).length ≤ 40 then some ((e ++ evL (brW (formI p j))) ++ stsI p j) else none
def evTo (p : ProofM) : Nat → Option (List EvM)
  | 0 => some []
  | j + 1 => (evTo p j).bind (evStep p j)
theorem evTo_yes {p : ProofM} {j : Nat} {e : List EvM} (h : evTo p j = some e) (hj : j < p.forms.length) (hs : j < p.sts.length) (hb : (brW p.forms[j]).length ≤ 40) : evTo p (j + 1) = some ((e ++ evL (brW p.forms[j])) ++ p.sts[j]) := by
  rw [← formI_eq hj] at hb ⊢
  rw [← stsI_eq hs]
  show (evTo p j).bind _ = _
  rw [h]
  show evStep p j e = _
  unfold evStep
  rw [if_pos hb]
theorem evTo_none {p : ProofM} {j k : Nat} (h : evTo p j = none) : evTo p (j + k) = none := by
  induction k with
  | zero => exact h
  | succ k ih => rw [← Nat.add_assoc]; show (evTo p (j + k)).bind _ = _; rw [ih]; rfl
theorem evTo_no {p : ProofM} {j : Nat} {e : List EvM} (h : evTo p j = some e) (hj : j < p.forms.length) (hb : ¬ (brW p.forms[j]).length ≤ 40) : evTo p p.forms.length = none := by
  have h2 : evTo p (j + 1) = none := by
    show (evTo p j).bind _ = _
    rw [h]
    show evStep p j e = _
    unfold evStep
    rw [formI_eq hj, if_neg hb]
  have := evTo_none (k := p.forms.length - (j + 1)) h2
  rwa [show j + 1 + (p.forms.length - (j + 1)) = p.forms.length by omega] at this
theorem evTo_len {p : ProofM} (hok : okP p = true) : ∀ {j : Nat} {e : List EvM}, j ≤ p.forms.length → evTo p j = some e → e.length ≤ j * 2040 := by
  intro j
  induction j with
  | zero => intro e _ h; obtain rfl : [] = e := by simpa [evTo] using h
            simp
  | succ j ih =>
    intro e hj h
    have h' : (evTo p j).bind (evStep p j) = some e := h
    cases hp : evTo p j with
    | none => rw [hp] at h'; simp at h'
    | some q =>
      rw [hp] at h'
      have h1 := ih (by omega) hp
      have h2 : evStep p j q = some e := h'
      unfold evStep at h2
      by_cases hb : (brW (formI p j)).length ≤ 40
      · rw [if_pos hb] at h2
        have h3 := okP_st hok (show j < p.forms.length by omega)
        obtain rfl : _ = e := by simpa using h2
        simp only [List.length_append, evL_length]
        omega
      · rw [if_neg hb] at h2; cases h2
def eopM (p : ProofM) : List EvM × Int :=
  if okP p then match evTo p p.forms.length with
    | none => ([], 5)
    | some e => if e.length ≤ 2000 then (e, 0) else ([], 5)
  else ([], 1)
theorem eopM_bad {p : ProofM} (h : okP p = false) : eopM p = ([], 1) := by unfold eopM; rw [h]; rfl
theorem eopM_none {p : ProofM} (h : okP p = true) (k : evTo p p.forms.length = none) : eopM p = ([], 5) := by unfold eopM; rw [h, k]; rfl
theorem eopM_long {p : ProofM} {e : List EvM} (h : okP p = true) (k : evTo p p.forms.length = some e) (hl : ¬ e.length ≤ 2000) : eopM p = ([], 5) := by unfold eopM; rw [h, k]; simp [hl]
theorem eopM_yes {p : ProofM} {e : List EvM} (h : okP p = true) (k : evTo p p.forms.length = some e) (hl : e.length ≤ 2000) : eopM p = (e, 0) := by unfold eopM; rw [h, k]; simp [hl]
def EopPost (p : ProofM) (w : World) (e : Ending) (w' : World) : Prop :=
  ∃ u, e = .returned (.tuple #[u, .int .i64 (eopM p).2]) ∧ Evs w' (New w.heap.size w'.heap.size) u (eopM p).1 ∧ Up w w'
theorem EopPost.none {p : ProofM} {w w' : World} {c : Int} (h : eopM p = ([], c)) (g : Up w w') : EopPost p w (.returned (.tuple #[.slice none 0 0, .int .i64 c])) w' :=
  ⟨_, by rw [h], by rw [h]; exact Evs.nil _ _ _ _ (by omega), g⟩
theorem EopPost.some {p : ProofM} {w w' : World} {v : Value} {xs : List EvM} (h : eopM p = (xs, 0)) (k : Evs w' (New w.heap.size w'.heap.size) v xs) (g : Up w w') : EopPost p w (.returned (.tuple #[v, .int .i64 0])) w' :=
  ⟨_, by rw [h], by rw [h]; exact k, g⟩
end Go.Proofs.Ytjgdcjhmfbefdaa
set_option linter.unusedSimpArgs false
set_option linter.unusedVariables false
set_option maxRecDepth 100000
set_option maxHeartbeats 4000000
namespace Go.Proofs.Ytjgdcjhmfbefdaa
open Go.ChangeShapes Go.WideShapes Go.ChangeAt Go.RowKit
theorem iEop_any (w : World) (M H L : Nat → Prop) (v : Value) (p : ProofM) (h : ProofV w M H L v p) :
    Calls Try.prog 29 #[v] w (EopPost p w) := by
  have HPV := Lib.hid h
  obtain ⟨A0, c0, A1, c1, rfl, h0, h1, ⟨hl0, hc0⟩, ⟨hl1, hc1⟩⟩ := h
  have UW := Lib.hid (show Up w (w.alloc (.cells #[.slice A0 p.forms.length c0, .slice A1 p.sts.length c1] 31)) from (Chg.refl Nowhere w).alloc _)
  have H0 := Lib.hid (h0.up UW.out)
  have H1 := Lib.hid (h1.up UW.out)
  have HPW := Lib.hid (HPV.out.up UW.out)
  have Hq0 := Lib.hid (show (w.alloc (.cells #[.slice A0 p.forms.length c0, .slice A1 p.sts.length c1] 31)).cell? ⟨w.heap.size, 0, none⟩ = some (.slice A0 p.forms.length c0) from cell_new _ _ _ _)
  have Hq1 := Lib.hid (show (w.alloc (.cells #[.slice A0 p.forms.length c0, .slice A1 p.sts.length c1] 31)).cell? ⟨w.heap.size, 1, none⟩ = some (.slice A1 p.sts.length c1) from cell_new _ _ _ _)
  clear h0 h1 HPV
  have q0 := Hq0.out
  have q1 := Hq1.out
  go_enter Try.func29, Try.ntmps29
  go_wp2_with fail
  refine (ValidProof_any _ M H L _ p HPW.out).mono ?_
  rintro e w1 ⟨rfl, g1⟩
  clear q0 q1
  have G1 := Lib.hid (Chg.trans UW.out g1)
  have GB := Lib.hid g1
  have hz1 := G1.out.size
  cases hok : okP p with
  | false =>
    have HB := Lib.hid (eopM_bad hok)
    clear g1
    go_wp2
    go_ret2
    exact EopPost.none HB.out G1.out
  | true =>
  have HOK := Lib.hid hok
  have HLL := Lib.hid (okP_lens hok)
  have q0 := Chg.cell (Chg.alloc g1 (.cells #[] 106)) Hq0.out id
  have M1 := Lib.hid (OwnEvs.made w1 w1.heap.size (Nat.le_refl _))
  clear g1 hok
  go_wp2
  clear q0
  go_loopw [4, 16] (fun v i wr => ∃ (j : Nat) (ev : List EvM), j ≤ p.forms.length ∧ i = .int .i64 j ∧ Hid (evTo p j = some ev) ∧ Hid (OwnEvs wr w1.heap.size v ev) ∧ Hid (Up w1 wr)) (fun _ i _ => p.forms.length - (intOf i).toNat)
  case atStart => exact ⟨0, [], by omega, rfl, rfl, M1.out, (Chg.refl _ _).alloc _⟩
  case round =>
    obtain ⟨j, ev, hj, rfl, he, ho, hu⟩ := hrel
    have HLE := Lib.hid (evTo_len HOK.out hj he.out)
    have q0 := Chg.cell (Chg.trans GB.out hu.out) Hq0.out id
    have q1 := Chg.cell (Chg.trans GB.out hu.out) Hq1.out id
    have hzu := hu.out.size
    by_cases hlt : j < p.forms.length
    · have hltS : j < p.sts.length := by have := HLL.out; omega
      have UGR := Lib.hid (Chg.trans GB.out hu.out)
      obtain ⟨b3, o3, c3', vs3, he3, -, -, -, hE3, hc3⟩ := (H0.out.up UGR.out).at_ hlt
      obtain ⟨rfl, rfl⟩ : A0 = some ⟨b3, o3, none⟩ ∧ c0 = c3' := by simpa using he3
      obtain ⟨A3, k3, rfl, hv3⟩ := hE3.val
      have f0 := (hc3 0 _ rfl).1
      have f1 := (hc3 1 _ rfl).1
      have f2 := (hc3 2 _ rfl).1
      rw [Nat.add_zero] at f0
      have HV3 := Lib.hid hv3
      obtain ⟨b5, o5, c5', vs5, he5, -, -, -, hE5, hc5⟩ := (H1.out.up UGR.out).at_ hltS
      obtain ⟨rfl, rfl⟩ : A1 = some ⟨b5, o5, none⟩ ∧ c1 = c5' := by simpa using he5
      obtain ⟨A5, k5, rfl, hv5, -⟩ := hE5.val
      have e0 := (hc5 0 _ rfl).1
      simp only [Nat.mul_one, Nat.add_zero] at e0
      have HV5 := Lib.hid hv5
      clear hc3 hv3 he3 hc5 hv5 he5
      have HOF := Lib.hid (okP_form HOK.out hlt)
      have HSL := Lib.hid (show p.sts[j].length ≤ 2000 by have := okP_st HOK.out hlt; rwa [stsI_eq hltS] at this)
      have Hf1 := Lib.hid e0
      have Hq0r := Lib.hid q0
      have Hq1r := Lib.hid q1
      have HEV := Lib.hid he.out
      have HOW := Lib.hid ho.out
      have HU := Lib.hid hu.out
      have g0 := (show (wr.alloc (.cells #[.int .i64 p.forms[j].n, .int .i64 p.forms[j].p, .slice A3 p.forms[j].fs.length k3] 100)).cell? ⟨wr.heap.size, 0, none⟩ = some (.int .i64 p.forms[j].n) from cell_new _ _ _ _)
      have g1c := (show (wr.alloc (.cells #[.int .i64 p.forms[j].n, .int .i64 p.forms[j].p, .slice A3 p.forms[j].fs.length k3] 100)).cell? ⟨wr.heap.size, 1, none⟩ = some (.int .i64 p.forms[j].p) from cell_new _ _ _ _)
      have g2c := (show (wr.alloc (.cells #[.int .i64 p.forms[j].n, .int .i64 p.forms[j].p, .slice A3 p.forms[j].fs.length k3] 100)).cell? ⟨wr.heap.size, 2, none⟩ = some (.slice A3 p.forms[j].fs.length k3) from cell_new _ _ _ _)
      go_wp2_with fail
      refine (iBraid_any _ M H L _ p.forms[j] (HV3.out.up (by repeat (first | exact Chg.refl _ _ | apply Chg.drew | apply Chg.drewN | refine Chg.alloc ?_ _))) HOF.out).mono ?_
      rintro e w2 ⟨ha, hb, g2⟩
      have U2 := Lib.hid (show Up wr w2 from Chg.trans (by repeat (first | exact Chg.refl _ _ | apply Chg.drew | apply Chg.drewN | refine Chg.alloc ?_ _)) g2)
      clear g0 g1c g2c g2 f0 f1 f2 e0 q0 q1
      by_cases hs : (brW p.forms[j]).length ≤ 40
      rotate_left
      · obtain rfl := hb hs
        have HN := Lib.hid (eopM_none HOK.out (evTo_no HEV.out hlt hs))
        clear ha hb hs
        go_wp2
        go_ret2
        exact EopPost.none HN.out (Chg.trans G1.out (Chg.trans HU.out (by repeat (first | exact U2.out | refine Chg.alloc ?_ _))))
      obtain ⟨u, rfl, hi⟩ := ha hs
      obtain ⟨B7, d7, rfl, -, -, -⟩ := hi.shape
      have HI := Lib.hid hi
      have HS := Lib.hid hs
      have HT := Lib.hid (evTo_yes HEV.out hlt hltS hs)
      have HLW := Lib.hid (Lett.brW HOF.out)
      clear ha hb hs hi he ho hu
      have U7 := Lib.hid (show Up w2 (w2.alloc (.cells #[.int .i64 p.forms[j].n, .slice B7 (brW p.forms[j]).length d7] 148)) from (Chg.refl Nowhere w2).alloc _)
      have hz2 := U2.out.size
      have hz7 := U7.out.size
      have d1 := (show (w2.alloc (.cells #[.int .i64 p.forms[j].n, .slice B7 (brW p.forms[j]).length d7] 148)).cell? ⟨w2.heap.size, 1, none⟩ = some (.slice B7 (brW p.forms[j]).length d7) from cell_new _ _ _ _)
      have hle := HLE.out
      have hle2 : j * 2040 ≤ 60 * 2040 := Nat.mul_le_mul_right _ (by have := HLL.out; omega)
      have HL1 := Lib.hid (show ev.length + (evL (brW p.forms[j])).length ≤ 1099511627776 by rw [evL_length]; have := HS.out; omega)
      have HL2 := Lib.hid (show (ev ++ evL (brW p.forms[j])).length + p.sts[j].length ≤ 1099511627776 by rw [List.length_append, evL_length]; have := HS.out; have := HSL.out; omega)
      clear hle hle2
      go_upto_region 11 with (first | (go_at_call 100; refine (wordEvents_any _ _ _ (brW p.forms[j]) (HI.out.up (by repeat (first | exact Chg.refl _ _ | apply Chg.drew | apply Chg.drewN | refine Chg.alloc ?_ _))) HLW.out (by have := HS.out; omega)).mono ?_; rintro e w8 ⟨v8, rfl, k8, g8⟩; have K8 := Lib.hid k8; have U8 := Lib.hid (show Up w2 w8 from Chg.trans (by repeat (first | exact Chg.refl _ _ | apply Chg.drew | apply Chg.drewN | refine Chg.alloc ?_ _)) g8); have hz8 := g8.size; clear k8 g8) | (at_builtin; refine wp_appendEvs rfl _ _ rfl w1.heap.size _ ev rfl (HOW.out.up (Chg.trans U2.out U8.out)) _ _ (evL (brW p.forms[j])) rfl K8.out HL1.out (by have := U8.out.size; omega) ?_; intro v9 w9 h1 h2 h3; have HO9 := Lib.hid h1; have HG9 := Lib.hid h3; have U9 := Lib.hid (Chg.new (Chg.trans HU.out (Chg.trans U2.out U8.out)) h3 (fun i hi => by omega)); have q1 := Chg.cell (Chg.trans GB.out U9.out) Hq1.out id; have Y := Lib.hid (H1.out.up (Chg.trans GB.out U9.out)); clear h1 h2 h3))
      clear d1
      obtain ⟨b6, o6, c6', vs6, he6, -, -, -, hE6, hc6⟩ := Y.out.at_ hltS
      obtain ⟨hA6, rfl⟩ : (some ⟨b5, o5, none⟩ : Option Addr) = some ⟨b6, o6, none⟩ ∧ c1 = c6' := by simpa using he6
      obtain ⟨rfl, rfl⟩ : b5 = b6 ∧ o5 = o6 := by simpa using hA6
      obtain ⟨A6, k6, rfl, hv6, -⟩ := hE6.val
      have e0 := (hc6 0 _ rfl).1
      simp only [Nat.mul_one, Nat.add_zero] at e0
      have HV6 := Lib.hid hv6
      clear hc6 hv6 he6 hE6 hA6
      go_wp2_with (at_builtin; refine wp_appendEvs rfl _ _ rfl w1.heap.size _ (ev ++ evL (brW p.forms[j])) rfl HO9.out _ _ p.sts[j] rfl HV6.out HL2.out (by have := U9.out.size; omega) ?_; intro v10 w10 h1 h2 h3; have HO := Lib.hid h1; have U10 := Lib.hid (Chg.new U9.out h3 (fun i hi => by omega)); clear h1 h2 h3)
      go_roundw
      case rel => exact ⟨j + 1, _, by omega, by go_num, HT.out, HO.out, U10.out⟩
      case measure => first | (simp [intOf]; done) | (simp [intOf]; omega)
    · obtain rfl : j = p.forms.length := by omega
      have hle := HLE.out
      obtain ⟨A9, c9, rfl, -, -, -⟩ := ho.out.rd.shape
      by_cases hlg : ev.length ≤ 2000
      · have HN := Lib.hid (eopM_yes HOK.out he.out hlg)
        go_wp2
        go_ret2
        exact EopPost.some HN.out (ho.out.rd.mono (fun b _ h => ⟨by have := h.1; omega, h.2⟩)) (Chg.trans G1.out hu.out)
      · have HN := Lib.hid (eopM_long HOK.out he.out hlg)
        go_wp2
        go_ret2
        exact EopPost.none HN.out (Chg.trans G1.out hu.out)
end Go.Proofs.Ytjgdcjhmfbefdaa
set_option linter.unusedSimpArgs false
set_option linter.unusedVariables false
set_option maxRecDepth 100000
set_option maxHeartbeats 4000000
namespace Go.Proofs.Ytjgdcjhmfbefdaa
open Go.ChangeShapes Go.WideShapes Go.ChangeAt Go.RowKit
theorem sEop_any (w : World) (M H L : Nat → Prop) (v : Value) (p : ProofM) (h : ProofV w M H L v p) :
    Calls Try.prog 28 #[v] w (EopPost p w) := by
  have HPV := Lib.hid h
  obtain ⟨A0, c0, A1, c1, rfl, h0, h1, ⟨hl0, hc0⟩, ⟨hl1, hc1⟩⟩ := h
  have UW := Lib.hid (show Up w (w.alloc (.cells #[.slice A0 p.forms.length c0, .slice A1 p.sts.length c1] 31)) from (Chg.refl Nowhere w).alloc _)
  have H0 := Lib.hid (h0.up UW.out)
  have H1 := Lib.hid (h1.up UW.out)
  have HPW := Lib.hid (HPV.out.up UW.out)
  have Hq0 := Lib.hid (show (w.alloc (.cells #[.slice A0 p.forms.length c0, .slice A1 p.sts.length c1] 31)).cell? ⟨w.heap.size, 0, none⟩ = some (.slice A0 p.forms.length c0) from cell_new _ _ _ _)
  have Hq1 := Lib.hid (show (w.alloc (.cells #[.slice A0 p.forms.length c0, .slice A1 p.sts.length c1] 31)).cell? ⟨w.heap.size, 1, none⟩ = some (.slice A1 p.sts.length c1) from cell_new _ _ _ _)
  clear h0 h1 HPV
  go_enter Try.func28, Try.ntmps28
  go_wp2_with fail
  refine (l26Ok_any _ M H L w.heap.size 0 p A0 A1 c0 c1 Hq0.out Hq1.out H0.out H1.out hl0 hc0 hl1 hc1).mono ?_
  rintro e w1 ⟨rfl, g1⟩
  have G1 := Lib.hid (Chg.trans UW.out g1)
  have GB := Lib.hid g1
  have hz1 := G1.out.size
  cases hok : okP p with
  | false =>
    have HB := Lib.hid (eopM_bad hok)
    clear g1
    go_wp2
    go_ret2
    exact EopPost.none HB.out G1.out
  | true =>
  have HOK := Lib.hid hok
  have HLL := Lib.hid (okP_lens hok)
  have q0 := Chg.cell (Chg.alloc g1 (.cells #[] 106)) Hq0.out id
  have M1 := Lib.hid (OwnEvs.made w1 w1.heap.size (Nat.le_refl _))
  clear g1 hok
  go_wp2
  clear q0
  go_loopw [4, 5] (fun v i wr => ∃ (j : Nat) (ev : List EvM), j ≤ p.forms.length ∧ i = .int .i64 j ∧ Hid (evTo p j = some ev) ∧ Hid (OwnEvs wr w1.heap.size v ev) ∧ Hid (Up w1 wr)) (fun _ i _ => p.forms.length - (intOf i).toNat)
  case atStart => exact ⟨0, [], by omega, rfl, rfl, M1.out, (Chg.refl _ _).alloc _⟩
  case round =>
    obtain ⟨j, ev, hj, rfl, he, ho, hu⟩ := hrel
    have HLE := Lib.hid (evTo_len HOK.out hj he.out)
    have q0 := Chg.cell (Chg.trans GB.out hu.out) Hq0.out id
    have q1 := Chg.cell (Chg.trans GB.out hu.out) Hq1.out id
    have hzu := hu.out.size
    by_cases hlt : j < p.forms.length
    · have hltS : j < p.sts.length := by have := HLL.out; omega
      have UGR := Lib.hid (Chg.trans GB.out hu.out)
      obtain ⟨b3, o3, c3', vs3, he3, -, -, -, hE3, hc3⟩ := (H0.out.up UGR.out).at_ hlt
      obtain ⟨rfl, rfl⟩ : A0 = some ⟨b3, o3, none⟩ ∧ c0 = c3' := by simpa using he3
      obtain ⟨A3, k3, rfl, hv3⟩ := hE3.val
      have f0 := (hc3 0 _ rfl).1
      have f1 := (hc3 1 _ rfl).1
      have f2 := (hc3 2 _ rfl).1
      rw [Nat.add_zero] at f0
      have HV3 := Lib.hid hv3
      obtain ⟨b5, o5, c5', vs5, he5, -, -, -, hE5, hc5⟩ := (H1.out.up UGR.out).at_ hltS
      obtain ⟨rfl, rfl⟩ : A1 = some ⟨b5, o5, none⟩ ∧ c1 = c5' := by simpa using he5
      obtain ⟨A5, k5, rfl, hv5, -⟩ := hE5.val
      have e0 := (hc5 0 _ rfl).1
      simp only [Nat.mul_one, Nat.add_zero] at e0
      have HV5 := Lib.hid hv5
      clear hc3 hv3 he3 hc5 hv5 he5
      have HOF := Lib.hid (okP_form HOK.out hlt)
      have HSL := Lib.hid (show p.sts[j].length ≤ 2000 by have := okP_st HOK.out hlt; rwa [stsI_eq hltS] at this)
      have Hf1 := Lib.hid e0
      have Hq0r := Lib.hid q0
      have Hq1r := Lib.hid q1
      have HEV := Lib.hid he.out
      have HOW := Lib.hid ho.out
      have HU := Lib.hid hu.out
      go_wp2_with fail
      refine (sBraid_any _ M H L _ p.forms[j] (HV3.out.up (by repeat (first | exact Chg.refl _ _ | apply Chg.drew | apply Chg.drewN | refine Chg.alloc ?_ _))) HOF.out).mono ?_
      rintro e w2 ⟨ha, hb, g2⟩
      have U2 := Lib.hid (show Up wr w2 from Chg.trans (by repeat (first | exact Chg.refl _ _ | apply Chg.drew | apply Chg.drewN | refine Chg.alloc ?_ _)) g2)
      clear g2 f0 f1 f2 e0 q0 q1
      by_cases hs : (brW p.forms[j]).length ≤ 40
      rotate_left
      · obtain rfl := hb hs
        have HN := Lib.hid (eopM_none HOK.out (evTo_no HEV.out hlt hs))
        clear ha hb hs
        go_wp2
        go_ret2
        exact EopPost.none HN.out (Chg.trans G1.out (Chg.trans HU.out (by repeat (first | exact U2.out | refine Chg.alloc ?_ _))))
      obtain ⟨u, rfl, hi⟩ := ha hs
      obtain ⟨B7, d7, rfl, -, -, -⟩ := hi.shape
      have HI := Lib.hid hi
      have HS := Lib.hid hs
      have HT := Lib.hid (evTo_yes HEV.out hlt hltS hs)
      have HLW := Lib.hid (Lett.brW HOF.out)
      clear ha hb hs hi he ho hu
      have U7 := Lib.hid (show Up w2 (w2.alloc (.cells #[.int .i64 p.forms[j].n, .slice B7 (brW p.forms[j]).length d7] 148)) from (Chg.refl Nowhere w2).alloc _)
      have hz2 := U2.out.size
      have hz7 := U7.out.size
      have d1 := (show (w2.alloc (.cells #[.int .i64 p.forms[j].n, .slice B7 (brW p.forms[j]).length d7] 148)).cell? ⟨w2.heap.size, 1, none⟩ = some (.slice B7 (brW p.forms[j]).length d7) from cell_new _ _ _ _)
      have hle := HLE.out
      have hle2 : j * 2040 ≤ 60 * 2040 := Nat.mul_le_mul_right _ (by have := HLL.out; omega)
      have HL1 := Lib.hid (show ev.length + (evL (brW p.forms[j])).length ≤ 1099511627776 by rw [evL_length]; have := HS.out; omega)
      have HL2 := Lib.hid (show (ev ++ evL (brW p.forms[j])).length + p.sts[j].length ≤ 1099511627776 by rw [List.length_append, evL_length]; have := HS.out; have := HSL.out; omega)
      clear hle hle2
      go_upto_region 11 with (first | (go_at_call 98; refine (l10Letters_any _ _ _ (brW p.forms[j]) (HI.out.up (by repeat (first | exact Chg.refl _ _ | apply Chg.drew | apply Chg.drewN | refine Chg.alloc ?_ _))) HLW.out (by have := HS.out; omega)).mono ?_; rintro e w8 ⟨v8, rfl, k8, g8⟩; have K8 := Lib.hid k8; have U8 := Lib.hid (show Up w2 w8 from Chg.trans (by repeat (first | exact Chg.refl _ _ | apply Chg.drew | apply Chg.drewN | refine Chg.alloc ?_ _)) g8); have hz8 := g8.size; clear k8 g8) | (at_builtin; refine wp_appendEvs rfl _ _ rfl w1.heap.size _ ev rfl (HOW.out.up (Chg.trans U2.out U8.out)) _ _ (evL (brW p.forms[j])) rfl K8.out HL1.out (by have := U8.out.size; omega) ?_; intro v9 w9 h1 h2 h3; have HO9 := Lib.hid h1; have HG9 := Lib.hid h3; have U9 := Lib.hid (Chg.new (Chg.trans HU.out (Chg.trans U2.out U8.out)) h3 (fun i hi => by omega)); have q1 := Chg.cell (Chg.trans GB.out U9.out) Hq1.out id; have Y := Lib.hid (H1.out.up (Chg.trans GB.out U9.out)); clear h1 h2 h3))
      clear d1
      obtain ⟨b6, o6, c6', vs6, he6, -, -, -, hE6, hc6⟩ := Y.out.at_ hltS
      obtain ⟨hA6, rfl⟩ : (some ⟨b5, o5, none⟩ : Option Addr) = some ⟨b6, o6, none⟩ ∧ c1 = c6' := by simpa using he6
      obtain ⟨rfl, rfl⟩ : b5 = b6 ∧ o5 = o6 := by simpa using hA6
      obtain ⟨A6, k6, rfl, hv6, -⟩ := hE6.val
      have e0 := (hc6 0 _ rfl).1
      simp only [Nat.mul_one, Nat.add_zero] at e0
      have HV6 := Lib.hid hv6
      clear hc6 hv6 he6 hE6 hA6
      go_wp2_with (at_builtin; refine wp_appendEvs rfl _ _ rfl w1.heap.size _ (ev ++ evL (brW p.forms[j])) rfl HO9.out _ _ p.sts[j] rfl HV6.out HL2.out (by have := U9.out.size; omega) ?_; intro v10 w10 h1 h2 h3; have HO := Lib.hid h1; have U10 := Lib.hid (Chg.new U9.out h3 (fun i hi => by omega)); clear h1 h2 h3)
      go_roundw
      case rel => exact ⟨j + 1, _, by omega, by go_num, HT.out, HO.out, U10.out⟩
      case measure => first | (simp [intOf]; done) | (simp [intOf]; omega)
    · obtain rfl : j = p.forms.length := by omega
      have hle := HLE.out
      obtain ⟨A9, c9, rfl, -, -, -⟩ := ho.out.rd.shape
      by_cases hlg : ev.length ≤ 2000
      · have HN := Lib.hid (eopM_yes HOK.out he.out hlg)
        go_wp2
        go_ret2
        exact EopPost.some HN.out (ho.out.rd.mono (fun b _ h => ⟨by have := h.1; omega, h.2⟩)) (Chg.trans G1.out hu.out)
      · have HN := Lib.hid (eopM_long HOK.out he.out hlg)
        go_wp2
        go_ret2
        exact EopPost.none HN.out (Chg.trans G1.out hu.out)
end Go.Proofs.Ytjgdcjhmfbefdaa
set_option linter.unusedSimpArgs false
set_option linter.unusedVariables false
set_option maxRecDepth 100000
set_option maxHeartbeats 2000000
namespace Go.Proofs.Ytjgdcjhmfbefdaa
open Go.ChangeShapes Go.WideShapes Go.ChangeAt Go.RowKit
structure Kept (w w' : World) : Prop where
  int : ∀ {b o : Nat} {i : Int}, w.cell? ⟨b, o, none⟩ = some (.int .i64 i) → ∃ i', w'.cell? ⟨b, o, none⟩ = some (.int .i64 i')
  slc : ∀ {b o : Nat} {A : Option Addr} {n c : Nat}, w.cell? ⟨b, o, none⟩ = some (.slice A n c) → w'.cell? ⟨b, o, none⟩ = some (.slice A n c)
  fz : ∀ {b o : Nat} {i : Int}, w.cell? ⟨b, o, none⟩ = some (.int .i64 i) → w'.frozen? ⟨b, o, none⟩ = w.frozen? ⟨b, o, none⟩
theorem Kept.refl (w : World) : Kept w w := ⟨fun h => ⟨_, h⟩, fun h => h, fun _ => rfl⟩
theorem Kept.up {w w' : World} (g : Up w w') : Kept w w' := ⟨fun h => ⟨_, Chg.cell g h id⟩, fun h => Chg.cell g h id, fun h => Chg.frozen g h id⟩
theorem Kept.trans {a b c : World} (h : Kept a b) (k : Kept b c) : Kept a c :=
  ⟨fun e => let ⟨_, e2⟩ := h.int e; k.int e2, fun e => k.slc (h.slc e), fun e => let ⟨_, e2⟩ := h.int e; (k.fz e2).trans (h.fz e)⟩
theorem Kept.setInt {w : World} {b o : Nat} {i : Int} (h : w.cell? ⟨b, o, none⟩ = some (.int .i64 i)) (i' : Int) : Kept w (w.setCell ⟨b, o, none⟩ (.int .i64 i')) := by
  refine ⟨fun {b2 o2 j} e => ?_, fun {b2 o2 A n c} e => ?_, fun _ => World.frozen?_setCell ..⟩
  · by_cases hh : (⟨b, o, none⟩ : Addr) = ⟨b2, o2, none⟩
    · rw [← hh]; exact ⟨_, World.cell?_setCell_same _ _ _ h⟩
    · exact ⟨_, (World.cell?_setCell_other w ⟨b, o, none⟩ ⟨b2, o2, none⟩ _ hh).trans e⟩
  · by_cases hh : (⟨b, o, none⟩ : Addr) = ⟨b2, o2, none⟩
    · rw [← hh, h] at e; cases e
    · exact (World.cell?_setCell_other w ⟨b, o, none⟩ ⟨b2, o2, none⟩ _ hh).trans e
theorem Kept.set {a w : World} (h : Kept a w) {b o : Nat} {i : Int} (hc : a.cell? ⟨b, o, none⟩ = some (.int .i64 i)) (i' : Int) : Kept a (w.setCell ⟨b, o, none⟩ (.int .i64 i')) :=
  let ⟨_, e⟩ := h.int hc; h.trans (Kept.setInt e i')
/-- what is stored in a leaf's cell -/
def cE (xs : List EvM) : Nat := xs.length * 6
def cSS (xss : List (List Int)) : Nat := cntF List.length xss xss.length
def cN (x : NormM) : Nat := 2 + cSS x.fs
def cNS (xs : List NormM) : Nat := cntF cN xs xs.length
def cES (xs : List (List EvM)) : Nat := cntF cE xs xs.length
def cP (p : ProofM) : Nat := cNS p.forms + cES p.sts
theorem mkInts (w0 w : World) (S : Nat → Prop) (v : Value) (xs : List Int) (k : Int) (hk : 0 ≤ k) (hb : k + (xs.length : Nat) ≤ 4611686018427387904) (h : Ints w0 S v xs) (kp : Kept w0 w) :
    Calls Try.prog 91 #[v, .int .i64 k] w fun e w' => e = .returned (.int .i64 (k + (xs.length : Nat))) ∧ Chg (S) w w' ∧ Kept w w' := by
  obtain ⟨A, c, rfl, hlc, hcm, -⟩ := h.shape
  have H := Lib.hid h
  have KP := Lib.hid kp
  clear h kp
  go_enter Try.func91, Try.ntmps91
  go_wp2
  go_loopw [1, 5] (fun q i wr => ∃ j : Nat, j ≤ xs.length ∧ i = .int .i64 j ∧ q = .int .i64 (k + (j : Nat)) ∧ Hid (Chg S w wr) ∧ Hid (Kept w wr)) (fun _ i _ => xs.length - (intOf i).toNat)
  case atStart => exact ⟨0, by omega, rfl, by simp, Chg.refl _ _, Kept.refl _⟩
  case round =>
    obtain ⟨j, hj, rfl, rfl, hg, hp⟩ := hrel
    by_cases hlt : j < xs.length
    · obtain ⟨b, o, rfl, -, hc⟩ := ints_ixf H.out hlt
      have HS := Lib.hid (ints_blk H.out (by omega))
      obtain ⟨p1, p2⟩ := hc j hlt
      obtain ⟨i0, c0⟩ := KP.out.int p1
      have z0 := (KP.out.fz p1).trans p2
      obtain ⟨i1, f0⟩ := hp.out.int c0
      have q0 := (hp.out.fz c0).trans z0
      have C0 := Lib.hid c0
      clear hc p1 p2 c0 z0
      go_wp2
      go_roundw
      case rel => exact ⟨j + 1, by omega, by go_num, by simp only [Value.int.injEq, true_and]; omega, Chg.setCell hg.out (p := ⟨b, o + j, none⟩) (.inl HS.out) _, hp.out.set C0.out _⟩
      case measure => first | (simp [intOf]; done) | (simp [intOf]; omega)
    · obtain rfl : j = xs.length := by omega
      go_wp2
      go_ret
      exact ⟨ret_int (by omega), hg.out, hp.out⟩
theorem mkEvs (w0 w : World) (S : Nat → Prop) (v : Value) (xs : List EvM) (k : Int) (hk : 0 ≤ k) (hb : k + (cE xs : Nat) ≤ 4611686018427387904) (h : Evs w0 S v xs) (kp : Kept w0 w) :
    Calls Try.prog 24 #[v, .int .i64 k] w fun e w' => e = .returned (.int .i64 (k + (cE xs : Nat))) ∧ Chg (S) w w' ∧ Kept w w' := by
  obtain ⟨A, c, rfl, hlc, hcm, -⟩ := h.shape
  have H := Lib.hid h
  have KP := Lib.hid kp
  clear h kp
  unfold cE at hb ⊢
  go_enter Try.func24, Try.ntmps24
  go_wp2
  go_loopw [1, 5] (fun q i wr => ∃ j : Nat, j ≤ xs.length ∧ i = .int .i64 j ∧ q = .int .i64 (k + 6 * (j : Nat)) ∧ Hid (Chg S w wr) ∧ Hid (Kept w wr)) (fun _ i _ => xs.length - (intOf i).toNat)
  case atStart => exact ⟨0, by omega, rfl, by simp, Chg.refl _ _, Kept.refl _⟩
  case round =>
    obtain ⟨j, hj, rfl, rfl, hg, hp⟩ := hrel
    by_cases hlt : j < xs.length
    · obtain ⟨b, o, c', he, hs, -, hc⟩ := H.out.at_ hlt
      obtain ⟨rfl, rfl⟩ : A = some ⟨b, o, none⟩ ∧ c = c' := by simpa using he
      have HS := Lib.hid hs
      obtain ⟨p0, y0⟩ := hc 0 _ rfl
      obtain ⟨i0, c0⟩ := KP.out.int p0
      have z0 := (KP.out.fz p0).trans y0
      obtain ⟨x0, f0⟩ := hp.out.int c0
      have q0 := (hp.out.fz c0).trans z0
      have C0 := Lib.hid c0
      clear p0 y0 c0 z0
      obtain ⟨p1, y1⟩ := hc 1 _ rfl
      obtain ⟨i1, c1⟩ := KP.out.int p1
      have z1 := (KP.out.fz p1).trans y1
      obtain ⟨x1, f1⟩ := hp.out.int c1
      have q1 := (hp.out.fz c1).trans z1
      have C1 := Lib.hid c1
      clear p1 y1 c1 z1
      obtain ⟨p2, y2⟩ := hc 2 _ rfl
      obtain ⟨i2, c2⟩ := KP.out.int p2
      have z2 := (KP.out.fz p2).trans y2
      obtain ⟨x2, f2⟩ := hp.out.int c2
      have q2 := (hp.out.fz c2).trans z2
      have C2 := Lib.hid c2
      clear p2 y2 c2 z2
      obtain ⟨p3, y3⟩ := hc 3 _ rfl
      obtain ⟨i3, c3⟩ := KP.out.int p3
      have z3 := (KP.out.fz p3).trans y3
      obtain ⟨x3, f3⟩ := hp.out.int c3
      have q3 := (hp.out.fz c3).trans z3
      have C3 := Lib.hid c3
      clear p3 y3 c3 z3
      obtain ⟨p4, y4⟩ := hc 4 _ rfl
      obtain ⟨i4, c4⟩ := KP.out.int p4
      have z4 := (KP.out.fz p4).trans y4
      obtain ⟨x4, f4⟩ := hp.out.int c4
      have q4 := (hp.out.fz c4).trans z4
      have C4 := Lib.hid c4
      clear p4 y4 c4 z4
      obtain ⟨p5, y5⟩ := hc 5 _ rfl
      obtain ⟨i5, c5⟩ := KP.out.int p5
      have z5 := (KP.out.fz p5).trans y5
      obtain ⟨x5, f5⟩ := hp.out.int c5
      have q5 := (hp.out.fz c5).trans z5
      have C5 := Lib.hid c5
      clear p5 y5 c5 z5
      rw [Nat.add_zero] at f0 q0
      have C0 : Hid (w.cell? ⟨b, o + j * 6, none⟩ = some (.int .i64 i0)) := C0
      clear hc he hs
      go_wp2
      go_roundw
      case rel => exact ⟨j + 1, by omega, by go_num, by simp only [Value.int.injEq, true_and]; omega, Chg.setCell (Chg.setCell (Chg.setCell (Chg.setCell (Chg.setCell (Chg.setCell (hg.out) (p := ⟨b, o + j * 6, none⟩) (.inl HS.out) _) (p := ⟨b, o + j * 6 + 1, none⟩) (.inl HS.out) _) (p := ⟨b, o + j * 6 + 2, none⟩) (.inl HS.out) _) (p := ⟨b, o + j * 6 + 3, none⟩) (.inl HS.out) _) (p := ⟨b, o + j * 6 + 4, none⟩) (.inl HS.out) _) (p := ⟨b, o + j * 6 + 5, none⟩) (.inl HS.out) _, Kept.set (Kept.set (Kept.set (Kept.set (Kept.set (Kept.set (hp.out) C0.out _) C1.out _) C2.out _) C3.out _) C4.out _) C5.out _⟩
      case measure => first | (simp [intOf]; done) | (simp [intOf]; omega)
    · obtain rfl : j = xs.length := by omega
      go_wp2
      go_ret
      exact ⟨ret_int (by omega), hg.out, hp.out⟩
theorem mkSS (w0 w : World) (M H L : Nat → Prop) (v : Value) (xs : List (List Int)) (k : Int) (hk : 0 ≤ k) (hb : k + (cSS xs : Nat) ≤ 4611686018427387904) (h : IntSSV w0 M H L v xs) (kp : Kept w0 w) :
    Calls Try.prog 88 #[v, .int .i64 k] w fun e w' => e = .returned (.int .i64 (k + (cSS xs : Nat))) ∧ Chg (L) w w' ∧ Kept w w' := by
  obtain ⟨A, c, rfl, hlc, hcm, -⟩ := h.shape
  have H := Lib.hid h
  have KP := Lib.hid kp
  clear h kp
  unfold cSS at hb ⊢
  go_enter Try.func88, Try.ntmps88
  go_wp2
  go_loopw [1, 5] (fun q i wr => ∃ j : Nat, j ≤ xs.length ∧ i = .int .i64 j ∧ q = .int .i64 (k + (cntF List.length xs j : Nat)) ∧ Hid (Chg L w wr) ∧ Hid (Kept w wr)) (fun _ i _ => xs.length - (intOf i).toNat)
  case atStart => exact ⟨0, by omega, rfl, by simp [cntF], Chg.refl _ _, Kept.refl _⟩
  case round =>
    obtain ⟨j, hj, rfl, rfl, hg, hp⟩ := hrel
    by_cases hlt : j < xs.length
    · obtain ⟨b, o, c', vs, he, -, -, -, hE, hc⟩ := H.out.at_ hlt
      obtain ⟨rfl, rfl⟩ : A = some ⟨b, o, none⟩ ∧ c = c' := by simpa using he
      obtain ⟨A3, k3, rfl, hv, -⟩ := hE.val
      have p1 := (hc 0 _ rfl).1
      simp only [Nat.mul_one, Nat.add_zero] at p1
      have f0 := hp.out.slc (KP.out.slc p1)
      have HV := Lib.hid hv
      have HC := Lib.hid (cntF_succ (f := List.length) hlt)
      have hle := cntF_le (f := List.length) (xs := xs) (show j + 1 ≤ xs.length by omega)
      rw [HC.out] at hle
      have HB := Lib.hid (show k + (cntF List.length xs j : Nat) + ((List.length xs[j] : Nat) : Int) ≤ 4611686018427387904 by omega)
      have HK := Lib.hid (show 0 ≤ k + (cntF List.length xs j : Nat) by omega)
      clear hc he hE hv p1 hle
      go_wp2_with fail
      refine (mkInts w0 _ L _ xs[j] _ HK.out HB.out HV.out (KP.out.trans hp.out)).mono ?_
      rintro e w1 ⟨rfl, g1, k1⟩
      have HG := Lib.hid (Chg.trans hg.out g1)
      have HP := Lib.hid (hp.out.trans k1)
      clear g1 k1 f0
      go_wp2
      go_roundw
      case rel => exact ⟨j + 1, by omega, by go_num, by rw [HC.out]; simp only [Value.int.injEq, true_and]; omega, HG.out, HP.out⟩
      case measure => first | (simp [intOf]; done) | (simp [intOf]; omega)
    · obtain rfl : j = xs.length := by omega
      go_wp2
      go_ret
      exact ⟨rfl, hg.out, hp.out⟩
theorem mkES (w0 w : World) (M H L : Nat → Prop) (v : Value) (xs : List (List EvM)) (k : Int) (hk : 0 ≤ k) (hb : k + (cES xs : Nat) ≤ 4611686018427387904) (h : EvSV w0 M H L v xs) (kp : Kept w0 w) :
    Calls Try.prog 102 #[v, .int .i64 k] w fun e w' => e = .returned (.int .i64 (k + (cES xs : Nat))) ∧ Chg (L) w w' ∧ Kept w w' := by
  obtain ⟨A, c, rfl, hlc, hcm, -⟩ := h.shape
  have H := Lib.hid h
  have KP := Lib.hid kp
  clear h kp
  unfold cES at hb ⊢
  go_enter Try.func102, Try.ntmps102
  go_wp2
  go_loopw [1, 5] (fun q i wr => ∃ j : Nat, j ≤ xs.length ∧ i = .int .i64 j ∧ q = .int .i64 (k + (cntF cE xs j : Nat)) ∧ Hid (Chg L w wr) ∧ Hid (Kept w wr)) (fun _ i _ => xs.length - (intOf i).toNat)
  case atStart => exact ⟨0, by omega, rfl, by simp [cntF], Chg.refl _ _, Kept.refl _⟩
  case round =>
    obtain ⟨j, hj, rfl, rfl, hg, hp⟩ := hrel
    by_cases hlt : j < xs.length
    · obtain ⟨b, o, c', vs, he, -, -, -, hE, hc⟩ := H.out.at_ hlt
      obtain ⟨rfl, rfl⟩ : A = some ⟨b, o, none⟩ ∧ c = c' := by simpa using he
      obtain ⟨A3, k3, rfl, hv, -⟩ := hE.val
      have p1 := (hc 0 _ rfl).1
      simp only [Nat.mul_one, Nat.add_zero] at p1
      have f0 := hp.out.slc (KP.out.slc p1)
      have HV := Lib.hid hv
      have HC := Lib.hid (cntF_succ (f := cE) hlt)
      have hle := cntF_le (f := cE) (xs := xs) (show j + 1 ≤ xs.length by omega)
      rw [HC.out] at hle
      have HB := Lib.hid (show k + (cntF cE xs j : Nat) + ((cE xs[j] : Nat) : Int) ≤ 4611686018427387904 by omega)
      have HK := Lib.hid (show 0 ≤ k + (cntF cE xs j : Nat) by omega)
      clear hc he hE hv p1 hle
      go_wp2_with fail
      refine (mkEvs w0 _ L _ xs[j] _ HK.out HB.out HV.out (KP.out.trans hp.out)).mono ?_
      rintro e w1 ⟨rfl, g1, k1⟩
      have HG := Lib.hid (Chg.trans hg.out g1)
      have HP := Lib.hid (hp.out.trans k1)
      clear g1 k1 f0
      go_wp2
      go_roundw
      case rel => exact ⟨j + 1, by omega, by go_num, by rw [HC.out]; simp only [Value.int.injEq, true_and]; omega, HG.out, HP.out⟩
      case measure => first | (simp [intOf]; done) | (simp [intOf]; omega)
    · obtain rfl : j = xs.length := by omega
      go_wp2
      go_ret
      exact ⟨rfl, hg.out, hp.out⟩
theorem mkNS (w0 w : World) (M H L : Nat → Prop) (v : Value) (xs : List NormM) (k : Int) (hk : 0 ≤ k) (hb : k + (cNS xs : Nat) ≤ 4611686018427387904) (h : NormSV w0 M H L v xs) (kp : Kept w0 w) :
    Calls Try.prog 101 #[v, .int .i64 k] w fun e w' => e = .returned (.int .i64 (k + (cNS xs : Nat))) ∧ Chg (fun b => M b ∨ L b) w w' ∧ Kept w w' := by
  obtain ⟨A, c, rfl, hlc, hcm, -⟩ := h.shape
  have HY := Lib.hid h
  have KP := Lib.hid kp
  clear h kp
  unfold cNS at hb ⊢
  go_enter Try.func101, Try.ntmps101
  go_wp2
  go_loopw [1, 5] (fun q i wr => ∃ j : Nat, j ≤ xs.length ∧ i = .int .i64 j ∧ q = .int .i64 (k + (cntF cN xs j : Nat)) ∧ Hid (Chg (fun b => M b ∨ L b) w wr) ∧ Hid (Kept w wr)) (fun _ i _ => xs.length - (intOf i).toNat)
  case atStart => exact ⟨0, by omega, rfl, by simp [cntF], Chg.refl _ _, Kept.refl _⟩
  case round =>
    obtain ⟨j, hj, rfl, rfl, hg, hp⟩ := hrel
    by_cases hlt : j < xs.length
    · obtain ⟨b, o, c', vs, he, hs, -, -, hE, hc⟩ := HY.out.at_ hlt
      obtain ⟨rfl, rfl⟩ : A = some ⟨b, o, none⟩ ∧ c = c' := by simpa using he
      obtain ⟨A3, k3, rfl, hv, -⟩ := hE
      have HS := Lib.hid hs
      obtain ⟨p0, y0⟩ := hc 0 _ rfl
      obtain ⟨i0, c0⟩ := KP.out.int p0
      have z0 := (KP.out.fz p0).trans y0
      obtain ⟨x0, f0⟩ := hp.out.int c0
      have q0 := (hp.out.fz c0).trans z0
      have C0 := Lib.hid c0
      clear p0 y0 c0 z0
      obtain ⟨p1, y1⟩ := hc 1 _ rfl
      obtain ⟨i1, c1⟩ := KP.out.int p1
      have z1 := (KP.out.fz p1).trans y1
      obtain ⟨x1, f1⟩ := hp.out.int c1
      have q1 := (hp.out.fz c1).trans z1
      have C1 := Lib.hid c1
      clear p1 y1 c1 z1
      rw [Nat.add_zero] at f0 q0
      have C0 : Hid (w.cell? ⟨b, o + j * 3, none⟩ = some (.int .i64 i0)) := C0
      have c2 := KP.out.slc (hc 2 _ rfl).1
      have f2 := hp.out.slc c2
      have HV := Lib.hid hv
      have HC := Lib.hid (cntF_succ (f := cN) hlt)
      have hle := cntF_le (f := cN) (xs := xs) (show j + 1 ≤ xs.length by omega)
      rw [HC.out] at hle
      have hcn : cN xs[j] = 2 + cSS xs[j].fs := rfl
      obtain ⟨m, hm⟩ : ∃ m : Nat, m = cntF cN xs j := ⟨_, rfl⟩
      rw [← hm] at hle ⊢
      have HM := Lib.hid hm
      have HCN := Lib.hid hcn
      have HB := Lib.hid (show k + (m : Nat) + 1 + 1 + ((cSS xs[j].fs : Nat) : Int) ≤ 4611686018427387904 by omega)
      have HK := Lib.hid (show 0 ≤ k + (m : Nat) + 1 + 1 by omega)
      have hb2 : k + (m : Int) + 2 ≤ 4611686018427387904 := by omega
      have WD := Lib.hid (show Chg (fun b => M b ∨ L b) w ((wr.setCell ⟨b, o + j * 3, none⟩ (.int .i64 (k + m))).setCell ⟨b, o + j * 3 + 1, none⟩ (.int .i64 (k + m + 1))) from Chg.setCell (Chg.setCell hg.out (p := ⟨b, o + j * 3, none⟩) (.inl (.inl HS.out)) _) (p := ⟨b, o + j * 3 + 1, none⟩) (.inl (.inl HS.out)) _)
      have KD := Lib.hid (show Kept w ((wr.setCell ⟨b, o + j * 3, none⟩ (.int .i64 (k + m))).setCell ⟨b, o + j * 3 + 1, none⟩ (.int .i64 (k + m + 1))) from Kept.set (Kept.set hp.out C0.out _) C1.out _)
      have f2' := KD.out.slc c2
      clear hc he hv hle hm hcn c2 hs
      go_wp2_with fail
      refine (mkSS w0 _ M H L _ xs[j].fs _ HK.out HB.out HV.out (KP.out.trans KD.out)).mono ?_
      rintro e w1 ⟨rfl, g1, k1⟩
      have HG := Lib.hid (Chg.trans WD.out (g1.mono (fun b _ hb => .inr hb)))
      have HP := Lib.hid (KD.out.trans k1)
      clear g1 k1 f0 f1 f2 q0 q1 f2'
      go_wp2
      go_roundw
      case rel => exact ⟨j + 1, by omega, by go_num, by rw [HC.out, HCN.out, ← HM.out]; simp only [Value.int.injEq, true_and]; omega, HG.out, HP.out⟩
      case measure => first | (simp [intOf]; done) | (simp [intOf]; omega)
    · obtain rfl : j = xs.length := by omega
      go_wp2
      go_ret
      exact ⟨rfl, hg.out, hp.out⟩
theorem mkProof (w0 w : World) (M H L : Nat → Prop) (v : Value) (p : ProofM) (k : Int) (hk : 0 ≤ k) (hb : k + (cP p : Nat) ≤ 4611686018427387904) (h : ProofV w0 M H L v p) (kp : Kept w0 w) :
    Calls Try.prog 30 #[v, .int .i64 k] w fun e w' => e = .returned (.int .i64 (k + (cP p : Nat))) ∧ Chg (fun b => M b ∨ L b) w w' ∧ Kept w w' := by
  obtain ⟨A0, c0, A1, c1, rfl, h0, h1, ⟨hl0, hc0⟩, ⟨hl1, hc1⟩⟩ := h
  have H0 := Lib.hid h0
  have H1 := Lib.hid h1
  have KP := Lib.hid kp
  have UB := Lib.hid (show Up w (w.alloc (.cells #[.slice A0 p.forms.length c0, .slice A1 p.sts.length c1] 31)) from (Chg.refl Nowhere w).alloc _)
  have q0 := (show (w.alloc (.cells #[.slice A0 p.forms.length c0, .slice A1 p.sts.length c1] 31)).cell? ⟨w.heap.size, 0, none⟩ = some (.slice A0 p.forms.length c0) from cell_new _ _ _ _)
  have q1 := Lib.hid (show (w.alloc (.cells #[.slice A0 p.forms.length c0, .slice A1 p.sts.length c1] 31)).cell? ⟨w.heap.size, 1, none⟩ = some (.slice A1 p.sts.length c1) from cell_new _ _ _ _)
  have KB := Lib.hid (Kept.up UB.out)
  have hcp : cP p = cNS p.forms + cES p.sts := rfl
  have HCP := Lib.hid hcp
  have HB0 := Lib.hid (show k + ((cNS p.forms : Nat) : Int) ≤ 4611686018427387904 by omega)
  have HB1 := Lib.hid (show k + ((cNS p.forms : Nat) : Int) + ((cES p.sts : Nat) : Int) ≤ 4611686018427387904 by omega)
  have HK1 := Lib.hid (show 0 ≤ k + ((cNS p.forms : Nat) : Int) by omega)
  clear h0 h1 kp hcp
  go_enter Try.func30, Try.ntmps30
  go_wp2_with fail
  refine (mkNS w0 _ M H L _ p.forms k hk HB0.out H0.out (KP.out.trans KB.out)).mono ?_
  rintro e w1 ⟨rfl, g1, k1⟩
  have K1 := Lib.hid k1
  have G1 := Lib.hid g1
  clear g1 k1 q0
  have q1' := K1.out.slc q1.out
  go_wp2_with fail
  refine (mkES w0 _ M H L _ p.sts _ HK1.out HB1.out H1.out (KP.out.trans (KB.out.trans K1.out))).mono ?_
  rintro e w2 ⟨rfl, g2, k2⟩
  have K2 := Lib.hid k2
  have G2 := Lib.hid g2
  clear g2 k2 q1'
  go_wp2
  go_ret
  exact ⟨ret_int (by rw [HCP.out]; omega), Chg.trans (Chg.of_up UB.out) (Chg.trans G1.out (G2.out.mono (fun b _ hb => .inr hb))), KB.out.trans (K1.out.trans K2.out)⟩
end Go.Proofs.Ytjgdcjhmfbefdaa
