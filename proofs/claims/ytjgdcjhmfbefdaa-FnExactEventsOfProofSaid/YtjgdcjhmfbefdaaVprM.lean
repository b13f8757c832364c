/- Plain words for valid proofs. No condition. -/
import Derived.Test.YtjgdcjhmfbefdaaEvV
import Derived.Test.YtjgdcjhmfbefdaaPermN
set_option linter.unusedSimpArgs false
set_option linter.unusedVariables false
set_option maxRecDepth 100000
set_option maxHeartbeats 1000000
namespace Go.Proofs.Ytjgdcjhmfbefdaa
open Go.ChangeShapes Go.WideShapes Go.ChangeAt Go.RowKit
theorem evAfter_bd {x : EvM} {n : Int} (h : evOk x n = true) (hn : 0 ≤ n ∧ n ≤ 12) : 0 ≤ evAfter x.kind x.count n := by
  have h := of_decide_eq_true h
  obtain ⟨h0, h⟩ := h
  unfold evAfter
  split
  · rename_i e
    rcases h with ⟨h, _⟩ | ⟨_, h2, h3, _⟩ | ⟨h, _⟩ | ⟨h, _⟩ | ⟨h, _⟩ <;> omega
  · split
    · omega
    · split
      · rcases h with ⟨h, _⟩ | ⟨h, _⟩ | ⟨h, _⟩ | ⟨_, h2, h3, _⟩ | ⟨h, _⟩ <;> omega
      · omega
/-- the strands behind one event more, if it is fine -/
def stStep (a : Option Int) (e : EvM) : Option Int := a.bind fun n => if evOk e n = true ∧ evAfter e.kind e.count n ≤ 12 then some (evAfter e.kind e.count n) else none
def stM (xs : List EvM) (n : Int) : Option Int := xs.foldl stStep (some n)
theorem stM_none (xs : List EvM) : xs.foldl stStep none = none := by
  induction xs with
  | nil => rfl
  | cons e r ih => exact ih
theorem stM_succ {xs : List EvM} {n : Int} {j : Nat} (h : j < xs.length) : stM (xs.take (j + 1)) n = stStep (stM (xs.take j) n) xs[j] := by
  unfold stM
  rw [List.take_succ_eq_append_getElem h, List.foldl_append]
  rfl
theorem stM_stop {xs : List EvM} {n m : Int} {j : Nat} (h : j < xs.length) (h1 : stM (xs.take j) n = some m) (h2 : stStep (some m) xs[j] = none) : stM xs n = none := by
  unfold stM at *
  conv => lhs; rw [← List.take_append_drop (j + 1) xs]
  rw [List.foldl_append, List.take_succ_eq_append_getElem h, List.foldl_append, h1]
  show List.foldl stStep (stStep (some m) xs[j]) _ = none
  rw [h2]
  exact stM_none _
theorem stStep_no {e : EvM} {m : Int} (h : evOk e m = false) : stStep (some m) e = none := by simp [stStep, h]
theorem stStep_big {e : EvM} {m : Int} (h : ¬ evAfter e.kind e.count m ≤ 12) : stStep (some m) e = none := by simp [stStep, h]
theorem stStep_yes {e : EvM} {m : Int} (h : evOk e m = true) (h2 : evAfter e.kind e.count m ≤ 12) : stStep (some m) e = some (evAfter e.kind e.count m) := by simp [stStep, h, h2]
theorem stM_all {xs : List EvM} {n m : Int} (h : stM (xs.take xs.length) n = some m) : stM xs n = some m := by rwa [List.take_length] at h
def stV : Option Int → Value
  | some m => .tuple #[.int .i64 m, .bool true]
  | none => .tuple #[.int .i64 0, .bool false]
/-- whether there are crossings -/
def crossB (xs : List EvM) : Bool := xs.any fun e => e.kind == 1
def noCross (xs : List EvM) (j : Nat) : Prop := ∀ i (hi : i < xs.length), i < j → (xs[i].kind == 1) = false
theorem noCross.start (xs : List EvM) : noCross xs 0 := fun _ _ h => absurd h (Nat.not_lt_zero _)
theorem noCross.next {xs : List EvM} {j : Nat} (h : noCross xs j) (hj : j < xs.length) (hk : (xs[j].kind == 1) = false) : noCross xs (j + 1) := fun i hi hij => by
  by_cases e : i = j
  · subst e; exact hk
  · exact h i hi (by omega)
theorem noCross.all {xs : List EvM} (h : noCross xs xs.length) : crossB xs = false := by
  unfold crossB
  rw [List.any_eq_false]
  intro x hx
  obtain ⟨i, hi, rfl⟩ := List.getElem_of_mem hx
  rw [h i hi hi]
  decide
theorem cross_at {xs : List EvM} {j : Nat} (hj : j < xs.length) (hk : (xs[j].kind == 1) = true) : crossB xs = true := by
  unfold crossB
  rw [List.any_eq_true]
  exact ⟨xs[j], List.getElem_mem hj, hk⟩
/-- what form and stitches number i must be -/
def stsI (p : ProofM) (i : Nat) : List EvM := p.sts.getD i []
def formI (p : ProofM) (i : Nat) : NormM := p.forms.getD i ⟨0, 0, []⟩
theorem stsI_eq {p : ProofM} {i : Nat} (h : i < p.sts.length) : stsI p i = p.sts[i] := by unfold stsI; simp [h]
theorem formI_eq {p : ProofM} {i : Nat} (h : i < p.forms.length) : formI p i = p.forms[i] := by unfold formI; simp [h]
def prC (p : ProofM) (i : Nat) (n : Int) : Prop :=
  okN (formI p i) = true ∧ (formI p i).n = n ∧ ¬ (0 < i ∧ (formI p i).p = 0 ∧ (formI p i).fs.length = 0) ∧ (stsI p i).length ≤ 2000 ∧ ¬ (i + 1 < p.forms.length ∧ (stsI p i).length = 0) ∧ crossB (stsI p i) = false
instance (p : ProofM) (i : Nat) (n : Int) : Decidable (prC p i n) := by unfold prC; infer_instance
def prStep (p : ProofM) (a : Option Int) (i : Nat) : Option Int := a.bind fun n => if prC p i n then stM (stsI p i) n else none
def prTo (p : ProofM) (j : Nat) : Option Int := (List.range j).foldl (prStep p) (some 0)
def okP (p : ProofM) : Bool := decide (1 ≤ p.forms.length ∧ p.forms.length ≤ 60 ∧ p.sts.length = p.forms.length) && (prTo p p.forms.length).isSome
theorem prTo_succ (p : ProofM) (j : Nat) : prTo p (j + 1) = prStep p (prTo p j) j := by
  unfold prTo
  rw [List.range_succ, List.foldl_append]
  rfl
theorem prTo_none {p : ProofM} {j k : Nat} (h : prTo p j = none) : prTo p (j + k) = none := by
  induction k with
  | zero => exact h
  | succ k ih => rw [← Nat.add_assoc, prTo_succ, ih]; rfl
theorem okP_len {p : ProofM} (h : ¬ (1 ≤ p.forms.length ∧ p.forms.length ≤ 60 ∧ p.sts.length = p.forms.length)) : okP p = false := by unfold okP; rw [decide_eq_false h]; rfl
theorem okP_stop {p : ProofM} {j : Nat} {n : Int} (hj : j < p.forms.length) (h : prTo p j = some n) (h2 : prStep p (some n) j = none) : okP p = false := by
  have h3 : prTo p (j + 1) = none := by rw [prTo_succ, h, h2]
  have h4 := prTo_none (k := p.forms.length - (j + 1)) h3
  rw [show j + 1 + (p.forms.length - (j + 1)) = p.forms.length by omega] at h4
  unfold okP
  rw [h4]
  simp
theorem okP_all {p : ProofM} {n : Int} (hl : 1 ≤ p.forms.length ∧ p.forms.length ≤ 60 ∧ p.sts.length = p.forms.length) (h : prTo p p.forms.length = some n) : okP p = true := by
  unfold okP
  rw [decide_eq_true hl, h]
  rfl
theorem prStep_no {p : ProofM} {j : Nat} {n : Int} (h : ¬ prC p j n) : prStep p (some n) j = none := by simp [prStep, h]
theorem prStep_yes {p : ProofM} {j : Nat} {n : Int} (h : prC p j n) : prStep p (some n) j = stM (stsI p j) n := by simp [prStep, h]
theorem okN_bd {x : NormM} (h : okN x = true) : 0 ≤ x.n ∧ x.n ≤ 12 := by
  cases hb : inB x.n 0 12 with
  | false => rw [okN_n hb] at h; cases h
  | true => exact of_decide_eq_true hb
theorem stM_bd {xs : List EvM} {n : Int} (hn : 0 ≤ n ∧ n ≤ 12) : ∀ {j : Nat} {m : Int}, stM (xs.take j) n = some m → 0 ≤ m ∧ m ≤ 12 := by
  intro j
  induction j with
  | zero => intro m h; simp [stM] at h; omega
  | succ j ih =>
    intro m h
    by_cases hj : j < xs.length
    · rw [stM_succ hj] at h
      cases h1 : stM (xs.take j) n with
      | none => rw [h1] at h; simp [stStep] at h
      | some q =>
        rw [h1] at h
        have hq := ih h1
        cases he : evOk xs[j] q with
        | false => rw [stStep_no he] at h; cases h
        | true =>
          by_cases h12 : evAfter xs[j].kind xs[j].count q ≤ 12
          · rw [stStep_yes he h12] at h
            have := evAfter_bd he hq
            simp at h
            omega
          · rw [stStep_big h12] at h; cases h
    · rw [List.take_of_length_le (by omega)] at h
      rw [List.take_of_length_le (by omega)] at ih
      exact ih h
end Go.Proofs.Ytjgdcjhmfbefdaa
