/- Plain words for the comparison of proofs: lists that agree up to a place. No condition. -/
import Derived.Test.YtjgdcjhmfbefdaaNsP
namespace Go.Proofs.Ytjgdcjhmfbefdaa
theorem evM_eq {a b : EvM} : a = b ↔ a.kind = b.kind ∧ a.place = b.place ∧ a.count = b.count ∧ a.bed = b.bed ∧ a.car = b.car ∧ a.dir = b.dir := by
  cases a; cases b; simp
instance : DecidableEq EvM := fun _ _ => decidable_of_iff _ evM_eq.symm
theorem normM_eq {a b : NormM} : a = b ↔ a.n = b.n ∧ a.p = b.p ∧ a.fs = b.fs := by
  cases a; cases b; simp
instance : DecidableEq NormM := fun _ _ => decidable_of_iff _ normM_eq.symm
theorem proofM_eq {a b : ProofM} : a = b ↔ a.forms = b.forms ∧ a.sts = b.sts := by
  cases a; cases b; simp
instance : DecidableEq ProofM := fun _ _ => decidable_of_iff _ proofM_eq.symm
section
variable {α : Type}
def AgreeTo (xs ys : List α) (j : Nat) : Prop := ∀ i (h : i < xs.length) (h' : i < ys.length), i < j → xs[i] = ys[i]
theorem AgreeTo.start (xs ys : List α) : AgreeTo xs ys 0 := fun _ _ _ h => absurd h (Nat.not_lt_zero _)
theorem AgreeTo.next {xs ys : List α} {j : Nat} (h : AgreeTo xs ys j) (h1 : j < xs.length) (h2 : j < ys.length) (he : xs[j] = ys[j]) : AgreeTo xs ys (j + 1) := fun i a b c => by
  by_cases e : i = j
  · subst e
    exact he
  · exact h i a b (by omega)
theorem AgreeTo.all {xs ys : List α} (h : AgreeTo xs ys xs.length) (hl : xs.length = ys.length) : xs = ys :=
  List.ext_getElem hl fun i a b => h i a b a
theorem differ_at {xs ys : List α} {j : Nat} (h1 : j < xs.length) (h2 : j < ys.length) (he : xs[j] ≠ ys[j]) : xs ≠ ys := fun h => he (by subst h; rfl)
variable [DecidableEq α]
/-- whether two lists are the same -/
def sameL (xs ys : List α) : Bool := decide (xs = ys)
theorem sameL_all {xs ys : List α} (h : AgreeTo xs ys xs.length) (hl : xs.length = ys.length) : sameL xs ys = true := decide_eq_true (h.all hl)
theorem sameL_at {xs ys : List α} {j : Nat} (h1 : j < xs.length) (h2 : j < ys.length) (he : xs[j] ≠ ys[j]) : sameL xs ys = false := decide_eq_false (differ_at h1 h2 he)
theorem sameL_len {xs ys : List α} (h : xs.length ≠ ys.length) : sameL xs ys = false := decide_eq_false fun e => h (by rw [e])
end
def sameN (a b : NormM) : Bool := decide (a = b)
def sameP (a b : ProofM) : Bool := decide (a = b)
theorem sameN_and (a b : NormM) : sameN a b = (decide (a.n = b.n) && (decide (a.p = b.p) && sameL a.fs b.fs)) := by
  unfold sameN sameL
  rw [Bool.eq_iff_iff, decide_eq_true_eq, normM_eq, Bool.and_eq_true, Bool.and_eq_true]
  simp
theorem sameP_and (a b : ProofM) : sameP a b = (sameL a.forms b.forms && sameL a.sts b.sts) := by
  unfold sameP sameL
  rw [Bool.eq_iff_iff, decide_eq_true_eq, proofM_eq, Bool.and_eq_true]
  simp
end Go.Proofs.Ytjgdcjhmfbefdaa
