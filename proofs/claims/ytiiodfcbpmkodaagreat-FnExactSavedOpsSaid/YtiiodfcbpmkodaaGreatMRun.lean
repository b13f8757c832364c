/- Operations carried out one after the other: the machine ahead of each. No condition. -/
import Derived.Test.YtiiodfcbpmkodaaGreatMachM
set_option linter.unusedSimpArgs false
set_option linter.unusedVariables false
namespace Go.Proofs.YtiiodfcbpmkodaaGreat
def stM (m : MachM) (ops : List OpM) (i : Nat) : MachM := (ops.take i).foldl execM m
theorem stM_zero (m : MachM) (ops : List OpM) : stM m ops 0 = m := by simp [stM]
theorem stM_cons (m : MachM) (o : OpM) (os : List OpM) (i : Nat) : stM m (o :: os) (i + 1) = stM (execM m o) os i := rfl
theorem stM_succ : ∀ (m : MachM) (ops : List OpM) (i : Nat), i < ops.length → stM m ops (i + 1) = execM (stM m ops i) (ops.getD i opZ)
  | _, [], _, h => by simp at h
  | m, o :: os, 0, _ => by rw [stM_cons, stM_zero, stM_zero]; rfl
  | m, o :: os, i + 1, h => by
    rw [stM_cons, stM_succ (execM m o) os i (by simpa using h), stM_cons]
    rfl
theorem stM_wd : ∀ (m : MachM) (ops : List OpM) (i : Nat), (stM m ops i).wd = m.wd
  | _, [], _ => by simp [stM]
  | _, _ :: _, 0 => by rw [stM_zero]
  | m, o :: os, i + 1 => by rw [stM_cons, stM_wd (execM m o) os i, execM_wd]
/-- the first i operations are carried out -/
def okTo (m : MachM) (ops : List OpM) (i : Nat) : Prop := ∀ j, j < i → codeM (stM m ops j) (ops.getD j opZ) = 0
theorem okTo_zero (m : MachM) (ops : List OpM) : okTo m ops 0 := fun j h => by omega
theorem okTo_succ {m : MachM} {ops : List OpM} {i : Nat} (h : okTo m ops i) (hc : codeM (stM m ops i) (ops.getD i opZ) = 0) : okTo m ops (i + 1) := fun j hj => by
  by_cases e : j = i
  · subst e; exact hc
  · exact h j (by omega)
theorem okTo_tail {m : MachM} {o : OpM} {os : List OpM} {i : Nat} (h : okTo m (o :: os) (i + 1)) : codeM m o = 0 ∧ okTo (execM m o) os i := by
  refine ⟨?_, fun j hj => ?_⟩
  · have := h 0 (by omega)
    rw [stM_zero] at this
    exact this
  · exact h (j + 1) (by omega)
theorem run_bad : ∀ (m : MachM) (ops : List OpM) (i : Nat), i < ops.length → okTo m ops i → codeM (stM m ops i) (ops.getD i opZ) ≠ 0 → runM m ops = codeM (stM m ops i) (ops.getD i opZ)
  | _, [], _, h, _, _ => by simp at h
  | m, o :: os, 0, _, _, hc => by
    rw [stM_zero] at hc ⊢
    have hc' : codeM m o ≠ 0 := hc
    unfold runM
    rw [if_neg hc']
    rfl
  | m, o :: os, i + 1, h, hk, hc => by
    obtain ⟨h1, h2⟩ := okTo_tail hk
    unfold runM
    rw [if_pos h1]
    exact run_bad (execM m o) os i (by simpa using h) h2 hc
theorem run_good : ∀ (m : MachM) (ops : List OpM), okTo m ops ops.length → runM m ops = 0
  | _, [], _ => rfl
  | m, o :: os, hk => by
    obtain ⟨h1, h2⟩ := okTo_tail hk
    unfold runM
    rw [if_pos h1]
    exact run_good (execM m o) os h2
theorem run_to : ∀ (m : MachM) (ops : List OpM), runM m ops = 0 → okTo m ops ops.length
  | _, [], _ => fun j hj => by simp at hj
  | m, o :: os, hr => by
    obtain ⟨h1, h2⟩ := run_one hr
    intro j hj
    match j with
    | 0 => rw [stM_zero]; exact h1
    | j + 1 => exact run_to (execM m o) os h2 j (by simpa using hj)
theorem rules_at : ∀ (m : MachM) (ops : List OpM) (i : Nat), i < ops.length → (rulesM m ops)[i]? = some (ruleM (stM m ops i) (ops.getD i opZ) (ops.getD (i + 1) opZ))
  | _, [], _, h => by simp at h
  | m, o :: os, 0, _ => by
    rw [stM_zero]
    cases os <;> rfl
  | m, o :: os, i + 1, h => by
    have := rules_at (execM m o) os i (by simpa using h)
    rw [stM_cons]
    exact this
theorem rules_take (m : MachM) (ops : List OpM) (i : Nat) (h : i < ops.length) : (rulesM m ops).take (i + 1) = (rulesM m ops).take i ++ [ruleM (stM m ops i) (ops.getD i opZ) (ops.getD (i + 1) opZ)] := by
  rw [List.take_add_one, rules_at m ops i h]
  rfl
theorem rules_all (m : MachM) (ops : List OpM) : (rulesM m ops).take ops.length = rulesM m ops := by
  rw [← rulesM_length m ops, List.take_length]
theorem getD_mem {ops : List OpM} {i : Nat} (h : i < ops.length) : ops.getD i opZ ∈ ops := by
  rw [List.getD_eq_getElem?_getD, List.getElem?_eq_getElem h]
  exact List.getElem_mem h
theorem MInv.st {m : MachM} (h : MInv m) {ops : List OpM} (hok : ∀ x ∈ ops, okOp m.wd x) : ∀ (i : Nat), i ≤ ops.length → okTo m ops i → MInv (stM m ops i)
  | 0, _, _ => by rw [stM_zero]; exact h
  | i + 1, hi, hk => by
    rw [stM_succ m ops i (by omega)]
    exact (h.st hok i (by omega) fun j hj => hk j (by omega)).exec (by rw [stM_wd]; exact hok _ (getD_mem (by omega))) (hk i (by omega))
end Go.Proofs.YtiiodfcbpmkodaaGreat
