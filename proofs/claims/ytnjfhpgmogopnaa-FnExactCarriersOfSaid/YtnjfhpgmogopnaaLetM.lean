/- The letters of a row of stitches, and their bounds: plain data. No condition. -/
import Derived.Test.YtnjfhpgmogopnaaRowM
namespace Go.Proofs.Ytnjfhpgmogopnaa
def letAt (k c : Int) : List Int :=
  if k = 8 then [c + 1] else if k = 9 ∨ k = 5 then [-c - 1] else if k = 10 then [c + 2, c + 1, c + 3, c + 2] else if k = 11 then [-c - 2, -c - 1, -c - 3, -c - 2] else []
def letL : Int → List Int → List Int
  | _, [] => []
  | s, k :: ks => letAt k s ++ letL (s + takenK k) ks
theorem letAt_length (k c : Int) : (letAt k c).length ≤ 4 := by
  unfold letAt
  repeat' split
  all_goals simp
theorem letL_length : ∀ (ks : List Int) (s : Int), (letL s ks).length ≤ 4 * ks.length
  | [], _ => by simp [letL]
  | k :: ks, s => by
    have h1 := letL_length ks (s + takenK k)
    have h2 := letAt_length k s
    simp only [letL, List.length_append, List.length_cons]
    omega
theorem letL_append : ∀ (ks ls : List Int) (s : Int), letL s (ks ++ ls) = letL s ks ++ letL (s + sumF takenK ks) ls
  | [], ls, s => by simp [letL, sumF]
  | k :: ks, ls, s => by
    simp only [List.cons_append, letL, letL_append ks ls, sumF, List.append_assoc]
    rw [Int.add_assoc]
theorem letL_take {xs : List Int} {j : Nat} (h : j < xs.length) : letL 0 (xs.take (j + 1)) = letL 0 (xs.take j) ++ letAt xs[j] (sumF takenK (xs.take j)) := by
  rw [List.take_succ_eq_append_getElem h, letL_append]
  simp [letL]
/-- a letter on columns from s to e -/
def letP (s e x : Int) : Prop := (s + 1 ≤ x ∧ x ≤ e - 1) ∨ (s + 1 ≤ -x ∧ -x ≤ e - 1)
theorem letAt_in (k c : Int) : ∀ x ∈ letAt k c, letP c (c + takenK k) x := by
  unfold letAt letP
  by_cases h1 : k = 8
  · rw [if_pos h1]; have : takenK k = 2 := by unfold takenK; rw [if_neg (by omega), if_pos (by omega)]
    intro x hx; simp at hx; omega
  · rw [if_neg h1]
    by_cases h2 : k = 9 ∨ k = 5
    · rw [if_pos h2]; have : takenK k = 2 := by unfold takenK; rw [if_neg (by omega), if_pos (by omega)]
      intro x hx; simp at hx; omega
    · rw [if_neg h2]
      by_cases h3 : k = 10
      · rw [if_pos h3]; have : takenK k = 4 := by unfold takenK; rw [if_neg (by omega), if_neg (by omega), if_pos (by omega)]
        intro x hx; simp at hx; omega
      · rw [if_neg h3]
        by_cases h4 : k = 11
        · rw [if_pos h4]; have : takenK k = 4 := by unfold takenK; rw [if_neg (by omega), if_neg (by omega), if_pos (by omega)]
          intro x hx; simp at hx; omega
        · rw [if_neg h4]; simp
theorem letL_in : ∀ (ks : List Int) (s : Int), (∀ x ∈ letL s ks, letP s (s + sumF takenK ks) x) ∧ 0 ≤ sumF takenK ks
  | [], s => by simp [letL, sumF]
  | k :: ks, s => by
    obtain ⟨h1, h2⟩ := letL_in ks (s + takenK k)
    have hb := takenK_bd k
    refine ⟨fun x hx => ?_, by simp only [sumF]; omega⟩
    simp only [sumF]
    rcases List.mem_append.1 hx with hx | hx
    · have := letAt_in k s x hx; unfold letP at *; omega
    · have := h1 x hx; unfold letP at *; omega
theorem LaidRow.letters {d c : Int} {xs : List Int} (h : LaidRow d c xs) : ∀ x ∈ letL 0 xs, letP 0 8 x := fun x hx => by
  have h1 := (letL_in xs 0).1 x hx
  have := h.taken
  unfold letP at *
  omega
def absI (x : Int) : Int := if x < 0 then -x else x
theorem absI_bd {x : Int} (h : letP 0 8 x) : 1 ≤ absI x ∧ absI x ≤ 7 := by unfold letP at h; unfold absI; split <;> omega
end Go.Proofs.Ytnjfhpgmogopnaa
