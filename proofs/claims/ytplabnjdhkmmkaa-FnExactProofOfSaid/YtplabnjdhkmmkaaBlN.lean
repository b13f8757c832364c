/- Reduced words stay as they are; more on blocks. No condition. -/
import Derived.Test.YtplabnjdhkmmkaaBlI
set_option linter.unusedSimpArgs false
set_option linter.unusedVariables false
namespace Go.Proofs.Ytplabnjdhkmmkaa
open Go.ChangeShapes Go.WideShapes Go.ChangeAt Go.RowKit
/-- no two neighbours cancel -/
def Redd (o : List Int) : Prop := ∀ pre a b post, o = pre ++ a :: b :: post → a ≠ -b
theorem Redd.left {o p : List Int} (h : Redd (o ++ p)) : Redd o := fun pre a b post e => h pre a b (post ++ p) (by rw [e]; simp)
theorem Redd.step {o : List Int} (h : Redd o) (k : Int) : Redd (redStep o k) := by
  unfold redStep
  split
  · rcases List.eq_nil_or_concat o with rfl | ⟨o', x, rfl⟩
    · exact fun pre a b post e => by simp at e
    · rw [List.concat_eq_append] at h ⊢
      rw [List.dropLast_concat]
      exact h.left
  · rename_i hn
    intro pre a b post e
    rcases List.eq_nil_or_concat post with rfl | ⟨post', y, rfl⟩
    · have e1 : o ++ [k] = (pre ++ [a]) ++ [b] := by rw [e]; simp
      obtain ⟨e2, e3⟩ := List.append_inj' e1 rfl
      injection e3 with e3
      subst e3
      subst e2
      intro ha
      exact hn (by rw [ha]; simp)
    · have e1 : o ++ [k] = (pre ++ a :: b :: post') ++ [y] := by rw [e]; simp
      obtain ⟨e2, -⟩ := List.append_inj' e1 rfl
      exact h pre a b post' e2
theorem redd_redM (u : List Int) : Redd (redM u) := by
  have key : ∀ (u o : List Int), Redd o → Redd (u.foldl redStep o) := by
    intro u
    induction u with
    | nil => exact fun o h => h
    | cons x u ih => exact fun o h => ih _ (h.step x)
  exact key u [] (fun pre a b post e => by simp at e)
theorem Redd.redM : ∀ (l : Nat) (o : List Int), o.length = l → Redd o → Go.Proofs.Ytplabnjdhkmmkaa.redM o = o
  | 0, o, hl, _ => by obtain rfl := List.eq_nil_of_length_eq_zero hl; rfl
  | l + 1, o, hl, h => by
    rcases List.eq_nil_or_concat o with rfl | ⟨o', k, rfl⟩
    · rfl
    · rw [List.concat_eq_append] at h hl ⊢
      have hl2 : o'.length = l := by simpa using hl
      rw [redM_snoc, Redd.redM l o' hl2 h.left]
      unfold redStep
      rw [if_neg]
      intro e
      rcases List.eq_nil_or_concat o' with rfl | ⟨o2, a, rfl⟩
      · simp at e
      · have e : a = -k := by simpa using e
        exact h o2 a k [] (by simp) e
theorem redM_redM (u : List Int) : redM (redM u) = redM u := Redd.redM _ _ rfl (redd_redM u)
theorem redM_more (u : List Int) (x : Int) : redM (redM u ++ [x]) = redM (u ++ [x]) := by rw [redM_snoc, redM_snoc, redM_redM]
theorem OwnI.more {w : World} {base base' : Nat} {v : Value} {xs : List Int} (h : OwnI w base v xs) (hb : base' ≤ base) : OwnI w base' v xs := by
  refine ⟨⟨h.1.1, ?_⟩, h.2⟩
  rcases h.1.2 with h1 | ⟨g, cap, cur, e, hg, r⟩
  · exact .inl h1
  · exact .inr ⟨g, cap, cur, e, by omega, r⟩
end Go.Proofs.Ytplabnjdhkmmkaa
