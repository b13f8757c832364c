/- Both ProofOf, in the law's form. No condition but room. -/
import Derived.Test.YtplabnjdhkmmkaaProS
import Derived.Test.YtplabnjdhkmmkaaPF15
set_option linter.unusedSimpArgs false
set_option linter.unusedVariables false
namespace Go.Proofs.Ytplabnjdhkmmkaa
open Go.ChangeShapes Go.WideShapes Go.ChangeAt Go.RowKit
theorem Evs.lts {w : World} {S : Nat → Prop} {v : Value} {xs : List EvM} (h : Evs w S v xs) : Evs w (fun b => S b ∧ b < w.heap.size) v xs := ⟨Raw.mono h.1 (fun b hb h => ⟨h, hb⟩), h.2⟩
theorem pProofOf_A (w : World) (S : Nat → Prop) (v : Value) (xs : List EvM) (h : Evs w S v xs) (hl : xs.length ≤ 1048576) :
    Calls Try.prog 18 #[v] w fun e w' => ∃ u, e = .returned (.tuple #[u, .int .i64 (prfK xs)]) ∧ ProofR (b := true) w' (New w.heap.size w'.heap.size) u (prfM xs) ∧ Up w w' := by
  refine (ProofOf_any w _ v xs h.lts (fun b hb => hb.2) (by omega)).mono ?_
  rintro e w' ⟨hr, hu⟩
  unfold PrfRes at hr
  unfold prfK prfM
  by_cases hok : okE xs = true
  · rw [if_pos hok] at hr ⊢
    rw [if_pos hok]
    cases hb : blkR xs 0 [] [⟨0, [], []⟩] with
    | none => rw [hb] at hr; exact ⟨_, hr, MadeP.nil w' _, hu⟩
    | some bs =>
      rw [hb] at hr
      obtain ⟨v1, v2, he, hm⟩ := hr
      exact ⟨_, he, hm.res, hu⟩
  · rw [if_neg hok] at hr ⊢
    rw [if_neg hok]
    exact ⟨_, hr, MadeP.nil w' _, hu⟩
theorem sProofOf_A (w : World) (S : Nat → Prop) (v : Value) (xs : List EvM) (h : Evs w S v xs) (hl : xs.length ≤ 1048576) :
    Calls Try.prog 16 #[v] w fun e w' => ∃ u, e = .returned (.tuple #[u, .int .i64 (prfK xs)]) ∧ ProofR (b := false) w' (New w.heap.size w'.heap.size) u (prfM xs) ∧ Up w w' :=
  sProofOf_any w _ v xs h.lts (fun b hb => hb.2) (by omega)
end Go.Proofs.Ytplabnjdhkmmkaa
