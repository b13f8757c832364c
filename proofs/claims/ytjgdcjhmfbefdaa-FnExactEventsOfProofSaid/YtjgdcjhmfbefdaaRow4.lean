/- The columns that the stitches of a row take and make. No condition but room. -/
import Derived.Test.YtjgdcjhmfbefdaaRow3
import Derived.Test.YtjgdcjhmfbefdaaOwnS
namespace Go.Proofs.Ytjgdcjhmfbefdaa
open Go.ChangeShapes Go.WideShapes Go.ChangeAt Go.RowKit
theorem countM_succ (a : Int) (j : Nat) : countM a ((j : Int) + 1) = countM a j ++ [a + j] := by
  unfold countM
  rw [show ((j : Int) + 1).toNat = j + 1 by omega, List.range_succ]
  simp
theorem countM_len (a : Int) (j : Nat) : (countM a j).length = j := by rw [countM_length]; omega
theorem RowAt.open_ {w : World} {S : Nat → Prop} {b o : Nat} {r : RowM} (h : RowAt w S b o r) : ∃ A c, w.cell? ⟨b, o, none⟩ = some (.int .i64 r.d) ∧ w.cell? ⟨b, o + 1, none⟩ = some (.int .i64 r.c) ∧ w.cell? ⟨b, o + 2, none⟩ = some (.slice A r.xs.length c) ∧ Ints w S (.slice A r.xs.length c) r.xs ∧ r.xs.length ≤ c ∧ c ≤ 9223372036854775807 := by
  obtain ⟨A, c, h1, h2, h3, h4, h5, h6, _⟩ := h
  exact ⟨A, c, h1, h2, h3, h4, h5, h6⟩
end Go.Proofs.Ytjgdcjhmfbefdaa
