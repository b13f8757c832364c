/- The program's columns that stitches take and make; RowSources and RowResults on both sides. No condition but room. -/
import Derived.Test.YtjgdcjhmfbefdaaRow4
import Derived.Test.YtjgdcjhmfbefdaaPlan2
namespace Go.Proofs.Ytjgdcjhmfbefdaa
open Go.ChangeShapes Go.WideShapes Go.ChangeAt Go.RowKit
theorem openRow {w : World} {S : Nat → Prop} {v : Value} {r : RowM} (h : RowV w S v r) : ∃ A c, v = .agg #[.int .i64 r.d, .int .i64 r.c, .slice A r.xs.length c] ∧ Ints w S (.slice A r.xs.length c) r.xs ∧ r.xs.length ≤ c ∧ c ≤ 9223372036854775807 := by
  obtain ⟨A, c, h1, h2, h3, h4, _⟩ := h.shape
  exact ⟨A, c, h1, h2, h3, h4⟩
def sourcesOut (r : RowM) : List (List Int) := if rowCodeM r.d r.c r.xs = 0 then listsM takenK 0 r.xs else []
theorem laid_st_sources {r : RowM} (h : rowCodeM r.d r.c r.xs = 0) : stB r.xs = true := by
  obtain ⟨_, _, h3, h4, _, _⟩ := laid_of h
  unfold stB
  rw [Bool.and_eq_true]
  exact ⟨List.all_eq_true.2 h4, decide_eq_true h3⟩
def resultsOut (r : RowM) : List (List Int) := if rowCodeM r.d r.c r.xs = 0 then listsM madeK 0 r.xs else []
theorem laid_st_results {r : RowM} (h : rowCodeM r.d r.c r.xs = 0) : stB r.xs = true := by
  obtain ⟨_, _, h3, h4, _, _⟩ := laid_of h
  unfold stB
  rw [Bool.and_eq_true]
  exact ⟨List.all_eq_true.2 h4, decide_eq_true h3⟩
end Go.Proofs.Ytjgdcjhmfbefdaa
