/- Arguments that are braids. No condition. -/
import Derived.Test.YtmimbnpcokfnlaaOpenS
import Derived.Test.YtmimbnpcokfnlaaBrd
namespace Go.Proofs.Ytmimbnpcokfnlaa
open Go.ChangeShapes Go.WideShapes Go.ChangeAt Go.RowKit Go.Deep
set_option maxRecDepth 100000 in
theorem open_Braid {H : Type} {enc : TypeId × Value → H} {w : World} {v : Value} {d : DataW H} {p : List MemPlace} {base : Nat}
    (hv : Value.okWide Try.prog w .any base 42 v) (h : DataW.Trod enc Try.prog w 0 (fun _ => true) true 42 v d p)
    (hz : ∀ b off, MemPlace.cell b off ∈ p → w.frozen? ⟨b, off, none⟩ = false) : ∃ r, BraidV w (fun b => b < w.heap.size) v r := by
  obtain ⟨v0, v1, y0, y1, n, rfl, -, rfl, h0, h1⟩ := Go.Joins.open_agg2 Try.underlying42 (by kernel_rfl) (show Try.prog.cellsOf 42 = 2 by kernel_rfl) hv h
  obtain ⟨a0, e0, -, w0⟩ := DataW.trod_int Try.underlying2 h0
  simp only [List.cons.injEq, and_true] at e0
  subst e0
  obtain ⟨xs, hx⟩ := open_IntsT Try.underlying22 Try.underlying2 (by kernel_rfl) h1 (fun b off hm => hz b off (by simp [hm]))
  exact ⟨⟨a0, xs⟩, _, rfl, hx, I64.of_wf w0⟩
end Go.Proofs.Ytmimbnpcokfnlaa
