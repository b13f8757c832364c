/- Arguments that are structs with a slice of numbers. No condition. -/
import Derived.Test.YtjgdcjhmfbefdaaOpen
import Derived.Test.YtjgdcjhmfbefdaaRow3
import Derived.Lib.SmallJoins
namespace Go.Proofs.Ytjgdcjhmfbefdaa
open Go.ChangeShapes Go.WideShapes Go.ChangeAt Go.RowKit Go.Deep
theorem open_IntsT {H : Type} {enc : TypeId × Value → H} {P : Program} {w : World} {t e : TypeId} {n : Nat} {u : Value} {y : DataW H × List MemPlace}
    (ht : P.underlying t = some (.slice e)) (he : P.underlying e = some (.int .i64)) (hC : P.cellsOf e = 1)
    (h : DataW.trod enc P w 0 (fun _ => true) true n t [u] = some y) (hz : ∀ b off, MemPlace.cell b off ∈ y.2 → w.frozen? ⟨b, off, none⟩ = false) :
    ∃ xs, Ints w (fun b => b < w.heap.size) u xs := by
  rcases open_ints ht he hC h with ⟨hcs, hx⟩ | ⟨a, len', cap', zs, hcs, _, hl, hm, hlen, hx, hcell, hwz⟩
  · simp at hcs
    subst hcs
    exact ⟨[], Ints.nil _ _ _ _ (by omega)⟩
  · simp at hcs
    subst hcs
    unfold Go.maxLen at hm
    simp at hlen
    have hzl : (zs.take len').length = len' := by simp; omega
    refine ⟨zs.take len', some a, cap', by rw [hzl], by rw [hzl]; exact hl, by omega, fun x hx => I64.of_wf (hwz x (List.mem_of_mem_take hx)), fun hp => ?_, by simp⟩
    rw [hzl] at hp
    obtain ⟨b, off, rfl, hc⟩ := ints_at hcell (by omega)
    have hb : b < w.heap.size := World.block_lt_of_cell? w _ (hc 0 (by omega))
    refine ⟨b, off, rfl, hb, hb, fun j hj => ?_⟩
    have hj' : j < len' := by rwa [hzl] at hj
    have hjz : j < zs.length := by omega
    refine ⟨by rw [hc j hjz]; simp [hjz], hz b (off + j) ?_⟩
    rw [hx]
    simp [MemPlace.row]
    exact hjz
end Go.Proofs.Ytjgdcjhmfbefdaa
