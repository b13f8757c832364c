/- Rows under construction: slices of operations to which the call appends. No condition but room. -/
import Derived.Test.YtnjfhpgmogopnaaOps
import Derived.Laws.AppendOwnNone
namespace Go.Proofs.Ytnjfhpgmogopnaa
open Go.ChangeShapes Go.WideShapes Go.ChangeAt Go.RowKit

/-- a slice of operations of the call's own, from block base on -/
def OwnO (w : World) (base : Nat) (v : Value) (xs : List OpM) : Prop :=
  w.ownsRow base 141 8 v xs.length (xs.flatMap OpM.cells) ∧ ∀ x ∈ xs, x.ok
theorem OwnO.nil (w : World) (base : Nat) : OwnO w base (.slice none 0 0) [] := ⟨World.ownsRow_nil _ _ _ _, by simp⟩
theorem OwnO.made (w : World) (base : Nat) (hb : base ≤ w.heap.size) : OwnO (w.alloc (.cells #[] 141)) base (.slice (some ⟨w.heap.size, 0, none⟩) 0 0) [] :=
  ⟨World.ownsRow_made w _ 0 hb (by unfold Go.maxLen; omega) (by simp), by simp⟩
/-- a literal of some elements -/
theorem OwnO.lit {w : World} {base g : Nat} {arr : Array Value} {xs : List OpM} (hh : w.heap[g]? = some (.cells arr 141 (0, 0))) (ha : arr.toList = xs.flatMap OpM.cells) (hb : base ≤ g) (hl : xs.length ≤ 1000) (hok : ∀ x ∈ xs, x.ok) :
    OwnO w base (.slice (some ⟨g, 0, none⟩) xs.length xs.length) xs := by
  have hf := flat_length OpM.cells 8 OpM.cells_length xs
  refine ⟨⟨hf, .inr ⟨g, xs.length, arr, rfl, hb, hh, Nat.le_refl _, by unfold Go.maxLen; omega, ?_, ?_⟩⟩, hok⟩
  · rw [← hf, ← ha, Array.length_toList]
  · rw [← hf, ← ha, List.take_of_length_le (Nat.le_refl _)]
theorem OwnO.alloc {w : World} {base : Nat} {v : Value} {xs : List OpM} (h : OwnO w base v xs) (o : Obj) : OwnO (w.alloc o) base v xs := ⟨h.1.alloc o, h.2⟩
theorem OwnO.kept {w w' : World} {base : Nat} {v : Value} {xs : List OpM} {S : Nat → Prop} (h : OwnO w base v xs) (k : Chg S w w') (hS : ∀ g, v.ownBlock = some g → ¬ S g) : OwnO w' base v xs := by
  refine ⟨⟨h.1.1, ?_⟩, h.2⟩
  rcases h.1.2 with h2 | ⟨g, cap, cur, rfl, hg, hh, r⟩
  · exact Or.inl h2
  · exact Or.inr ⟨g, cap, cur, rfl, hg, (k.block g (Array.getElem?_eq_some_iff.1 hh).1 (hS g rfl)).trans hh, r⟩
theorem OwnO.up {w w' : World} {base : Nat} {v : Value} {xs : List OpM} (h : OwnO w base v xs) (k : Up w w') : OwnO w' base v xs := h.kept k fun _ _ h => h
theorem OwnO.ops {w : World} {base : Nat} {v : Value} {xs : List OpM} (h : OwnO w base v xs) : Ops w (New base w.heap.size) v xs := ⟨Raw.of_own h.1, h.2⟩
theorem OwnO.lt {w : World} {base : Nat} {v : Value} {xs : List OpM} (h : OwnO w base v xs) {g : Nat} (hg : v.ownBlock = some g) : base ≤ g ∧ g < w.heap.size := h.1.lt g hg

theorem infoOp : (Try.prog.info? 141).map (fun i => (i.zero, i.size, i.bytes)) = some (some (OpM.mk 0 0 0 0 0 0 0 0).val, 8, 64) := by kernel_rfl
theorem cells_one (x : OpM) : ∀ u ∈ x.cells, u.oneCell' = true := by
  intro u hu
  simp only [OpM.cells, List.mem_cons, List.not_mem_nil, or_false] at hu
  rcases hu with rfl | rfl | rfl | rfl | rfl | rfl | rfl | rfl <;> rfl

end Go.Proofs.Ytnjfhpgmogopnaa
