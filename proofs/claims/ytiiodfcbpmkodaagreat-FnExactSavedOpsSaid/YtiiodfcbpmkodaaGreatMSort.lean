/- slices.Sort at a row of numbers of one's own. Condition: room. -/
import Derived.Test.YtiiodfcbpmkodaaGreatShelfS
import Derived.Test.YtiiodfcbpmkodaaGreatOwnS
set_option linter.unusedSimpArgs false
set_option linter.unusedVariables false
namespace Go.Proofs.YtiiodfcbpmkodaaGreat
open Go.ChangeShapes Go.WideShapes Go.ChangeAt Go.RowKit Go.Sort
theorem Chg.mapBlock (w : World) (blk : Nat) (f : Array Value → Array Value) : Chg (fun b => b = blk) w (Go.Sort.mapBlock w blk f) :=
  ⟨rfl, rfl, rfl, by simp [Go.Sort.mapBlock], fun i _ hi => by
    unfold Go.Sort.mapBlock
    have : blk ≠ i := fun e => hi e.symm
    simp [Array.getElem?_modify, this]⟩
theorem Chg.ahead {S : Nat → Prop} {a w : World} (h : Chg S a w) (n : Nat) : Chg S a (Go.Sort.ahead w n) := ⟨h.os, h.tape, h.output, h.size, h.block⟩
def sortL (ys : List Int) : List Int := ys.mergeSort fun x y => decide (x ≤ y)
theorem sortL_length (ys : List Int) : (sortL ys).length = ys.length := by unfold sortL; simp
theorem sort_any (w : World) (base : Nat) (v : Value) (ys : List Int) (h : OwnI w base v ys) (hl : ys.length ≤ 1000000) :
    Calls Tryz.prog 83 #[v] w fun e w' => e = .returned (.tuple #[]) ∧ OwnI w' base v (sortL ys) ∧ Chg (fun b => v.ownBlock = some b) w w' := by
  rcases h.1.2 with ⟨rfl, h0⟩ | ⟨g, cap, cur, rfl, hg, hh, h3, h4, h5, h6⟩
  · obtain rfl := List.eq_nil_of_length_eq_zero h0
    refine (Tryz.slices_Sort_int_none none 0 w).mono ?_
    rintro e w' ⟨rfl, rfl⟩
    exact ⟨rfl, by simpa [sortL] using h, Chg.refl _ _⟩
  · have hgw : g < w.heap.size := (Array.getElem?_eq_some_iff.1 hh).1
    have e1 : ∀ (zs : List Int) j, (hj : j < zs.length) → zs.toArray[j]! = zs[j] := fun zs j hj => by rw [getElem!_pos zs.toArray j (by simpa using hj)]; simp
    have hH : Holds (Value.int .i64) w g 0 ys.toArray := fun j hj => by
      have hj' : j < ys.length := by simpa using hj
      have hc := World.ownsRow.cells (g := g) h.1 rfl j (.int .i64 ys[j]) (by simp [hj'])
      rw [add_zero] at hc
      rw [e1 _ _ hj', Nat.zero_add]
      exact ⟨hc, by simp [World.frozen?, hh]⟩
    refine (Tryz.slices_Sort_int g 0 cap ys w hH hgw (by omega)).mono ?_
    rintro e w' ⟨rfl, q, os, rfl⟩
    refine ⟨rfl, ?_, ?_⟩
    · refine ⟨⟨by simp [sortL], .inr ⟨g, cap, putCells (Value.int .i64) 0 (sortL ys).toArray cur, by rw [sortL_length], hg, ?_, by rw [← sortL_length ys] at h3; simpa [sortL] using h3, h4, ?_, ?_⟩⟩, fun x hx => h.2 x (by simpa [sortL] using hx)⟩
      · unfold Go.Sort.grow Go.Sort.putRow Go.Sort.mapBlock Go.Sort.ahead
        simp only [Array.getElem?_append, Array.size_modify, hgw, if_true, Array.getElem?_modify, hh, Option.map_some]
        rfl
      · simpa [putCells] using h5
      · apply List.ext_getElem?
        intro k
        rw [List.getElem?_take]
        have hlk : ((sortL ys).map (Value.int .i64)).length = ys.length := by simp [sortL]
        have hcs : ys.length ≤ cur.size := by simp at h5; omega
        by_cases hk : k < ys.length
        · have hk2 : k < (sortL ys).length := by rw [sortL_length]; exact hk
          rw [if_pos (by simpa [sortL] using hk)]
          simp only [putCells, Array.getElem?_toList, Array.getElem?_mapIdx]
          rw [Array.getElem?_eq_getElem (by omega), Option.map_some, if_pos ⟨by omega, by simpa [sortL] using hk⟩, Nat.sub_zero, e1 _ _ hk2, List.getElem?_map, List.getElem?_eq_getElem hk2]
          rfl
        · rw [if_neg (by simpa [sortL] using hk), List.getElem?_eq_none (by omega)]
    · have h1 : Chg (fun b => (Value.slice (some ⟨g, 0, none⟩) ys.length cap).ownBlock = some b) w (Go.Sort.putRow (Value.int .i64) (Go.Sort.ahead w q) g 0 (sortL ys).toArray) :=
        Chg.trans ((Chg.refl _ w).ahead q) ((Chg.mapBlock _ g _).mono fun b _ hb => by subst hb; rfl)
      refine Chg.trans h1 ⟨rfl, rfl, rfl, by simp [Go.Sort.grow], fun i hi _ => ?_⟩
      unfold Go.Sort.grow
      simp only [Array.getElem?_append]
      exact if_pos hi
end Go.Proofs.YtiiodfcbpmkodaaGreat
