/- Rows under construction: slices of operations to which the call appends. No condition but room. -/
import Derived.Test.YtjgdcjhmfbefdaaOps
import Derived.Laws.AppendOwnNone
namespace Go.Proofs.Ytjgdcjhmfbefdaa
open Go.ChangeShapes Go.WideShapes Go.ChangeAt Go.RowKit

/-- a slice of operations of the call's own, from block base on -/
def OwnO (w : World) (base : Nat) (v : Value) (xs : List OpM) : Prop :=
  w.ownsRow base 135 8 v xs.length (xs.flatMap OpM.cells) ∧ ∀ x ∈ xs, x.ok
theorem OwnO.nil (w : World) (base : Nat) : OwnO w base (.slice none 0 0) [] := ⟨World.ownsRow_nil _ _ _ _, by simp⟩
theorem OwnO.made (w : World) (base : Nat) (hb : base ≤ w.heap.size) : OwnO (w.alloc (.cells #[] 135)) base (.slice (some ⟨w.heap.size, 0, none⟩) 0 0) [] :=
  ⟨World.ownsRow_made w _ 0 hb (by unfold Go.maxLen; omega) (by simp), by simp⟩
/-- a literal of some elements -/
theorem OwnO.lit {w : World} {base g : Nat} {arr : Array Value} {xs : List OpM} (hh : w.heap[g]? = some (.cells arr 135 (0, 0))) (ha : arr.toList = xs.flatMap OpM.cells) (hb : base ≤ g) (hl : xs.length ≤ 1000) (hok : ∀ x ∈ xs, x.ok) :
    OwnO w base (.slice (some ⟨g, 0, none⟩) xs.length xs.length) xs := by
  have hf := flat_length OpM.cells 8 OpM.cells_length xs
  refine ⟨⟨hf, .inr ⟨g, xs.length, arr, rfl, hb, hh, Nat.le_refl _, by unfold Go.maxLen; omega, ?_, ?_⟩⟩, hok⟩
  · rw [← hf, ← ha, Array.length_toList]
  · rw [← hf, ← ha, List.take_of_length_le (Nat.le_refl _)]
theorem OwnO.alloc {w : World} {base : Nat} {v : Value} {xs : List OpM} (h : OwnO w base v xs) (o : Obj) : OwnO (w.alloc o) base v xs := ⟨h.1.alloc o, h.2⟩
theorem OwnO.kept {w w' : World} {base : Nat} {v : Value} {xs : List OpM} {S : Nat → Prop} (h : OwnO w base v xs) (k : Chg S w w') (hS : ∀ g, v.ownBlock = some g → ¬ S g) : OwnO w' base v xs := by
  refine ⟨⟨h.1.1, ?_⟩, h.2⟩
  rcases h.1.2 with h2 | ⟨g, cap, cur, rfl, hg, hh, r⟩
  · exact Or.inl h2
  · exact Or.inr ⟨g, cap, cur, rfl, hg, (k.block g (Array.getElem?_eq_some_iff.1 hh).1 (hS g rfl)).trans hh, r⟩
theorem OwnO.up {w w' : World} {base : Nat} {v : Value} {xs : List OpM} (h : OwnO w base v xs) (k : Up w w') : OwnO w' base v xs := h.kept k fun _ _ h => h
theorem OwnO.ops {w : World} {base : Nat} {v : Value} {xs : List OpM} (h : OwnO w base v xs) : Ops w (New base w.heap.size) v xs := ⟨Raw.of_own h.1, h.2⟩
theorem OwnO.lt {w : World} {base : Nat} {v : Value} {xs : List OpM} (h : OwnO w base v xs) {g : Nat} (hg : v.ownBlock = some g) : base ≤ g ∧ g < w.heap.size := h.1.lt g hg

theorem infoOp : (Try.prog.info? 135).map (fun i => (i.zero, i.size, i.bytes)) = some (some (OpM.mk 0 0 0 0 0 0 0 0).val, 8, 64) := by kernel_rfl
theorem cells_one (x : OpM) : ∀ u ∈ x.cells, u.oneCell' = true := by
  intro u hu
  simp only [OpM.cells, List.mem_cons, List.not_mem_nil, or_false] at hu
  rcases hu with rfl | rfl | rfl | rfl | rfl | rfl | rfl | rfl <;> rfl

set_option maxRecDepth 100000 in
/-- 'out = append(out, list...)': the source reads as a list of operations -/
theorem wp_append_ops {w : World} {ops : Array Oper} {rest : List Oper} {o : Oper} {a : Act} {Q : Exit → Act → World → Prop} (hgd : o.guard = none) (s x : Operand)
    (ho : o.op = .call { callee := .builtin .append, args := #[s, x], argTypes := #[77, 77] })
    (base : Nat) (v : Value) (xs : List OpM) (hs : a.eval s = v) (hown : OwnO w base v xs)
    (S : Nat → Prop) (u : Value) (ys : List OpM) (hx : a.eval x = u) (hsrc : Ops w S u ys) (hlen : xs.length + ys.length ≤ 1099511627776) (hbase : base ≤ w.heap.size)
    (h : ∀ v' w', OwnO w' base v' (xs ++ ys) → w.grownBy w' v.ownBlock → Chg (fun k => base ≤ k) w w' → wpList Try.prog ops Q rest (a.put o.dst v') w') : wpList Try.prog ops Q (o :: rest) a w := by
  obtain ⟨i0, hi, hz0, hz1, hz2⟩ := info_parts infoOp
  obtain ⟨⟨hl, A, c, rfl, hlc, hcm, hr, hnn⟩, hok⟩ := hsrc
  have hok' : ∀ y ∈ xs ++ ys, y.ok := fun y hy => (List.mem_append.1 hy).elim (hown.2 y) (hok y)
  cases A with
  | none =>
    have hy : ys = [] := by
      rcases Nat.eq_zero_or_pos ys.length with h0 | h0
      · exact List.eq_nil_of_length_eq_zero h0
      · obtain ⟨b, oo, h1, _⟩ := hr h0
        cases h1
    subst hy
    obtain rfl := hnn rfl
    refine wpList_append_own_none hgd s x 77 ho base 135 i0 8 Try.underlying77 hi v xs.length _ hs hown.1 hx ?_
    exact h v w (by simpa using hown) (World.grownBy.refl w _) (Chg.refl _ _)
  | some ad =>
    have hnews : ∀ j q, (ys.flatMap OpM.cells)[j]? = some q → w.cell? (ad.add j) = some q := by
      intro j q hq
      obtain ⟨hj, he⟩ := List.getElem?_eq_some_iff.1 hq
      have hp : 0 < ys.length := by
        rcases Nat.eq_zero_or_pos ys.length with h0 | h0
        · rw [List.eq_nil_of_length_eq_zero h0] at hj; simp at hj
        · exact h0
      obtain ⟨b, oo, h1, _, _, hc⟩ := hr hp
      injection h1 with h1
      subst h1
      have := (hc j hj).1
      rw [he] at this
      rw [← this]
      unfold Addr.add
      by_cases h0 : j = 0 <;> simp [h0]
    refine wpList_append_own (P := Try.prog) w hgd s x 77 ho base 135 i0 _ 8 64 Try.underlying77 hi hz0 hz1 hz2 rfl (by decide) v xs.length _ hs hown.1 ad ys.length c (ys.flatMap OpM.cells) hx hl hnews ?_ ?_ ?_ hbase ?_
    · intro q hq
      obtain ⟨y, _, hy⟩ := List.mem_flatMap.1 hq
      exact cells_one y q hy
    · unfold Go.maxLen; omega
    · omega
    · intro v' w' h2 h3 _
      exact h v' w' ⟨by simpa using h2, hok'⟩ h3 ((Chg.refl _ _).grown h3 fun k hk => .inl (hown.1.lt k hk).1)
/-- 'out = append(out, x)' -/
theorem wp_append_op {w : World} {ops : Array Oper} {rest : List Oper} {o : Oper} {a : Act} {Q : Exit → Act → World → Prop} (hgd : o.guard = none) (s x : Operand)
    (ho : o.op = .call { callee := .builtin .append, args := #[s, x], argTypes := #[77, 77] })
    (base : Nat) (v : Value) (xs : List OpM) (hs : a.eval s = v) (hown : OwnO w base v xs)
    (g : Nat) (y : OpM) (hx : a.eval x = .slice (some ⟨g, 0, none⟩) 1 1) (hh : w.heap[g]? = some (.cells y.cells.toArray 135 (0, 0))) (hy : y.ok) (hlen : xs.length ≤ 1099511627775) (hbase : base ≤ w.heap.size)
    (h : ∀ v' w', OwnO w' base v' (xs ++ [y]) → w.grownBy w' v.ownBlock → Chg (fun k => base ≤ k) w w' → wpList Try.prog ops Q rest (a.put o.dst v') w') : wpList Try.prog ops Q (o :: rest) a w :=
  wp_append_ops hgd s x ho base v xs hs hown (fun _ => True) _ [y] hx ⟨Raw.of_block hh (by simp) trivial rfl (by simp) (by omega), by simpa using hy⟩ (by simp; omega) hbase h
end Go.Proofs.Ytjgdcjhmfbefdaa
