/- Rows under construction: slices of int64 to which the call appends. No condition. -/
import Derived.Test.YtjgdcjhmfbefdaaInts
namespace Go.Proofs.Ytjgdcjhmfbefdaa
open Go.ChangeShapes Go.WideShapes Go.ChangeAt Go.RowKit

/-- a slice of int64 of the call's own, from block base on -/
def OwnI (w : World) (base : Nat) (v : Value) (xs : List Int) : Prop :=
  w.ownsRow base 2 1 v xs.length (xs.map (Value.int .i64)) ∧ ∀ x ∈ xs, I64 x
theorem OwnI.nil (w : World) (base : Nat) : OwnI w base (.slice none 0 0) [] := ⟨World.ownsRow_nil _ _ _ _, by simp⟩
theorem OwnI.made (w : World) (base : Nat) (hb : base ≤ w.heap.size) : OwnI (w.alloc (.cells #[] 2)) base (.slice (some ⟨w.heap.size, 0, none⟩) 0 0) [] :=
  ⟨World.ownsRow_made w _ 0 hb (by unfold Go.maxLen; omega) (by simp), by simp⟩
theorem OwnI.alloc {w : World} {base : Nat} {v : Value} {xs : List Int} (h : OwnI w base v xs) (o : Obj) : OwnI (w.alloc o) base v xs := ⟨h.1.alloc o, h.2⟩
theorem OwnI.kept {w w' : World} {base : Nat} {v : Value} {xs : List Int} {S : Nat → Prop} (h : OwnI w base v xs) (k : Chg S w w') (hS : ∀ g, v.ownBlock = some g → ¬ S g) : OwnI w' base v xs := by
  refine ⟨⟨h.1.1, ?_⟩, h.2⟩
  rcases h.1.2 with h2 | ⟨g, cap, cur, rfl, hg, hh, r⟩
  · exact Or.inl h2
  · exact Or.inr ⟨g, cap, cur, rfl, hg, (k.block g (Array.getElem?_eq_some_iff.1 hh).1 (hS g rfl)).trans hh, r⟩
theorem OwnI.up {w w' : World} {base : Nat} {v : Value} {xs : List Int} (h : OwnI w base v xs) (k : Up w w') : OwnI w' base v xs := h.kept k fun _ _ h => h
theorem OwnI.ints {w : World} {base : Nat} {v : Value} {xs : List Int} (h : OwnI w base v xs) : Ints w (New base w.heap.size) v xs := Ints.of_own h.1 h.2

/-- 'out = append(out, x)' -/
theorem wp_append_int {w : World} {ops : Array Oper} {rest : List Oper} {o : Oper} {a : Act} {Q : Exit → Act → World → Prop} (hgd : o.guard = none) (s x : Operand)
    (ho : o.op = .call { callee := .builtin .append, args := #[s, x], argTypes := #[37, 37] })
    (base : Nat) (v : Value) (xs : List Int) (hs : a.eval s = v) (hown : OwnI w base v xs)
    (g : Nat) (n : Int) (hx : a.eval x = .slice (some ⟨g, 0, none⟩) 1 1) (hc : w.cell? ⟨g, 0, none⟩ = some (.int .i64 n)) (hn : I64 n) (hlen : xs.length ≤ 1099511627776) (hbase : base ≤ w.heap.size)
    (h : ∀ v' w', OwnI w' base v' (xs ++ [n]) → w.grownBy w' v.ownBlock → Chg (fun k => base ≤ k) w w' → wpList Try.prog ops Q rest (a.put o.dst v') w') : wpList Try.prog ops Q (o :: rest) a w := by
  obtain ⟨i0, hi, hz0, hz1, hz2⟩ := info_parts info2
  refine wpList_append_own (P := Try.prog) w hgd s x 37 ho base 2 i0 (.int .i64 0) 1 8 Try.underlying37 hi hz0 hz1 hz2 rfl (by decide) v xs.length _ hs hown.1 ⟨g, 0, none⟩ 1 1 [.int .i64 n] hx rfl ?_ ?_ ?_ ?_ hbase ?_
  · intro j u hu
    cases j with
    | zero => simp only [List.getElem?_cons_zero, Option.some.injEq] at hu; subst hu; rw [add_zero]; exact hc
    | succ j => simp at hu
  · intro u hu; simp at hu; subst hu; rfl
  · unfold Go.maxLen; omega
  · omega
  · intro v' w' h2 h3 _
    refine h v' w' ⟨by simpa using h2, fun y hy => ?_⟩ h3 ((Chg.refl _ _).grown h3 fun k hk => .inl (hown.1.lt k hk).1)
    rcases List.mem_append.1 hy with h4 | h4
    · exact hown.2 y h4
    · simp at h4; subst h4; exact hn
end Go.Proofs.Ytjgdcjhmfbefdaa
