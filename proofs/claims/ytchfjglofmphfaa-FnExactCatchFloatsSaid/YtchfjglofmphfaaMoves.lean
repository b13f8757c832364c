/- Moves as data: slices of them; the laws' own helpers on them: equal, marked, held. No condition but room for the numbers. -/
import Derived.Test.YtchfjglofmphfaaPD2
import Derived.StillTailTactics
import Derived.Laws.AppendOwnNone
namespace Go.Proofs.Ytchfjglofmphfaa
open Go.ChangeShapes Go.WideShapes Go.ChangeAt Go.RowKit
structure MoveM where
  fr : Int
  to : Int
def MoveM.cells (x : MoveM) : List Value := [.int .i64 x.fr, .int .i64 x.to]
def MoveM.ok (x : MoveM) : Prop := I64 x.fr ∧ I64 x.to
theorem MoveM.cells_length (x : MoveM) : x.cells.length = 2 := rfl
abbrev MoveM.val (x : MoveM) : Value := .agg #[.int .i64 x.fr, .int .i64 x.to]
/-- a slice that reads as the list xs -/
def Moves (w : World) (S : Nat → Prop) (v : Value) (xs : List MoveM) : Prop := Raw w S 2 v xs.length (xs.flatMap MoveM.cells) ∧ ∀ x ∈ xs, x.ok
section
variable {S T : Nat → Prop} {w w' : World} {v : Value} {xs : List MoveM}
theorem Moves.keep (h : Moves w S v xs) (g : Chg T w w') (hd : ∀ b, b < w.heap.size → S b → ¬ T b) : Moves w' S v xs := ⟨h.1.keep g hd, h.2⟩
theorem Moves.up (h : Moves w S v xs) (g : Up w w') : Moves w' S v xs := ⟨h.1.up g, h.2⟩
theorem Moves.alloc' (h : Moves w S v xs) (o : Obj) : Moves (w.alloc o) S v xs := h.up ((Chg.refl _ _).alloc o)
theorem Moves.mono (h : Moves w S v xs) (hs : ∀ b, b < w.heap.size → S b → T b) : Moves w T v xs := ⟨h.1.mono hs, h.2⟩
theorem Moves.shape (h : Moves w S v xs) : ∃ A c, v = .slice A xs.length c ∧ xs.length ≤ c ∧ c ≤ 9223372036854775807 ∧ (A = none → c = 0) := h.1.shape
theorem Moves.nil (w : World) (S : Nat → Prop) (c : Nat) (A : Option Addr) (hc : c ≤ 9223372036854775807) (hA : A = none → c = 0 := by simp) : Moves w S (.slice A 0 c) [] := ⟨Raw.nil w S 2 c A hc hA, by simp⟩
theorem Moves.at_ (h : Moves w S v xs) {i : Nat} (hi : i < xs.length) : ∃ b o c, v = .slice (some ⟨b, o, none⟩) xs.length c ∧ S b ∧ b < w.heap.size ∧
    ∀ j u, (xs[i].cells)[j]? = some u → w.cell? ⟨b, o + i * 2 + j, none⟩ = some u ∧ w.frozen? ⟨b, o + i * 2 + j, none⟩ = false := Raw.at_ MoveM.cells_length h.1 hi
end
def MMoves (w : World) (S : Nat → Prop) (v : Value) (xs : List MoveM) (k : Int) : Prop := Raw w S 2 v xs.length (markCells k (xs.length * 2))
theorem MMoves.keep {S T : Nat → Prop} {w w' : World} {v : Value} {xs : List MoveM} {k : Int} (h : MMoves w S v xs k) (g : Chg T w w') (hd : ∀ b, b < w.heap.size → S b → ¬ T b) : MMoves w' S v xs k := Raw.keep h g hd
theorem MMoves.up {S : Nat → Prop} {w w' : World} {v : Value} {xs : List MoveM} {k : Int} (h : MMoves w S v xs k) (g : Up w w') : MMoves w' S v xs k := Raw.up h g
def cntMoves (xs : List MoveM) : Nat := xs.length * 2
/-- a slice of the call's own, from block base on -/
def OwnMoves (w : World) (base : Nat) (v : Value) (xs : List MoveM) : Prop :=
  w.ownsRow base 75 2 v xs.length (xs.flatMap MoveM.cells) ∧ ∀ x ∈ xs, x.ok
theorem OwnMoves.nil (w : World) (base : Nat) : OwnMoves w base (.slice none 0 0) [] := ⟨World.ownsRow_nil _ _ _ _, by simp⟩
theorem OwnMoves.made (w : World) (base : Nat) (hb : base ≤ w.heap.size) : OwnMoves (w.alloc (.cells #[] 75)) base (.slice (some ⟨w.heap.size, 0, none⟩) 0 0) [] :=
  ⟨World.ownsRow_made w _ 0 hb (by unfold Go.maxLen; omega) (by simp), by simp⟩
theorem OwnMoves.alloc {w : World} {base : Nat} {v : Value} {xs : List MoveM} (h : OwnMoves w base v xs) (o : Obj) : OwnMoves (w.alloc o) base v xs := ⟨h.1.alloc o, h.2⟩
theorem OwnMoves.kept {w w' : World} {base : Nat} {v : Value} {xs : List MoveM} {S : Nat → Prop} (h : OwnMoves w base v xs) (k : Chg S w w') (hS : ∀ g, v.ownBlock = some g → ¬ S g) : OwnMoves w' base v xs := by
  refine ⟨⟨h.1.1, ?_⟩, h.2⟩
  rcases h.1.2 with h2 | ⟨g, cap, cur, rfl, hg, hh, r⟩
  · exact Or.inl h2
  · exact Or.inr ⟨g, cap, cur, rfl, hg, (k.block g (Array.getElem?_eq_some_iff.1 hh).1 (hS g rfl)).trans hh, r⟩
theorem OwnMoves.up {w w' : World} {base : Nat} {v : Value} {xs : List MoveM} (h : OwnMoves w base v xs) (k : Up w w') : OwnMoves w' base v xs := h.kept k fun _ _ h => h
theorem OwnMoves.rd {w : World} {base : Nat} {v : Value} {xs : List MoveM} (h : OwnMoves w base v xs) : Moves w (New base w.heap.size) v xs := ⟨Raw.of_own h.1, h.2⟩
theorem OwnMoves.lt {w : World} {base : Nat} {v : Value} {xs : List MoveM} (h : OwnMoves w base v xs) {g : Nat} (hg : v.ownBlock = some g) : base ≤ g ∧ g < w.heap.size := h.1.lt g hg
theorem infoMoves : (Try.prog.info? 75).map (fun i => (i.zero, i.size, i.bytes)) = some (some (MoveM.mk 0 0).val, 2, 16) := by kernel_rfl
theorem cells_oneMoves (x : MoveM) : ∀ u ∈ x.cells, u.oneCell' = true := by
  intro u hu
  simp only [MoveM.cells, List.mem_cons, List.not_mem_nil, or_false] at hu
  rcases hu with rfl | rfl <;> rfl
set_option maxRecDepth 100000 in
theorem wp_appendMoves {w : World} {ops : Array Oper} {rest : List Oper} {o : Oper} {a : Act} {Q : Exit → Act → World → Prop} (hgd : o.guard = none) (s x : Operand)
    (ho : o.op = .call { callee := .builtin .append, args := #[s, x], argTypes := #[64, 64] })
    (base : Nat) (v : Value) (xs : List MoveM) (hs : a.eval s = v) (hown : OwnMoves w base v xs)
    (S : Nat → Prop) (u : Value) (ys : List MoveM) (hx : a.eval x = u) (hsrc : Moves w S u ys) (hlen : xs.length + ys.length ≤ 1099511627776) (hbase : base ≤ w.heap.size)
    (h : ∀ v' w', OwnMoves w' base v' (xs ++ ys) → w.grownBy w' v.ownBlock → Chg (fun k => base ≤ k) w w' → wpList Try.prog ops Q rest (a.put o.dst v') w') : wpList Try.prog ops Q (o :: rest) a w := by
  obtain ⟨i0, hi, hz0, hz1, hz2⟩ := info_parts infoMoves
  obtain ⟨⟨hl, A, c, rfl, hlc, hcm, hr, hnn⟩, hok⟩ := hsrc
  have hok' : ∀ y ∈ xs ++ ys, y.ok := fun y hy => (List.mem_append.1 hy).elim (hown.2 y) (hok y)
  cases A with
  | none =>
    have hy : ys = [] := by
      rcases Nat.eq_zero_or_pos ys.length with h0 | h0
      · exact List.eq_nil_of_length_eq_zero h0
      · obtain ⟨b, oo, h1, _⟩ := hr h0
        cases h1
    subst hy
    obtain rfl := hnn rfl
    refine wpList_append_own_none hgd s x 64 ho base 75 i0 2 Try.underlying64 hi v xs.length _ hs hown.1 hx ?_
    exact h v w (by simpa using hown) (World.grownBy.refl w _) (Chg.refl _ _)
  | some ad =>
    have hnews : ∀ j q, (ys.flatMap MoveM.cells)[j]? = some q → w.cell? (ad.add j) = some q := by
      intro j q hq
      obtain ⟨hj, he⟩ := List.getElem?_eq_some_iff.1 hq
      have hp : 0 < ys.length := by
        rcases Nat.eq_zero_or_pos ys.length with h0 | h0
        · rw [List.eq_nil_of_length_eq_zero h0] at hj; simp at hj
        · exact h0
      obtain ⟨b, oo, h1, _, _, hc⟩ := hr hp
      injection h1 with h1
      subst h1
      have := (hc j hj).1
      rw [he] at this
      rw [← this]
      unfold Addr.add
      by_cases h0 : j = 0 <;> simp [h0]
    refine wpList_append_own (P := Try.prog) w hgd s x 64 ho base 75 i0 _ 2 16 Try.underlying64 hi hz0 hz1 hz2 rfl (by decide) v xs.length _ hs hown.1 ad ys.length c (ys.flatMap MoveM.cells) hx hl hnews ?_ ?_ ?_ hbase ?_
    · intro q hq
      obtain ⟨y, _, hy⟩ := List.mem_flatMap.1 hq
      exact cells_oneMoves y q hy
    · unfold Go.maxLen; omega
    · omega
    · intro v' w' h2 h3 _
      exact h v' w' ⟨by simpa using h2, hok'⟩ h3 ((Chg.refl _ _).grown h3 fun k hk => .inl (hown.1.lt k hk).1)
set_option maxRecDepth 100000 in
/-- the same at a step of a region that draws its order -/
theorem step_appendMoves {w : World} {ops : Array Oper} {o : Oper} {a : Act} {K : Act → World → Prop} {Q : Exit → Act → World → Prop} {E : Prop} (hgd : o.guard = none) (s x : Operand)
    (ho : o.op = .call { callee := .builtin .append, args := #[s, x], argTypes := #[64, 64] })
    (base : Nat) (v : Value) (xs : List MoveM) (hs : a.eval s = v) (hown : OwnMoves w base v xs)
    (S : Nat → Prop) (u : Value) (ys : List MoveM) (hx : a.eval x = u) (hsrc : Moves w S u ys) (hlen : xs.length + ys.length ≤ 1099511627776) (hbase : base ≤ w.heap.size)
    (h : ∀ v' w', OwnMoves w' base v' (xs ++ ys) → w.grownBy w' v.ownBlock → Chg (fun k => base ≤ k) w w' → K (a.put o.dst v') w') :
    if Region.wanted o (yielded ops a.tmps) = true then Oper.wp Try.prog o a w K Q else E := by
  have hw : Region.wanted o (yielded ops a.tmps) = true := by simp [Region.wanted, hgd]
  rw [if_pos hw]
  obtain ⟨i0, hi, hz0, hz1, hz2⟩ := info_parts infoMoves
  obtain ⟨⟨hl, A, c, rfl, hlc, hcm, hr, hnn⟩, hok⟩ := hsrc
  have hok' : ∀ y ∈ xs ++ ys, y.ok := fun y hy => (List.mem_append.1 hy).elim (hown.2 y) (hok y)
  cases A with
  | none =>
    have hy : ys = [] := by
      rcases Nat.eq_zero_or_pos ys.length with h0 | h0
      · exact List.eq_nil_of_length_eq_zero h0
      · obtain ⟨b, oo, h1, _⟩ := hr h0
        cases h1
    subst hy
    obtain rfl := hnn rfl
    have hrun := run_append_owned_none (P := Try.prog) (w := w) base 64 o.type 75 i0 2 Try.underlying64 hi v xs.length _ hown.1
    have hK := h v w (by simpa using hown) (World.grownBy.refl w _) (Chg.refl _ _)
    unfold Oper.wp
    simp [execOp, ho, resolve, invoke, builtin, hs, hx, hrun, Result.andThen]
    exact hK
  | some ad =>
    have hnews : ∀ j q, (ys.flatMap MoveM.cells)[j]? = some q → w.cell? (ad.add j) = some q := by
      intro j q hq
      obtain ⟨hj, he⟩ := List.getElem?_eq_some_iff.1 hq
      have hp : 0 < ys.length := by
        rcases Nat.eq_zero_or_pos ys.length with h0 | h0
        · rw [List.eq_nil_of_length_eq_zero h0] at hj; simp at hj
        · exact h0
      obtain ⟨b, oo, h1, _, _, hc⟩ := hr hp
      injection h1 with h1
      subst h1
      have := (hc j hj).1
      rw [he] at this
      rw [← this]
      unfold Addr.add
      by_cases h0 : j = 0 <;> simp [h0]
    refine wp_append_own (P := Try.prog) w s x 64 ho base 75 i0 _ 2 16 Try.underlying64 hi hz0 hz1 hz2 rfl (by decide) v xs.length _ hs hown.1 ad ys.length c (ys.flatMap MoveM.cells) hx hl hnews ?_ ?_ ?_ hbase ?_
    · intro q hq
      obtain ⟨y, _, hy⟩ := List.mem_flatMap.1 hq
      exact cells_oneMoves y q hy
    · unfold Go.maxLen; omega
    · omega
    · intro v' w' h2 h3 _
      exact h v' w' ⟨by simpa using h2, hok'⟩ h3 ((Chg.refl _ _).grown h3 fun k hk => .inl (hown.1.lt k hk).1)
theorem wp_append1Moves {w : World} {ops : Array Oper} {rest : List Oper} {o : Oper} {a : Act} {Q : Exit → Act → World → Prop} (hgd : o.guard = none) (s x : Operand)
    (ho : o.op = .call { callee := .builtin .append, args := #[s, x], argTypes := #[64, 64] })
    (base : Nat) (v : Value) (xs : List MoveM) (hs : a.eval s = v) (hown : OwnMoves w base v xs)
    (g : Nat) (y : MoveM) (hx : a.eval x = .slice (some ⟨g, 0, none⟩) 1 1) (hh : w.heap[g]? = some (.cells y.cells.toArray 75 (0, 0))) (hy : y.ok) (hlen : xs.length ≤ 1099511627775) (hbase : base ≤ w.heap.size)
    (h : ∀ v' w', OwnMoves w' base v' (xs ++ [y]) → w.grownBy w' v.ownBlock → Chg (fun k => base ≤ k) w w' → wpList Try.prog ops Q rest (a.put o.dst v') w') : wpList Try.prog ops Q (o :: rest) a w :=
  wp_appendMoves hgd s x ho base v xs hs hown (fun _ => True) _ [y] hx ⟨Raw.of_block hh (by simp) trivial rfl (by simp) (by omega), by simpa using hy⟩ (by simp; omega) hbase h
end Go.Proofs.Ytchfjglofmphfaa
