/- How columns are moved: the reference's and the program's plans. No condition. Kinds of stitches and lists of them: the program's and the reference's tests and sums. No condition. Functions of the library on slices of numbers with a test; the program's test of a list of stitches; sums over lists. No condition. Rows by value and behind a pointer: their tests and their codes. No condition. Rows under construction, with the blocks in which they come to lie; slices of slices of numbers. No condition but room. The columns that the stitches of a row take and make. No condition but room. The program's PlanMoves answers as the reference's, for all lists; its memory is its own. No condition. The program's columns that stitches take and make; RowSources and RowResults on both sides. No condition but room. The laws' own helpers on rows and on slices of slices of numbers. No condition but room. Slices whose elements take m cells each and bear a reading of their own: nested slices, slices of structs with slices. No condition. The laws' helpers on nested slices. No condition. Lists of numbers in a list under construction: each in blocks of the call's own. No condition. The laws' helpers on nested slices. No condition. Events as data: slices of them; the laws' own helpers on them: equal, marked, held. No condition but room for the numbers. The laws' own copies of slices of events, and their sizes. No condition but room. The laws' helpers on nested slices. No condition. The laws' helpers on nested slices. No condition. Plain words for the comparison of proofs: lists that agree up to a place. No condition. Plain words for permutations, their descents and inverses, and for normal forms. No condition. -/
import Derived.Test.YtplabnjdhkmmkaaSteps
import Derived.Deep.RegionHeld3
import Derived.Test.YtplabnjdhkmmkaaPF4
import Derived.Test.YtplabnjdhkmmkaaPF2
import Derived.StillTailTactics
import Derived.Laws.AppendOwnNone
section
set_option linter.unusedSimpArgs false
set_option linter.unusedVariables false
namespace Go.Proofs.Ytplabnjdhkmmkaa
open Go.ChangeShapes Go.WideShapes Go.ChangeAt Go.RowKit
def ix (xs : List Int) (i : Nat) : Int := xs.getD i 0
theorem ix_eq {xs : List Int} {i : Nat} (h : i < xs.length) : ix xs i = xs[i] := by unfold ix; simp [h]
theorem Ints.ix {w : World} {S : Nat → Prop} {A : Option Addr} {c : Nat} {xs : List Int} (h : Ints w S (.slice A xs.length c) xs) {i : Nat} (hi : i < xs.length) :
    ∃ b o, A = some ⟨b, o, none⟩ ∧ b < w.heap.size ∧ ∀ j, j < xs.length → w.cell? ⟨b, o + j, none⟩ = some (.int .i64 (ix xs j)) := by
  obtain ⟨A', c', he, _, _, _, hr, _⟩ := h
  obtain ⟨rfl, rfl⟩ : A = A' ∧ c = c' := by simpa using he
  obtain ⟨b, o, hA, _, hbl, hc⟩ := hr (by omega)
  exact ⟨b, o, hA, hbl, fun j hj => by rw [ix_eq hj]; exact (hc j hj).1⟩
/-- no two columns are put together of which the second does not come from the right -/
def groupsTo (xs ys : List Int) (j : Nat) : Prop := ∀ i, i < j → 0 < i → i < ys.length → ¬ (ix ys i = ix ys (i - 1) ∧ ix xs i ≤ ix ys i)
instance (xs ys : List Int) (j : Nat) : Decidable (groupsTo xs ys j) := inferInstanceAs (Decidable (∀ i, i < j → _))
end Go.Proofs.Ytplabnjdhkmmkaa
end
section
set_option linter.unusedSimpArgs false
set_option linter.unusedVariables false
namespace Go.Proofs.Ytplabnjdhkmmkaa
open Go.ChangeShapes Go.WideShapes Go.ChangeAt Go.RowKit
end Go.Proofs.Ytplabnjdhkmmkaa
end
section
set_option linter.unusedSimpArgs false
set_option linter.unusedVariables false
namespace Go.Proofs.Ytplabnjdhkmmkaa
open Go.ChangeShapes Go.WideShapes Go.ChangeAt Go.RowKit
end Go.Proofs.Ytplabnjdhkmmkaa
end
section
set_option linter.unusedSimpArgs false
set_option linter.unusedVariables false
namespace Go.Proofs.Ytplabnjdhkmmkaa
open Go.ChangeShapes Go.WideShapes Go.ChangeAt Go.RowKit
structure RowM where
  d : Int
  c : Int
  xs : List Int
/-- a row by value -/
def RowV (w : World) (S : Nat → Prop) (v : Value) (r : RowM) : Prop := ∃ s, v = .agg #[.int .i64 r.d, .int .i64 r.c, s] ∧ Ints w S s r.xs ∧ I64 r.d ∧ I64 r.c
theorem RowV.keep {S T : Nat → Prop} {w w' : World} {v : Value} {r : RowM} (h : RowV w S v r) (g : Chg T w w') (hd : ∀ b, b < w.heap.size → S b → ¬ T b) : RowV w' S v r :=
  let ⟨s, h1, h2, h3⟩ := h; ⟨s, h1, h2.keep g hd, h3⟩
theorem RowV.up {S : Nat → Prop} {w w' : World} {v : Value} {r : RowM} (h : RowV w S v r) (g : Up w w') : RowV w' S v r := h.keep g fun _ _ _ h => h
theorem RowV.shape {w : World} {S : Nat → Prop} {v : Value} {r : RowM} (h : RowV w S v r) : ∃ A c, v = .agg #[.int .i64 r.d, .int .i64 r.c, .slice A r.xs.length c] ∧ Ints w S (.slice A r.xs.length c) r.xs ∧ r.xs.length ≤ c ∧ c ≤ 9223372036854775807 ∧ (I64 r.d ∧ I64 r.c) ∧ (A = none → c = 0) := by
  obtain ⟨s, h1, h2, h3, h4⟩ := h
  obtain ⟨A, c, rfl, h5, h6, h7⟩ := h2.shape
  exact ⟨A, c, h1, h2, h5, h6, ⟨h3, h4⟩, h7⟩
/-- a row behind a pointer -/
def RowAt (w : World) (S : Nat → Prop) (b o : Nat) (r : RowM) : Prop :=
  ∃ A c, w.cell? ⟨b, o, none⟩ = some (.int .i64 r.d) ∧ w.cell? ⟨b, o + 1, none⟩ = some (.int .i64 r.c) ∧ w.cell? ⟨b, o + 2, none⟩ = some (.slice A r.xs.length c) ∧ Ints w S (.slice A r.xs.length c) r.xs ∧ r.xs.length ≤ c ∧ c ≤ 9223372036854775807 ∧ (I64 r.d ∧ I64 r.c) ∧ b < w.heap.size
theorem RowAt.keep {S T : Nat → Prop} {w w' : World} {b o : Nat} {r : RowM} (h : RowAt w S b o r) (g : Chg T w w') (hd : ∀ b, b < w.heap.size → S b → ¬ T b) (hb : ¬ T b) : RowAt w' S b o r := by
  obtain ⟨A, c, h1, h2, h3, h4, h5, h6, h7, h8⟩ := h
  exact ⟨A, c, g.cell h1 hb, g.cell h2 hb, g.cell h3 hb, h4.keep g hd, h5, h6, h7, Nat.lt_of_lt_of_le h8 g.size⟩
theorem RowAt.up {S : Nat → Prop} {w w' : World} {b o : Nat} {r : RowM} (h : RowAt w S b o r) (g : Up w w') : RowAt w' S b o r := h.keep g (fun _ _ _ h => h) id
theorem RowAt.box {w : World} {S : Nat → Prop} {v : Value} {r : RowM} (h : RowV w S v r) (t : TypeId) : ∃ cs, v = .agg cs ∧ RowAt (w.alloc (.cells cs t)) S w.heap.size 0 r := by
  obtain ⟨A, c, rfl, h2, h3, h4, h5, _⟩ := h.shape
  exact ⟨_, rfl, A, c, cell_new _ _ _ _, cell_new _ _ _ _, cell_new _ _ _ _, h2.up ((Chg.refl _ _).alloc _), h3, h4, h5, by simp⟩
end Go.Proofs.Ytplabnjdhkmmkaa
end
section
set_option linter.unusedSimpArgs false
set_option linter.unusedVariables false
namespace Go.Proofs.Ytplabnjdhkmmkaa
open Go.ChangeShapes Go.WideShapes Go.ChangeAt Go.RowKit
section
variable {P : Program} {w : World}
/-- behind an append the row lies in its own block, or in a new one -/
theorem append_block (base : Nat) (t ty e : TypeId) (i : TypeInfo) (z : Value) (size bytes : Nat) (ht : P.underlying t = some (.slice e)) (hi : P.info? e = some i) (hz : i.zero = some z)
    (hsize : i.size = size) (hby : i.bytes = bytes) (_hzs : z.cells.size = size) (_hsz : 0 < size)
    (v : Value) (n : Nat) (xs : List Value) (hown : w.ownsRow base e size v n xs)
    (a : Addr) (m c : Nat) (news : List Value) (hl : news.length = m * size) (hnews : ∀ j u, news[j]? = some u → w.cell? (a.add j) = some u) (h1 : ∀ u ∈ news, u.oneCell' = true)
    (h63 : n + m ≤ maxLen) (hbytes : (n + m) * bytes ≤ 140737488355328) {v' : Value} {w' : World}
    (hr : (Builtin.append_ #[t, t] ty #[v, .slice (some a) m c]).run P w = .ok v' w') : ∀ g, v'.ownBlock = some g → v.ownBlock = some g ∨ w.heap.size ≤ g := by
  subst hsize
  subst hby
  intro g hg
  have hsmall : n + m ≤ 9223372036854775807 := by simp only [maxLen] at h63; omega
  rcases hown.2 with ⟨rfl, rfl⟩ | ⟨g0, cap, cur, rfl, hbg, hg0, hnc, hcm, hcs, htake⟩
  · by_cases hm : m = 0
    · subst hm
      have hn : news = [] := List.eq_nil_of_length_eq_zero (by simpa using hl)
      subst hn
      have hrun : (Builtin.append_ #[t, t] ty #[.slice none 0 0, .slice (some a) 0 c]).run P w = .ok (.slice none 0 0) w := by
        simp [Builtin.append_, run_underlying ht, sizeOf, typeInfo, hi, Builtin.lenOf, Builtin.firstCells, loadCells, loadCellsFrom]
      rw [hrun] at hr
      injection hr with hr _
      subst hr
      simp [Value.ownBlock] at hg
    · have hrun := run_append_nil (P := P) w t ty e i z ht hi hz a m c news hl hnews (by omega) (by omega) (by have hb := hbytes; simp only [Nat.zero_add] at hb; omega)
      rw [hrun] at hr
      injection hr with hr _
      subst hr
      simp only [Value.ownBlock, Option.some.injEq] at hg
      exact .inr (by omega)
  · by_cases hroom : n + m ≤ cap
    · have hfit : n * i.size + news.length ≤ cur.size := by rw [hl, hcs, ← Nat.add_mul]; exact Nat.mul_le_mul_right _ hroom
      have hrun := run_append_room (P := P) w t ty e i ht hi g0 n cap cur hg0 a m c news hl hnews h1 hroom hfit
      rw [hrun] at hr
      injection hr with hr _
      subst hr
      exact .inl hg
    · have holds : ∀ j u, xs[j]? = some u → w.cell? ((⟨g0, 0, none⟩ : Addr).add j) = some u := hown.cells (g := g0) rfl
      have hrun := run_append_grow (P := P) w t ty e i z ht hi hz ⟨g0, 0, none⟩ n cap xs hown.1 holds a m c news hl hnews (by omega) (by omega) (growslice_fits (by omega) hbytes)
      rw [hrun] at hr
      injection hr with hr _
      subst hr
      simp only [Value.ownBlock, Option.some.injEq] at hg
      exact .inr (by omega)
theorem wpList_append_own2 {ops : Array Oper} {rest : List Oper} {o : Oper} {a : Act} {Q : Exit → Act → World → Prop} (hgd : o.guard = none) (s x : Operand) (t : TypeId)
    (ho : o.op = .call { callee := .builtin .append, args := #[s, x], argTypes := #[t, t] })
    (base : Nat) (e : TypeId) (i : TypeInfo) (z : Value) (size bytes : Nat) (ht : P.underlying t = some (.slice e)) (hi : P.info? e = some i) (hz : i.zero = some z)
    (hsize : i.size = size) (hby : i.bytes = bytes) (hzs : z.cells.size = size) (hsz : 0 < size)
    (v : Value) (n : Nat) (xs : List Value) (hs : a.eval s = v) (hown : w.ownsRow base e size v n xs)
    (ad : Addr) (m c : Nat) (news : List Value) (hx : a.eval x = .slice (some ad) m c) (hl : news.length = m * size) (hnews : ∀ j u, news[j]? = some u → w.cell? (ad.add j) = some u) (h1 : ∀ u ∈ news, u.oneCell' = true)
    (h63 : n + m ≤ maxLen) (hbytes : (n + m) * bytes ≤ 140737488355328) (hbase : base ≤ w.heap.size)
    (h : ∀ v' w', w'.ownsRow base e size v' (n + m) (xs ++ news) → w.grownBy w' v.ownBlock → (∀ g, v'.ownBlock = some g → v.ownBlock = some g ∨ w.heap.size ≤ g) → wpList P ops Q rest (a.put o.dst v') w') : wpList P ops Q (o :: rest) a w :=
  wpList_plain hgd fun K hK => by
    obtain ⟨v', w', hr, h2, h3, h4⟩ := run_append_own (P := P) w base t o.type e i z size bytes ht hi hz hsize hby hzs hsz v n xs hown ad m c news hl hnews h1 h63 hbytes hbase
    have h5 := append_block (P := P) base t o.type e i z size bytes ht hi hz hsize hby hzs hsz v n xs hown ad m c news hl hnews h1 h63 hbytes hr
    unfold Oper.wp execOp
    simp only [ho, resolve, invoke, builtin, Sem.run_bind, Sem.run_pure, Result.andThen_ok, List.map_toArray, List.map_cons, List.map_nil, hs, hx, hr]
    exact hK _ _ (h v' w' h2 h3 h5)
end
/-- a row of the call's own is kept where its block is -/
theorem ownsRow_kept {w w' : World} {base : Nat} {e : TypeId} {k : Nat} {v : Value} {n : Nat} {cs : List Value} {S : Nat → Prop} (h : w.ownsRow base e k v n cs) (g : Chg S w w') (hS : ∀ b, v.ownBlock = some b → ¬ S b) : w'.ownsRow base e k v n cs := by
  refine ⟨h.1, ?_⟩
  rcases h.2 with h2 | ⟨b, cap, cur, rfl, hg, hh, r⟩
  · exact Or.inl h2
  · exact Or.inr ⟨b, cap, cur, rfl, hg, (g.block b (Array.getElem?_eq_some_iff.1 hh).1 (hS b rfl)).trans hh, r⟩
theorem Chg.of_grown {w w' : World} {row : Option Nat} (h : w.grownBy w' row) : Chg (fun b => row = some b) w w' := (Chg.refl _ _).grown h fun _ hk => .inl hk
/-- 'out = append(out, x)' beside other rows -/
theorem wp_append_int2 {w : World} {ops : Array Oper} {rest : List Oper} {o : Oper} {a : Act} {Q : Exit → Act → World → Prop} (hgd : o.guard = none) (s x : Operand)
    (ho : o.op = .call { callee := .builtin .append, args := #[s, x], argTypes := #[23, 23] })
    (base : Nat) (v : Value) (xs : List Int) (hs : a.eval s = v) (hown : OwnI w base v xs)
    (g : Nat) (n : Int) (hx : a.eval x = .slice (some ⟨g, 0, none⟩) 1 1) (hc : w.cell? ⟨g, 0, none⟩ = some (.int .i64 n)) (hn : I64 n) (hlen : xs.length ≤ 1099511627776) (hbase : base ≤ w.heap.size)
    (h : ∀ v' w', OwnI w' base v' (xs ++ [n]) → Chg (fun b => v.ownBlock = some b) w w' → (∀ b, v'.ownBlock = some b → v.ownBlock = some b ∨ w.heap.size ≤ b) → Chg (fun k => base ≤ k) w w' → wpList Try.prog ops Q rest (a.put o.dst v') w') : wpList Try.prog ops Q (o :: rest) a w := by
  obtain ⟨i0, hi, hz0, hz1, hz2⟩ := info_parts info2
  refine wpList_append_own2 (P := Try.prog) hgd s x 23 ho base 2 i0 (.int .i64 0) 1 8 Try.underlying23 hi hz0 hz1 hz2 rfl (by decide) v xs.length _ hs hown.1 ⟨g, 0, none⟩ 1 1 [.int .i64 n] hx rfl ?_ ?_ ?_ ?_ hbase ?_
  · intro j u hu
    cases j with
    | zero => simp only [List.getElem?_cons_zero, Option.some.injEq] at hu; subst hu; rw [add_zero]; exact hc
    | succ j => simp at hu
  · intro u hu; simp at hu; subst hu; rfl
  · unfold Go.maxLen; omega
  · omega
  · intro v' w' h2 h3 h4
    refine h v' w' ⟨by simpa using h2, fun y hy => ?_⟩ (Chg.of_grown h3) h4 ((Chg.refl _ _).grown h3 fun k hk => .inl (hown.1.lt k hk).1)
    rcases List.mem_append.1 hy with h4 | h4
    · exact hown.2 y h4
    · simp at h4; subst h4; exact hn
theorem OwnI.lt {w : World} {base : Nat} {v : Value} {xs : List Int} (h : OwnI w base v xs) {g : Nat} (hg : v.ownBlock = some g) : base ≤ g ∧ g < w.heap.size := h.1.lt g hg
theorem OwnI.rd {w : World} {base : Nat} {v : Value} {xs : List Int} (h : OwnI w base v xs) : Ints w (fun b => v.ownBlock = some b ∧ base ≤ b ∧ b < w.heap.size) v xs := by
  obtain ⟨A, c, rfl, h1, h2, h3, h4, h5⟩ := h.ints
  refine ⟨A, c, rfl, h1, h2, h3, fun hp => ?_, h5⟩
  obtain ⟨b, o, rfl, hs, hb, hc⟩ := h4 hp
  exact ⟨b, o, rfl, ⟨rfl, hs⟩, hb, hc⟩
/-- a slice of slices of numbers; each of them, and the row of them, in blocks of its own -/
def IntSS (w : World) (S : Nat → Prop) (v : Value) (xss : List (List Int)) : Prop :=
  ∃ (vs : List Value) (R : Nat → Prop) (Q : Nat → Nat → Prop), Raw w R 1 v xss.length vs ∧ (∀ b, R b → S b) ∧ (∀ i b, Q i b → S b ∧ ¬ R b) ∧ (∀ i j b, Q i b → Q j b → i = j) ∧
    ∀ i (h : i < xss.length), ∃ u, vs[i]? = some u ∧ Ints w (Q i) u xss[i]
section
variable {S T : Nat → Prop} {w w' : World} {v : Value} {xss : List (List Int)}
theorem IntSS.keep (h : IntSS w S v xss) (g : Chg T w w') (hd : ∀ b, b < w.heap.size → S b → ¬ T b) : IntSS w' S v xss := by
  obtain ⟨vs, R, Q, h1, h2, h3, h4, h5⟩ := h
  exact ⟨vs, R, Q, h1.keep g (fun b hb hr => hd b hb (h2 b hr)), h2, h3, h4, fun i hi => by
    obtain ⟨u, hu, hk⟩ := h5 i hi
    exact ⟨u, hu, hk.keep g (fun b hb hq => hd b hb (h3 i b hq).1)⟩⟩
theorem IntSS.up (h : IntSS w S v xss) (g : Up w w') : IntSS w' S v xss := h.keep g fun _ _ _ h => h
theorem IntSS.mono (h : IntSS w S v xss) (hs : ∀ b, S b → T b) : IntSS w T v xss := by
  obtain ⟨vs, R, Q, h1, h2, h3, h4, h5⟩ := h
  exact ⟨vs, R, Q, h1, fun b hb => hs b (h2 b hb), fun i b hq => ⟨hs b (h3 i b hq).1, (h3 i b hq).2⟩, h4, h5⟩
theorem IntSS.shape (h : IntSS w S v xss) : ∃ A c, v = .slice A xss.length c ∧ xss.length ≤ c ∧ c ≤ 9223372036854775807 ∧ (A = none → c = 0) := by
  obtain ⟨vs, R, Q, h1, _⟩ := h
  exact h1.shape
theorem IntSS.nil (w : World) (S : Nat → Prop) (c : Nat) (A : Option Addr) (hc : c ≤ 9223372036854775807) (hA : A = none → c = 0 := by simp) : IntSS w S (.slice A 0 c) [] :=
  ⟨[], fun _ => False, fun _ _ => False, Raw.nil w _ 1 c A hc hA, fun _ h => h.elim, fun _ _ h => h.elim, fun _ _ _ h => h.elim, fun i h => by simp at h⟩
/-- an element -/
theorem IntSS.at_ (h : IntSS w S v xss) {i : Nat} (hi : i < xss.length) : ∃ b o c A ci, v = .slice (some ⟨b, o, none⟩) xss.length c ∧ S b ∧ b < w.heap.size ∧ w.cell? ⟨b, o + i, none⟩ = some (.slice A xss[i].length ci) ∧ Ints w S (.slice A xss[i].length ci) xss[i] ∧ xss[i].length ≤ ci ∧ ci ≤ 9223372036854775807 := by
  obtain ⟨vs, R, Q, ⟨h0, A, c, rfl, h1, h2, h4, _⟩, hR, hQ, hD, h5⟩ := h
  obtain ⟨b, o, rfl, hs, hb, hc⟩ := h4 (by omega)
  obtain ⟨u, hu, hk⟩ := h5 i hi
  obtain ⟨Ai, ci, rfl, h6, h7, _⟩ := hk.shape
  obtain ⟨hlt, he⟩ := List.getElem?_eq_some_iff.1 hu
  refine ⟨b, o, c, Ai, ci, rfl, hR b hs, hb, ?_, hk.mono (fun b _ hq => (hQ i b hq).1), h6, h7⟩
  rw [← he]
  exact (hc i hlt).1
end
/-- such a row of the call's own -/
def OwnSS (w : World) (base : Nat) (v : Value) (xss : List (List Int)) : Prop :=
  ∃ (vs : List Value) (Q : Nat → Nat → Prop), w.ownsRow base 23 1 v xss.length vs ∧ (∀ i b, Q i b → base ≤ b ∧ b < w.heap.size ∧ v.ownBlock ≠ some b) ∧ (∀ i j b, Q i b → Q j b → i = j) ∧
    ∀ i (h : i < xss.length), ∃ u, vs[i]? = some u ∧ Ints w (Q i) u xss[i]
theorem OwnSS.made (w : World) (base : Nat) (hb : base ≤ w.heap.size) : OwnSS (w.alloc (.cells #[] 23)) base (.slice (some ⟨w.heap.size, 0, none⟩) 0 0) [] :=
  ⟨[], fun _ _ => False, World.ownsRow_made w _ 0 hb (by unfold Go.maxLen; omega) (by simp), fun _ _ h => h.elim, fun _ _ _ h => h.elim, fun i h => by simp at h⟩
theorem OwnSS.up {w w' : World} {base : Nat} {v : Value} {xss : List (List Int)} (h : OwnSS w base v xss) (g : Up w w') : OwnSS w' base v xss := by
  obtain ⟨vs, Q, h1, h2, h3, h4⟩ := h
  refine ⟨vs, Q, ownsRow_kept h1 g (fun _ _ h => h), fun i b hq => ?_, h3, fun i hi => ?_⟩
  · obtain ⟨a1, a2, a3⟩ := h2 i b hq
    exact ⟨a1, Nat.lt_of_lt_of_le a2 g.size, a3⟩
  · obtain ⟨u, hu, hk⟩ := h4 i hi
    exact ⟨u, hu, hk.up g⟩
theorem OwnSS.ss {w : World} {base : Nat} {v : Value} {xss : List (List Int)} (h : OwnSS w base v xss) : IntSS w (New base w.heap.size) v xss := by
  obtain ⟨vs, Q, h1, h2, h3, h4⟩ := h
  have hr := Raw.of_own h1
  obtain ⟨h0, A, c, rfl, a1, a2, a4, a5⟩ := hr
  refine ⟨vs, fun b => Value.ownBlock (.slice A xss.length c) = some b ∧ New base w.heap.size b, Q, ⟨h0, A, c, rfl, a1, a2, fun hp => ?_, a5⟩, fun b hb => hb.2, fun i b hq => ?_, h3, h4⟩
  · obtain ⟨b, o, rfl, hs, hb, hc⟩ := a4 hp
    exact ⟨b, o, rfl, ⟨rfl, hs⟩, hb, hc⟩
  · obtain ⟨q1, q2, q3⟩ := h2 i b hq
    exact ⟨⟨q1, q2⟩, fun hh => q3 hh.1⟩
end Go.Proofs.Ytplabnjdhkmmkaa
end
section
set_option linter.unusedSimpArgs false
set_option linter.unusedVariables false
namespace Go.Proofs.Ytplabnjdhkmmkaa
open Go.ChangeShapes Go.WideShapes Go.ChangeAt Go.RowKit
theorem RowAt.open_ {w : World} {S : Nat → Prop} {b o : Nat} {r : RowM} (h : RowAt w S b o r) : ∃ A c, w.cell? ⟨b, o, none⟩ = some (.int .i64 r.d) ∧ w.cell? ⟨b, o + 1, none⟩ = some (.int .i64 r.c) ∧ w.cell? ⟨b, o + 2, none⟩ = some (.slice A r.xs.length c) ∧ Ints w S (.slice A r.xs.length c) r.xs ∧ r.xs.length ≤ c ∧ c ≤ 9223372036854775807 := by
  obtain ⟨A, c, h1, h2, h3, h4, h5, h6, _⟩ := h
  exact ⟨A, c, h1, h2, h3, h4, h5, h6⟩
end Go.Proofs.Ytplabnjdhkmmkaa
end
section
set_option linter.unusedSimpArgs false
set_option linter.unusedVariables false
namespace Go.Proofs.Ytplabnjdhkmmkaa
open Go.ChangeShapes Go.WideShapes Go.ChangeAt Go.RowKit
end Go.Proofs.Ytplabnjdhkmmkaa
end
section
set_option linter.unusedSimpArgs false
set_option linter.unusedVariables false
namespace Go.Proofs.Ytplabnjdhkmmkaa
open Go.ChangeShapes Go.WideShapes Go.ChangeAt Go.RowKit
end Go.Proofs.Ytplabnjdhkmmkaa
end
section
set_option linter.unusedSimpArgs false
set_option linter.unusedVariables false
namespace Go.Proofs.Ytplabnjdhkmmkaa
open Go.ChangeShapes Go.WideShapes Go.ChangeAt Go.RowKit
theorem cell_at {w : World} {cs : Array Value} {e : TypeId} {g t : Nat} {u : Value} (h : g = w.heap.size) (hu : cs[t]? = some u) : (w.alloc (.cells cs e)).cell? ⟨g, t, none⟩ = some u := by
  subst h
  rw [cell_new]; exact hu
/-- a cell that may be written -/
def CellF (w : World) (p : Addr) (u : Value) : Prop := w.cell? p = some u ∧ w.frozen? p = false
theorem CellF.up {w w' : World} {p : Addr} {u : Value} (g : Up w w') (h : CellF w p u) : CellF w' p u := ⟨g.cell h.1 id, (g.frozen h.1 id).trans h.2⟩
theorem cellF_at {w : World} {cs : Array Value} {e : TypeId} {g t : Nat} {u : Value} (h : g = w.heap.size) (hu : cs[t]? = some u) : CellF (w.alloc (.cells cs e)) ⟨g, t, none⟩ u := by
  refine ⟨cell_at h hu, ?_⟩
  subst h
  exact frozen_new _ _ _ _
theorem CellF.keep {S : Nat → Prop} {w w' : World} {p : Addr} {u : Value} (g : Chg S w w') (h : CellF w p u) (hp : ¬ S p.block) : CellF w' p u := ⟨g.cell h.1 hp, (g.frozen h.1 hp).trans h.2⟩
theorem up_pre {a b c : World} {S : Nat → Prop} (h : Up a b) (g : Chg S b c) : a.heap.size ≤ b.heap.size ∧ b.heap.size ≤ c.heap.size := ⟨h.size, g.size⟩
def cntTo (xss : List (List Int)) (j : Nat) : Nat := ((xss.take j).map List.length).sum
/-- in the middle of marking: the row reads as before; the first lists bear their marks -/
def MarkSS (w : World) (S : Nat → Prop) (v : Value) (xss : List (List Int)) (k : Int) (j : Nat) : Prop :=
  ∃ (vs : List Value) (R : Nat → Prop) (Q : Nat → Nat → Prop), Raw w R 1 v xss.length vs ∧ (∀ b, R b → S b) ∧ (∀ i b, Q i b → S b ∧ ¬ R b) ∧ (∀ i j b, Q i b → Q j b → i = j) ∧
    ∀ i (h : i < xss.length), ∃ u, vs[i]? = some u ∧ Ints w (Q i) u (if i < j then marks (k + cntTo xss i) xss[i].length else xss[i])
def MIntSS (w : World) (S : Nat → Prop) (v : Value) (xss : List (List Int)) (k : Int) : Prop := MarkSS w S v xss k xss.length
theorem MarkSS.keep {S T : Nat → Prop} {w w' : World} {v : Value} {xss : List (List Int)} {k : Int} {j : Nat} (h : MarkSS w S v xss k j) (g : Chg T w w') (hd : ∀ b, b < w.heap.size → S b → ¬ T b) : MarkSS w' S v xss k j := by
  obtain ⟨vs, R, Q, h1, h2, h3, h4, h5⟩ := h
  exact ⟨vs, R, Q, h1.keep g (fun b hb hr => hd b hb (h2 b hr)), h2, h3, h4, fun i hi => by
    obtain ⟨u, hu, hk⟩ := h5 i hi
    exact ⟨u, hu, hk.keep g (fun b hb hq => hd b hb (h3 i b hq).1)⟩⟩
theorem MIntSS.keep {S T : Nat → Prop} {w w' : World} {v : Value} {xss : List (List Int)} {k : Int} (h : MIntSS w S v xss k) (g : Chg T w w') (hd : ∀ b, b < w.heap.size → S b → ¬ T b) : MIntSS w' S v xss k := MarkSS.keep h g hd
theorem MIntSS.up {S : Nat → Prop} {w w' : World} {v : Value} {xss : List (List Int)} {k : Int} (h : MIntSS w S v xss k) (g : Up w w') : MIntSS w' S v xss k := MarkSS.keep h g fun _ _ _ h => h
theorem MarkSS.shape {S : Nat → Prop} {w : World} {v : Value} {xss : List (List Int)} {k : Int} {j : Nat} (h : MarkSS w S v xss k j) : ∃ A c, v = .slice A xss.length c ∧ xss.length ≤ c ∧ c ≤ 9223372036854775807 ∧ (A = none → c = 0) := by
  obtain ⟨vs, R, Q, h1, _⟩ := h
  exact h1.shape
theorem MarkSS.start {S : Nat → Prop} {w : World} {v : Value} {xss : List (List Int)} {k : Int} (h : IntSS w S v xss) : MarkSS w S v xss k 0 := by
  obtain ⟨vs, R, Q, h1, h2, h3, h4, h5⟩ := h
  exact ⟨vs, R, Q, h1, h2, h3, h4, fun i hi => by rw [if_neg (by omega)]; exact h5 i hi⟩
/-- an element, and what is known when it has been marked -/
theorem MarkSS.at_ {S : Nat → Prop} {w : World} {v : Value} {xss : List (List Int)} {k : Int} {j : Nat} (h : MarkSS w S v xss k j) (hj : j < xss.length) : ∃ b o c A ci, ∃ Qj : Nat → Prop, v = .slice (some ⟨b, o, none⟩) xss.length c ∧ b < w.heap.size ∧ w.cell? ⟨b, o + j, none⟩ = some (.slice A xss[j].length ci) ∧ Ints w Qj (.slice A xss[j].length ci) xss[j] ∧ xss[j].length ≤ ci ∧ ci ≤ 9223372036854775807 ∧ (∀ x, Qj x → S x) ∧
    ∀ w', Chg Qj w w' → MInts w' Qj (.slice A xss[j].length ci) xss[j] (k + cntTo xss j) → MarkSS w' S v xss k (j + 1) := by
  obtain ⟨vs, R, Q, h1, hR, hQ, hD, h5⟩ := h
  obtain ⟨h0, A, c, rfl, h2, h3, h4, _⟩ := h1
  obtain ⟨b, o, rfl, hs, hb, hc⟩ := h4 (by omega)
  obtain ⟨u, hu, hk⟩ := h5 j hj
  rw [if_neg (by omega)] at hk
  obtain ⟨Ai, ci, rfl, h6, h7, _⟩ := hk.shape
  obtain ⟨hlt, he⟩ := List.getElem?_eq_some_iff.1 hu
  refine ⟨b, o, c, Ai, ci, Q j, rfl, hb, ?_, hk, h6, h7, fun x hx => (hQ j x hx).1, fun w' g hm => ?_⟩
  · rw [← he]
    exact (hc j hlt).1
  · refine ⟨vs, R, Q, ⟨h0, _, c, rfl, h2, h3, fun hp => ?_, by simp⟩, hR, hQ, hD, fun i hi => ?_⟩
    · refine ⟨b, o, rfl, hs, Nat.lt_of_lt_of_le hb g.size, fun t ht => ?_⟩
      have hn : ¬ Q j b := fun hq => (hQ j b hq).2 hs
      exact ⟨g.cell (hc t ht).1 hn, (g.frozen (hc t ht).1 hn).trans (hc t ht).2⟩
    · by_cases e : i = j
      · subst e
        refine ⟨_, hu, ?_⟩
        rw [if_pos (by omega)]
        exact hm
      · obtain ⟨ui, hui, hki⟩ := h5 i hi
        refine ⟨ui, hui, ?_⟩
        have e2 : (i < j + 1) = (i < j) := by rw [eq_iff_iff]; omega
        simp only [e2]
        exact hki.keep g (fun x _ h1 h2 => e (hD i j x h1 h2))
theorem MIntSS.at_ {S : Nat → Prop} {w : World} {v : Value} {xss : List (List Int)} {k : Int} (h : MIntSS w S v xss k) {j : Nat} (hj : j < xss.length) : ∃ b o c A ci, ∃ Qj : Nat → Prop, v = .slice (some ⟨b, o, none⟩) xss.length c ∧ w.cell? ⟨b, o + j, none⟩ = some (.slice A xss[j].length ci) ∧ MInts w Qj (.slice A xss[j].length ci) xss[j] (k + cntTo xss j) ∧ xss[j].length ≤ ci ∧ ci ≤ 9223372036854775807 := by
  obtain ⟨vs, R, Q, h1, hR, hQ, hD, h5⟩ := h
  obtain ⟨h0, A, c, rfl, h2, h3, h4, _⟩ := h1
  obtain ⟨b, o, rfl, hs, hb, hc⟩ := h4 (by omega)
  obtain ⟨u, hu, hk⟩ := h5 j hj
  rw [if_pos hj] at hk
  obtain ⟨Ai, ci, rfl, h6, h7, _⟩ := hk.shape
  rw [marks_length] at hu hk h6
  obtain ⟨hlt, he⟩ := List.getElem?_eq_some_iff.1 hu
  refine ⟨b, o, c, Ai, ci, Q j, rfl, ?_, hk, h6, h7⟩
  rw [← he]
  exact (hc j hlt).1
end Go.Proofs.Ytplabnjdhkmmkaa
end
section
set_option linter.unusedSimpArgs false
set_option linter.unusedVariables false
namespace Go.Proofs.Ytplabnjdhkmmkaa
open Go.ChangeShapes Go.WideShapes Go.ChangeAt Go.RowKit
def Nst {α : Type} (m : Nat) (E : World → List Value → α → Prop) (w : World) (R : Nat → Prop) (v : Value) (xs : List α) : Prop :=
  ∃ cs, Raw w R m v xs.length cs ∧ ∀ i (hi : i < xs.length), E w ((cs.drop (i * m)).take m) xs[i]
section
variable {α : Type} {m : Nat} {E E' : World → List Value → α → Prop} {w w' : World} {R S T : Nat → Prop} {v : Value} {xs : List α}
theorem Nst.keep (h : Nst m E w R v xs) (hE : ∀ vs x, E w vs x → E' w' vs x) (g : Chg T w w') (hd : ∀ b, b < w.heap.size → R b → ¬ T b) : Nst m E' w' R v xs :=
  let ⟨cs, h1, h2⟩ := h; ⟨cs, h1.keep g hd, fun i hi => hE _ _ (h2 i hi)⟩
theorem Nst.up (h : Nst m E w R v xs) (hE : ∀ vs x, E w vs x → E w' vs x) (g : Up w w') : Nst m E w' R v xs := h.keep hE g fun _ _ _ h => h
theorem Nst.mono (h : Nst m E w R v xs) (hE : ∀ vs x, E w vs x → E' w vs x) (hs : ∀ b, b < w.heap.size → R b → S b) : Nst m E' w S v xs :=
  let ⟨cs, h1, h2⟩ := h; ⟨cs, h1.mono hs, fun i hi => hE _ _ (h2 i hi)⟩
theorem Nst.shape (h : Nst m E w R v xs) : ∃ A c, v = .slice A xs.length c ∧ xs.length ≤ c ∧ c ≤ 9223372036854775807 ∧ (A = none → c = 0) :=
  let ⟨_, h1, _⟩ := h; h1.shape
theorem Nst.nil (w : World) (R : Nat → Prop) (A : Option Addr) (c : Nat) (hc : c ≤ 9223372036854775807) (hA : A = none → c = 0 := by simp) : Nst m E w R (.slice A 0 c) ([] : List α) :=
  ⟨[], Raw.nil w R m c A hc hA, fun i hi => absurd hi (by simp)⟩
theorem chunk_lt {i n m j : Nat} (hi : i < n) (hj : j < m) : i * m + j < n * m := by
  have : (i + 1) * m ≤ n * m := Nat.mul_le_mul_right m hi
  rw [Nat.add_mul] at this
  omega
theorem Nst.at_ (h : Nst m E w R v xs) {i : Nat} (hi : i < xs.length) : ∃ b o c vs, v = .slice (some ⟨b, o, none⟩) xs.length c ∧ R b ∧ b < w.heap.size ∧ vs.length = m ∧ E w vs xs[i] ∧
    ∀ j u, vs[j]? = some u → w.cell? ⟨b, o + i * m + j, none⟩ = some u ∧ w.frozen? ⟨b, o + i * m + j, none⟩ = false := by
  obtain ⟨cs, ⟨h0, A, c, hv, h1, h2, h4, _⟩, h5⟩ := h
  obtain ⟨b, o, rfl, hs, hb, hc⟩ := h4 (by omega)
  have hlen : ((cs.drop (i * m)).take m).length = m := by
    have : (i + 1) * m ≤ xs.length * m := Nat.mul_le_mul_right m hi
    rw [Nat.add_mul] at this
    simp
    omega
  refine ⟨b, o, c, _, hv, hs, hb, hlen, h5 i hi, fun j u hu => ?_⟩
  have hj : j < m := by
    obtain ⟨hj, _⟩ := List.getElem?_eq_some_iff.1 hu
    omega
  have hlt := chunk_lt hi hj
  have hcc := hc (i * m + j) (by omega)
  rw [← Nat.add_assoc] at hcc
  rw [List.getElem?_take_of_lt hj, List.getElem?_drop] at hu
  obtain ⟨hj2, he⟩ := List.getElem?_eq_some_iff.1 hu
  rw [he] at hcc
  exact hcc
/-- the elements that were copied so far -/
def ChunkIn (m : Nat) (E : World → List Value → α → Prop) (w : World) (cs : List Value) (xs : List α) (j : Nat) : Prop :=
  cs.length = j * m ∧ ∀ i (hi : i < xs.length), i < j → E w ((cs.drop (i * m)).take m) xs[i]
theorem ChunkIn.start : ChunkIn m E w [] xs 0 := ⟨by simp, fun i _ h => by omega⟩
theorem ChunkIn.keep {cs : List Value} {j : Nat} (h : ChunkIn m E w cs xs j) (hE : ∀ vs x, E w vs x → E' w' vs x) : ChunkIn m E' w' cs xs j :=
  ⟨h.1, fun i hi hij => hE _ _ (h.2 i hi hij)⟩
theorem ChunkIn.next {cs vs : List Value} {j : Nat} (h : ChunkIn m E w cs xs j) (hj : j < xs.length) (hl : vs.length = m) (hv : E w vs xs[j]) : ChunkIn m E w (cs ++ vs) xs (j + 1) := by
  refine ⟨by rw [List.length_append, h.1, hl, Nat.add_mul]; omega, fun i hi hij => ?_⟩
  by_cases he : i < j
  · have hle : (i + 1) * m ≤ j * m := Nat.mul_le_mul_right m he
    rw [Nat.add_mul] at hle
    have h1 := h.1
    have e : ((cs ++ vs).drop (i * m)).take m = (cs.drop (i * m)).take m := by
      rw [List.drop_append_of_le_length (by omega), List.take_append_of_le_length (by simp; omega)]
    rw [e]
    exact h.2 i hi he
  · obtain rfl : i = j := by omega
    have e : ((cs ++ vs).drop (i * m)).take m = vs := by
      rw [← h.1, List.drop_left, ← hl, List.take_length]
    rw [e]
    exact hv
theorem Nst.done {cs : List Value} {b : Nat} (h : Copying w b m xs.length xs.length cs) (k : ChunkIn m E w cs xs xs.length) (hS : R b) (hb : b < w.heap.size) (hm : xs.length ≤ 9223372036854775807) : Nst m E w R (.slice (some ⟨b, 0, none⟩) xs.length xs.length) xs :=
  ⟨cs, Copying.done h hS hb k.1 hm, fun i hi => k.2 i hi hi⟩
/-- the sums of what the first elements are worth -/
def cntF (f : α → Nat) (xs : List α) (j : Nat) : Nat := ((xs.take j).map f).sum
theorem cntF_succ {f : α → Nat} {j : Nat} (h : j < xs.length) : cntF f xs (j + 1) = cntF f xs j + f xs[j] := by
  unfold cntF
  rw [List.take_succ_eq_append_getElem h, List.map_append, List.sum_append]
  simp
theorem cntF_le {f : α → Nat} {i j : Nat} (h : i ≤ j) : cntF f xs i ≤ cntF f xs j := by
  unfold cntF
  have e : (xs.take j) = (xs.take j).take i ++ (xs.take j).drop i := (List.take_append_drop i _).symm
  rw [List.take_take, Nat.min_eq_left h] at e
  rw [e]
  simp
end
theorem CellF.set {w : World} {p : Addr} {u u' : Value} (h : CellF w p u') : CellF (w.setCell p u) p u := ⟨World.cell?_setCell_same _ _ _ h.1, by simpa using h.2⟩
theorem CellF.set_ne {w : World} {p q : Addr} {u x : Value} (h : CellF w p u) (hn : p ≠ q) : CellF (w.setCell q x) p u := ⟨(World.cell?_setCell_other _ _ _ _ (Ne.symm hn)).trans h.1, by simpa using h.2⟩
/-- blocks between lo and hi, of three kinds: rows of structs, rows of slices, rows of numbers -/
def ApartN (lo hi : Nat) (M H L : Nat → Prop) : Prop :=
  (∀ b, M b ∨ H b ∨ L b → lo ≤ b ∧ b < hi) ∧ (∀ b, M b → ¬ H b) ∧ (∀ b, M b → ¬ L b) ∧ (∀ b, H b → ¬ L b)
theorem ApartN.none (lo hi : Nat) : ApartN lo hi Nowhere Nowhere Nowhere := ⟨fun b h => h.elim (fun h => h.elim) fun h => h.elim (fun h => h.elim) fun h => h.elim, fun b h => h.elim, fun b h => h.elim, fun b h => h.elim⟩
theorem ApartN.row {lo hi g : Nat} (h1 : lo ≤ g) (h2 : g < hi) : ApartN lo hi Nowhere (fun b => b = g) (New (g + 1) hi) :=
  ⟨fun b h => by
    rcases h with h | h | h
    · exact h.elim
    · have h : b = g := h
      omega
    · have := h.1
      exact ⟨by omega, h.2⟩, fun b h => h.elim, fun b h => h.elim, fun b h k => by
    have h : b = g := h
    have := k.1
    omega⟩
end Go.Proofs.Ytplabnjdhkmmkaa
end
section
set_option maxRecDepth 100000
set_option maxHeartbeats 1000000
set_option linter.unusedSimpArgs false
set_option linter.unusedVariables false
namespace Go.Proofs.Ytplabnjdhkmmkaa
open Go.ChangeShapes Go.WideShapes Go.ChangeAt Go.RowKit
def IntsE (L : Nat → Prop) (w : World) (vs : List Value) (x : List Int) : Prop := ∃ A c, vs = [.slice A x.length c] ∧ Ints w L (.slice A x.length c) x ∧ x.length ≤ c ∧ c ≤ 9223372036854775807
theorem IntsE.val {L : Nat → Prop} {w : World} {vs : List Value} {x : List Int} (h : IntsE L w vs x) : ∃ A c, vs = [.slice A x.length c] ∧ Ints w L (.slice A x.length c) x ∧ x.length ≤ c ∧ c ≤ 9223372036854775807 := h
theorem IntsE.keep {L T : Nat → Prop} {w w' : World} {vs : List Value} {x : List Int} (h : IntsE L w vs x) (g : Chg T w w') (hd : ∀ b, b < w.heap.size → L b → ¬ T b) : IntsE L w' vs x := let ⟨A, c, h1, h2, h3⟩ := h; ⟨A, c, h1, h2.keep g hd, h3⟩
theorem IntsE.up {L : Nat → Prop} {w w' : World} {vs : List Value} {x : List Int} (h : IntsE L w vs x) (g : Up w w') : IntsE L w' vs x := h.keep g fun _ _ _ h => h
theorem IntsE.mono {L T : Nat → Prop} {w : World} {vs : List Value} {x : List Int} (h : IntsE L w vs x) (hs : ∀ b, b < w.heap.size → L b → T b) : IntsE T w vs x := let ⟨A, c, h1, h2, h3⟩ := h; ⟨A, c, h1, h2.mono hs, h3⟩
def IntSSV (w : World) (M H L : Nat → Prop) (v : Value) (xs : List (List Int)) : Prop := Nst 1 (IntsE L) w H v xs
theorem IntSSV.keep {M H L T : Nat → Prop} {w w' : World} {v : Value} {xs : List (List Int)} (h : IntSSV w M H L v xs) (g : Chg T w w') (hd : ∀ b, M b ∨ H b ∨ L b → ¬ T b) : IntSSV w' M H L v xs :=
  Nst.keep h (fun _ _ k => IntsE.keep k g (fun b _ h => hd b (.inr (.inr h)))) g (fun b _ h => hd b (.inr (.inl h)))
theorem IntSSV.up {M H L : Nat → Prop} {w w' : World} {v : Value} {xs : List (List Int)} (h : IntSSV w M H L v xs) (g : Up w w') : IntSSV w' M H L v xs := h.keep g fun _ _ h => h
theorem IntSSV.mono {M H L M' H' L' : Nat → Prop} {w : World} {v : Value} {xs : List (List Int)} (h : IntSSV w M H L v xs) (hm : ∀ b, b < w.heap.size → M b → M' b) (hr : ∀ b, b < w.heap.size → H b → H' b) (hl : ∀ b, b < w.heap.size → L b → L' b) : IntSSV w M' H' L' v xs :=
  Nst.mono h (fun _ _ k => IntsE.mono k hl) hr
theorem IntSSV.shape {M H L : Nat → Prop} {w : World} {v : Value} {xs : List (List Int)} (h : IntSSV w M H L v xs) : ∃ A c, v = .slice A xs.length c ∧ xs.length ≤ c ∧ c ≤ 9223372036854775807 ∧ (A = none → c = 0) := Nst.shape h
theorem IntSSV.at_ {M H L : Nat → Prop} {w : World} {v : Value} {xs : List (List Int)} (h : IntSSV w M H L v xs) {i : Nat} (hi : i < xs.length) : ∃ b o c vs, v = .slice (some ⟨b, o, none⟩) xs.length c ∧ H b ∧ b < w.heap.size ∧ vs.length = 1 ∧ IntsE L w vs xs[i] ∧
    ∀ j u, vs[j]? = some u → w.cell? ⟨b, o + i * 1 + j, none⟩ = some u ∧ w.frozen? ⟨b, o + i * 1 + j, none⟩ = false := Nst.at_ h hi
theorem eqIntSSV_same (w : World) (M H L M' H' L' : Nat → Prop) (v u : Value) (xs : List (List Int)) (h : IntSSV w M H L v xs) (h2 : IntSSV w M' H' L' u xs) :
    Calls Try.prog 116 #[v, u] w fun e w' => e = .returned (.bool true) ∧ Up w w' := by
  obtain ⟨A, c, rfl, hlc, hcm, -⟩ := h.shape
  obtain ⟨A2, c2, rfl, hlc2, hcm2, -⟩ := h2.shape
  have H := Lib.hid h
  have H2 := Lib.hid h2
  clear h h2
  go_enter Try.func116, Try.ntmps116
  go_wp2
  go_loopw [5] (fun i wr => ∃ (j : Nat), j ≤ xs.length ∧ i = .int .i64 j ∧ Hid (Up w wr)) (fun i _ => xs.length - (intOf i).toNat)
  case atStart => exact ⟨0, by omega, rfl, Chg.refl _ _⟩
  case round =>
    obtain ⟨j, hj, rfl, hu⟩ := hrel
    by_cases hlt : j < xs.length
    · obtain ⟨b3, o3, c3', vs3, he3, -, -, -, hE3, hc3⟩ := (H.out.up hu.out).at_ hlt
      obtain ⟨rfl, rfl⟩ : A = some ⟨b3, o3, none⟩ ∧ c = c3' := by simpa using he3
      obtain ⟨A3, k3, rfl, hv3, -⟩ := IntsE.val hE3
      have f0 := (hc3 0 _ rfl).1
      simp only [Nat.mul_one, Nat.add_zero] at f0
      have HV3 := Lib.hid hv3
      clear hc3 hv3 he3
      obtain ⟨b5, o5, c5', vs5, he5, -, -, -, hE5, hc5⟩ := (H2.out.up hu.out).at_ hlt
      obtain ⟨rfl, rfl⟩ : A2 = some ⟨b5, o5, none⟩ ∧ c2 = c5' := by simpa using he5
      obtain ⟨A5, k5, rfl, hv5, -⟩ := IntsE.val hE5
      have e0 := (hc5 0 _ rfl).1
      simp only [Nat.mul_one, Nat.add_zero] at e0
      have HV5 := Lib.hid hv5
      clear hc5 hv5 he5
      go_wp2
      have qf0 := up_cell f0
      have qe0 := up_cell e0
      clear f0 e0
      refine wp_region_up (by kernel_rfl) (by kernel_rfl) ?_
      repeat (go_big_quiet_step (first | (go_at_call 130; with_reducible exact calls_up (((eqInt64S_same _ _ _ _ _ _ (HV3.out.up (UpOf.up _)) (HV5.out.up (UpOf.up _))).mono fun _ _ h => ⟨h.1, h.2.up⟩)))))
      refine wpQuiet_nil ?_
      rintro _ ⟨u, rfl⟩
      go_wp2
      go_roundw
      case rel => exact ⟨j + 1, by omega, by go_num, Lib.hid (Chg.trans hu.out u.up)⟩
      case measure => first | (simp [intOf]; done) | (simp [intOf]; omega)
    · obtain rfl : j = xs.length := by omega
      go_wp2
      go_ret
      exact ⟨rfl, hu.out⟩
end Go.Proofs.Ytplabnjdhkmmkaa
end
section
set_option maxRecDepth 100000
set_option linter.unusedSimpArgs false
set_option linter.unusedVariables false
namespace Go.Proofs.Ytplabnjdhkmmkaa
open Go.ChangeShapes Go.WideShapes Go.ChangeAt Go.RowKit
def LRow (w : World) (base : Nat) (v : Value) (rs : List (List Int)) : Prop :=
  ∃ cs, w.ownsRow base 23 1 v rs.length cs ∧ ∀ i (h : i < rs.length), IntsE (fun b => base ≤ b ∧ b < w.heap.size ∧ v.ownBlock ≠ some b) w ((cs.drop (i * 1)).take 1) rs[i]
theorem LRow.nil (w : World) (base : Nat) : LRow w base (.slice none 0 0) [] := ⟨[], World.ownsRow_nil _ _ _ _, fun i h => by simp at h⟩
theorem LRow.kept {S : Nat → Prop} {w w' : World} {base : Nat} {v : Value} {rs : List (List Int)} (h : LRow w base v rs) (g : Chg S w w') (hS : ∀ b, base ≤ b → b < w.heap.size → ¬ S b) : LRow w' base v rs := by
  obtain ⟨cs, h1, h2⟩ := h
  exact ⟨cs, ownsRow_kept h1 g (fun b hb => hS b (h1.lt b hb).1 (h1.lt b hb).2), fun i hi => ((h2 i hi).keep g (fun b hb hq => hS b hq.1 hb)).mono (fun b _ hq => ⟨hq.1, Nat.lt_of_lt_of_le hq.2.1 g.size, hq.2.2⟩)⟩
theorem LRow.up {w w' : World} {base : Nat} {v : Value} {rs : List (List Int)} (h : LRow w base v rs) (g : Up w w') : LRow w' base v rs := h.kept g (fun _ _ _ h => h)
theorem LRow.val {w : World} {base : Nat} {v : Value} {rs : List (List Int)} (h : LRow w base v rs) : ∃ A c, v = .slice A rs.length c ∧ rs.length ≤ c ∧ c ≤ 9223372036854775807 ∧ (A = none → c = 0) := by
  obtain ⟨cs, h1, -⟩ := h
  obtain ⟨-, A, c, h3, h4, h5, -, h6⟩ := Raw.of_own h1
  exact ⟨A, c, h3, h4, h5, h6⟩
theorem LRow.lt {w : World} {base : Nat} {v : Value} {rs : List (List Int)} (h : LRow w base v rs) {g : Nat} (hg : v.ownBlock = some g) : base ≤ g ∧ g < w.heap.size := let ⟨_, h1, _⟩ := h; h1.lt g hg
theorem LRow.rd {w : World} {base : Nat} {v : Value} {rs : List (List Int)} (h : LRow w base v rs) (M : Nat → Prop) : IntSSV w M (New base w.heap.size) (New base w.heap.size) v rs := by
  obtain ⟨cs, h1, h2⟩ := h
  exact ⟨cs, Raw.of_own h1, fun i hi => (h2 i hi).mono (fun b hb hq => ⟨hq.1, hb⟩)⟩
theorem infoISl : (Try.prog.info? 23).map (fun i => (i.zero, i.size, i.bytes)) = some (some (.slice none 0 0), 1, 24) := by kernel_rfl
/-- one list more is appended, out of a literal of one element -/
theorem wp_append_lrow {w : World} {ops : Array Oper} {rest : List Oper} {o : Oper} {a : Act} {R : Exit → Act → World → Prop} (hgd : o.guard = none) (s x : Operand)
    (ho : o.op = .call { callee := .builtin .append, args := #[s, x], argTypes := #[33, 33] })
    (base : Nat) (v : Value) (rs : List (List Int)) (hs : a.eval s = v) (hown : LRow w base v rs)
    (g : Nat) (r : List Int) (A : Option Addr) (c : Nat) (hx : a.eval x = .slice (some ⟨g, 0, none⟩) 1 1) (hc0 : w.cell? ⟨g, 0, none⟩ = some (.slice A r.length c))
    (hi : Ints w (fun b => base ≤ b ∧ b < w.heap.size ∧ v.ownBlock ≠ some b) (.slice A r.length c) r) (hb : r.length ≤ c ∧ c ≤ 9223372036854775807) (hlen : rs.length ≤ 1000000) (hbase : base ≤ w.heap.size)
    (h : ∀ v' w', LRow w' base v' (rs ++ [r]) → Chg (fun b => v.ownBlock = some b) w w' → (∀ b, v'.ownBlock = some b → v.ownBlock = some b ∨ w.heap.size ≤ b) → wpList Try.prog ops R rest (a.put o.dst v') w') : wpList Try.prog ops R (o :: rest) a w := by
  obtain ⟨i0, hi0, hz0, hz1, hz2⟩ := info_parts infoISl
  obtain ⟨cs, h1, h2⟩ := hown
  have hcl : cs.length = rs.length * 1 := h1.1
  refine wpList_append_own2 (P := Try.prog) hgd s x 33 ho base 23 i0 _ 1 24 Try.underlying33 hi0 hz0 hz1 hz2 rfl (by decide) v rs.length cs hs h1 ⟨g, 0, none⟩ 1 1 [.slice A r.length c] hx rfl (fun k u hk => ?_) (fun u hu => ?_) (by unfold Go.maxLen; omega) (by omega) hbase (fun v' w' k1 k2 k3 => ?_)
  · cases k with
    | zero => simp only [List.getElem?_cons_zero, Option.some.injEq] at hk; subst hk; rw [add_zero]; exact hc0
    | succ k => simp at hk
  · simp at hu; subst hu; rfl
  · have hC := Chg.of_grown k2
    refine h v' w' ⟨cs ++ [.slice A r.length c], by simpa using k1, fun i hi' => ?_⟩ hC k3
    have hnot : ∀ b, b < w.heap.size → v.ownBlock ≠ some b → v'.ownBlock ≠ some b := fun b hb hn e => (k3 b e).elim hn (fun h => by omega)
    by_cases he : i < rs.length
    · rw [List.getElem_append_left he, List.drop_append_of_le_length (by omega), List.take_append_of_le_length (by rw [List.length_drop]; omega)]
      exact ((h2 i he).keep hC (fun b _ hq e => hq.2.2 e)).mono (fun b _ hq => ⟨hq.1, Nat.lt_of_lt_of_le hq.2.1 hC.size, hnot b hq.2.1 hq.2.2⟩)
    · have hi2 : i = rs.length := by simp at hi'; omega
      subst hi2
      rw [List.getElem_append_right (Nat.le_refl _)]
      simp only [Nat.sub_self, List.getElem_cons_zero]
      rw [show rs.length * 1 = cs.length by omega, List.drop_left]
      exact ⟨A, c, rfl, (hi.keep hC (fun b _ hq e => hq.2.2 e)).mono (fun b _ hq => ⟨hq.1, Nat.lt_of_lt_of_le hq.2.1 hC.size, hnot b hq.2.1 hq.2.2⟩), hb⟩
end Go.Proofs.Ytplabnjdhkmmkaa
end
section
set_option maxRecDepth 100000
set_option maxHeartbeats 1000000
set_option linter.unusedSimpArgs false
set_option linter.unusedVariables false
namespace Go.Proofs.Ytplabnjdhkmmkaa
open Go.ChangeShapes Go.WideShapes Go.ChangeAt Go.RowKit
structure NormM where
  n : Int
  p : Int
  fs : List (List Int)
def NormE (M H L : Nat → Prop) (w : World) (vs : List Value) (x : NormM) : Prop := ∃ A c, vs = [.int .i64 x.n, .int .i64 x.p, .slice A x.fs.length c] ∧ IntSSV w M H L (.slice A x.fs.length c) x.fs ∧ (x.fs.length ≤ c ∧ c ≤ 9223372036854775807) ∧ I64 x.n ∧ I64 x.p
theorem NormE.keep {M H L T : Nat → Prop} {w w' : World} {vs : List Value} {x : NormM} (h : NormE M H L w vs x) (g : Chg T w w') (hd : ∀ b, M b ∨ H b ∨ L b → ¬ T b) : NormE M H L w' vs x := let ⟨A, c, he, h0, h1, h2, h3⟩ := h; ⟨A, c, he, h0.keep g hd, h1, h2, h3⟩
theorem NormE.up {M H L : Nat → Prop} {w w' : World} {vs : List Value} {x : NormM} (h : NormE M H L w vs x) (g : Up w w') : NormE M H L w' vs x := h.keep g fun _ _ h => h
theorem NormE.mono {M H L M' H' L' : Nat → Prop} {w : World} {vs : List Value} {x : NormM} (h : NormE M H L w vs x) (hm : ∀ b, b < w.heap.size → M b → M' b) (hr : ∀ b, b < w.heap.size → H b → H' b) (hl : ∀ b, b < w.heap.size → L b → L' b) : NormE M' H' L' w vs x := let ⟨A, c, he, h0, h1, h2, h3⟩ := h; ⟨A, c, he, h0.mono hm hr hl, h1, h2, h3⟩
def NormV (w : World) (M H L : Nat → Prop) (v : Value) (x : NormM) : Prop := ∃ A c, v = .agg #[.int .i64 x.n, .int .i64 x.p, .slice A x.fs.length c] ∧ IntSSV w M H L (.slice A x.fs.length c) x.fs ∧ (x.fs.length ≤ c ∧ c ≤ 9223372036854775807) ∧ I64 x.n ∧ I64 x.p
theorem NormV.keep {M H L T : Nat → Prop} {w w' : World} {v : Value} {x : NormM} (h : NormV w M H L v x) (g : Chg T w w') (hd : ∀ b, M b ∨ H b ∨ L b → ¬ T b) : NormV w' M H L v x := let ⟨A, c, he, h0, h1, h2, h3⟩ := h; ⟨A, c, he, h0.keep g hd, h1, h2, h3⟩
theorem NormV.up {M H L : Nat → Prop} {w w' : World} {v : Value} {x : NormM} (h : NormV w M H L v x) (g : Up w w') : NormV w' M H L v x := h.keep g fun _ _ h => h
theorem NormV.mono {M H L M' H' L' : Nat → Prop} {w : World} {v : Value} {x : NormM} (h : NormV w M H L v x) (hm : ∀ b, b < w.heap.size → M b → M' b) (hr : ∀ b, b < w.heap.size → H b → H' b) (hl : ∀ b, b < w.heap.size → L b → L' b) : NormV w M' H' L' v x := let ⟨A, c, he, h0, h1, h2, h3⟩ := h; ⟨A, c, he, h0.mono hm hr hl, h1, h2, h3⟩
theorem NormE.val {M H L : Nat → Prop} {w : World} {vs : List Value} {x : NormM} (h : NormE M H L w vs x) : ∃ A c, vs = [.int .i64 x.n, .int .i64 x.p, .slice A x.fs.length c] ∧ NormV w M H L (.agg #[.int .i64 x.n, .int .i64 x.p, .slice A x.fs.length c]) x :=
  let ⟨A, c, he, h0, h1, h2, h3⟩ := h; ⟨A, c, he, A, c, rfl, h0, h1, h2, h3⟩
theorem NormV.val {M H L : Nat → Prop} {w : World} {v : Value} {x : NormM} (h : NormV w M H L v x) : ∃ A c, v = .agg #[.int .i64 x.n, .int .i64 x.p, .slice A x.fs.length c] ∧ NormV w M H L (.agg #[.int .i64 x.n, .int .i64 x.p, .slice A x.fs.length c]) x := by
  obtain ⟨A, c, rfl, h0, h1, h2, h3⟩ := h
  exact ⟨_, _, rfl, _, _, rfl, h0, h1, h2, h3⟩
theorem NormV.parts {M H L : Nat → Prop} {w : World} {v : Value} {x : NormM} (h : NormV w M H L v x) : ∃ A c, v = .agg #[.int .i64 x.n, .int .i64 x.p, .slice A x.fs.length c] ∧ IntSSV w M H L (.slice A x.fs.length c) x.fs ∧ (x.fs.length ≤ c ∧ c ≤ 9223372036854775807) ∧ I64 x.n ∧ I64 x.p := h
theorem NormE.mk {M H L : Nat → Prop} {w : World} {x : NormM} {B : Option Addr} {d : Nat} (h : NormV w M H L (.agg #[.int .i64 x.n, .int .i64 x.p, .slice B x.fs.length d]) x) : NormE M H L w [.int .i64 x.n, .int .i64 x.p, .slice B x.fs.length d] x := by
  obtain ⟨A, c, he, h0, h1, h2, h3⟩ := h
  simp only [Value.agg.injEq, Array.mk.injEq, List.cons.injEq, Value.slice.injEq, true_and, and_true] at he
  obtain ⟨rfl, rfl⟩ := he
  exact ⟨_, _, rfl, h0, h1, h2, h3⟩
def NormSV (w : World) (M H L : Nat → Prop) (v : Value) (xs : List NormM) : Prop := Nst 3 (NormE M H L) w M v xs
theorem NormSV.keep {M H L T : Nat → Prop} {w w' : World} {v : Value} {xs : List NormM} (h : NormSV w M H L v xs) (g : Chg T w w') (hd : ∀ b, M b ∨ H b ∨ L b → ¬ T b) : NormSV w' M H L v xs :=
  Nst.keep h (fun _ _ k => NormE.keep k g hd) g (fun b _ h => hd b (.inl h))
theorem NormSV.up {M H L : Nat → Prop} {w w' : World} {v : Value} {xs : List NormM} (h : NormSV w M H L v xs) (g : Up w w') : NormSV w' M H L v xs := h.keep g fun _ _ h => h
theorem NormSV.mono {M H L M' H' L' : Nat → Prop} {w : World} {v : Value} {xs : List NormM} (h : NormSV w M H L v xs) (hm : ∀ b, b < w.heap.size → M b → M' b) (hr : ∀ b, b < w.heap.size → H b → H' b) (hl : ∀ b, b < w.heap.size → L b → L' b) : NormSV w M' H' L' v xs :=
  Nst.mono h (fun _ _ k => NormE.mono k hm hr hl) hm
theorem NormSV.shape {M H L : Nat → Prop} {w : World} {v : Value} {xs : List NormM} (h : NormSV w M H L v xs) : ∃ A c, v = .slice A xs.length c ∧ xs.length ≤ c ∧ c ≤ 9223372036854775807 ∧ (A = none → c = 0) := Nst.shape h
theorem NormSV.at_ {M H L : Nat → Prop} {w : World} {v : Value} {xs : List NormM} (h : NormSV w M H L v xs) {i : Nat} (hi : i < xs.length) : ∃ b o c vs, v = .slice (some ⟨b, o, none⟩) xs.length c ∧ M b ∧ b < w.heap.size ∧ vs.length = 3 ∧ NormE M H L w vs xs[i] ∧
    ∀ j u, vs[j]? = some u → w.cell? ⟨b, o + i * 3 + j, none⟩ = some u ∧ w.frozen? ⟨b, o + i * 3 + j, none⟩ = false := Nst.at_ h hi
theorem eqNorm_same (w : World) (M H L M' H' L' : Nat → Prop) (v u : Value) (x : NormM) (hv : NormV w M H L v x) (hu : NormV w M' H' L' u x) :
    Calls Try.prog 84 #[v, u] w fun e w' => e = .returned (.bool true) ∧ Up w w' := by
  obtain ⟨A, c, rfl, h0, h1, h2, h3⟩ := hv
  obtain ⟨B, d, rfl, g0, g1, g2, g3⟩ := hu
  have U0 := Lib.hid (show Up w ((w.alloc (.cells #[.int .i64 x.n, .int .i64 x.p, .slice A x.fs.length c] 100)).alloc (.cells #[.int .i64 x.n, .int .i64 x.p, .slice B x.fs.length d] 100)) from (by repeat (first | exact Chg.refl _ _ | apply Chg.drew | apply Chg.drewN | refine Chg.alloc ?_ _)))
  have H0 := Lib.hid (h0.up U0.out)
  have G0 := Lib.hid (g0.up U0.out)
  clear h0 h1 h2 h3 g0 g1 g2 g3
  have e0 : (x.n != x.n) = false := by simp
  have e1 : (x.p != x.p) = false := by simp
  have q0 := Chg.cell ((Chg.refl Nowhere (w.alloc (.cells #[.int .i64 x.n, .int .i64 x.p, .slice A x.fs.length c] 100))).alloc (.cells #[.int .i64 x.n, .int .i64 x.p, .slice B x.fs.length d] 100)) (show (w.alloc (.cells #[.int .i64 x.n, .int .i64 x.p, .slice A x.fs.length c] 100)).cell? ⟨w.heap.size, 0, none⟩ = some (.int .i64 x.n) from cell_new _ _ _ _) id
  have q1 := Chg.cell ((Chg.refl Nowhere (w.alloc (.cells #[.int .i64 x.n, .int .i64 x.p, .slice A x.fs.length c] 100))).alloc (.cells #[.int .i64 x.n, .int .i64 x.p, .slice B x.fs.length d] 100)) (show (w.alloc (.cells #[.int .i64 x.n, .int .i64 x.p, .slice A x.fs.length c] 100)).cell? ⟨w.heap.size, 1, none⟩ = some (.int .i64 x.p) from cell_new _ _ _ _) id
  have q2 := Chg.cell ((Chg.refl Nowhere (w.alloc (.cells #[.int .i64 x.n, .int .i64 x.p, .slice A x.fs.length c] 100))).alloc (.cells #[.int .i64 x.n, .int .i64 x.p, .slice B x.fs.length d] 100)) (show (w.alloc (.cells #[.int .i64 x.n, .int .i64 x.p, .slice A x.fs.length c] 100)).cell? ⟨w.heap.size, 2, none⟩ = some (.slice A x.fs.length c) from cell_new _ _ _ _) id
  have p0 := (show ((w.alloc (.cells #[.int .i64 x.n, .int .i64 x.p, .slice A x.fs.length c] 100)).alloc (.cells #[.int .i64 x.n, .int .i64 x.p, .slice B x.fs.length d] 100)).cell? ⟨w.heap.size + 1, 0, none⟩ = some (.int .i64 x.n) from (cellF_at (by simp) rfl).1)
  have p1 := (show ((w.alloc (.cells #[.int .i64 x.n, .int .i64 x.p, .slice A x.fs.length c] 100)).alloc (.cells #[.int .i64 x.n, .int .i64 x.p, .slice B x.fs.length d] 100)).cell? ⟨w.heap.size + 1, 1, none⟩ = some (.int .i64 x.p) from (cellF_at (by simp) rfl).1)
  have p2 := (show ((w.alloc (.cells #[.int .i64 x.n, .int .i64 x.p, .slice A x.fs.length c] 100)).alloc (.cells #[.int .i64 x.n, .int .i64 x.p, .slice B x.fs.length d] 100)).cell? ⟨w.heap.size + 1, 2, none⟩ = some (.slice B x.fs.length d) from (cellF_at (by simp) rfl).1)
  go_enter Try.func84, Try.ntmps84
  go_wp2_with fail
  refine (eqIntSSV_same _ M H L M' H' L' _ _ x.fs (H0.out.up (by repeat (first | exact Chg.refl _ _ | apply Chg.drew | apply Chg.drewN | refine Chg.alloc ?_ _))) (G0.out.up (by repeat (first | exact Chg.refl _ _ | apply Chg.drew | apply Chg.drewN | refine Chg.alloc ?_ _)))).mono ?_
  rintro e w1 ⟨rfl, g1⟩
  have GX := Lib.hid (Chg.trans (by repeat (first | exact Chg.refl _ _ | apply Chg.drew | apply Chg.drewN | refine Chg.alloc ?_ _)) g1)
  clear g1
  have U1 := Lib.hid (Chg.trans U0.out GX.out)
  clear U0
  have hh := cc6 GX.out q0 p0 q1 p1 q2 p2
  obtain ⟨q0, p0, q1, p1, q2, p2⟩ := hh
  clear GX
  go_wp2
  go_ret
  exact ⟨rfl, Chg.trans U1.out (by repeat (first | exact Chg.refl _ _ | apply Chg.drew | apply Chg.drewN | refine Chg.alloc ?_ _))⟩
theorem eqNormSV_same (w : World) (M H L M' H' L' : Nat → Prop) (v u : Value) (xs : List (NormM)) (h : NormSV w M H L v xs) (h2 : NormSV w M' H' L' u xs) :
    Calls Try.prog 47 #[v, u] w fun e w' => e = .returned (.bool true) ∧ Up w w' := by
  obtain ⟨A, c, rfl, hlc, hcm, -⟩ := h.shape
  obtain ⟨A2, c2, rfl, hlc2, hcm2, -⟩ := h2.shape
  have H := Lib.hid h
  have H2 := Lib.hid h2
  clear h h2
  go_enter Try.func47, Try.ntmps47
  go_wp2
  go_loopw [5] (fun i wr => ∃ (j : Nat), j ≤ xs.length ∧ i = .int .i64 j ∧ Hid (Up w wr)) (fun i _ => xs.length - (intOf i).toNat)
  case atStart => exact ⟨0, by omega, rfl, Chg.refl _ _⟩
  case round =>
    obtain ⟨j, hj, rfl, hu⟩ := hrel
    by_cases hlt : j < xs.length
    · obtain ⟨b3, o3, c3', vs3, he3, -, -, -, hE3, hc3⟩ := (H.out.up hu.out).at_ hlt
      obtain ⟨rfl, rfl⟩ : A = some ⟨b3, o3, none⟩ ∧ c = c3' := by simpa using he3
      obtain ⟨A3, k3, rfl, hv3⟩ := NormE.val hE3
      have f0 := (hc3 0 _ rfl).1
      have f1 := (hc3 1 _ rfl).1
      have f2 := (hc3 2 _ rfl).1
      rw [Nat.add_zero] at f0
      have HV3 := Lib.hid hv3
      clear hc3 hv3 he3
      obtain ⟨b5, o5, c5', vs5, he5, -, -, -, hE5, hc5⟩ := (H2.out.up hu.out).at_ hlt
      obtain ⟨rfl, rfl⟩ : A2 = some ⟨b5, o5, none⟩ ∧ c2 = c5' := by simpa using he5
      obtain ⟨A5, k5, rfl, hv5⟩ := NormE.val hE5
      have e0 := (hc5 0 _ rfl).1
      have e1 := (hc5 1 _ rfl).1
      have e2 := (hc5 2 _ rfl).1
      rw [Nat.add_zero] at e0
      have HV5 := Lib.hid hv5
      clear hc5 hv5 he5
      go_wp2
      have qf0 := up_cell f0
      have qf1 := up_cell f1
      have qf2 := up_cell f2
      have qe0 := up_cell e0
      have qe1 := up_cell e1
      have qe2 := up_cell e2
      clear f0 f1 f2 e0 e1 e2
      refine wp_region_up (by kernel_rfl) (by kernel_rfl) ?_
      repeat (go_big_quiet_step (first | (go_at_call 84; with_reducible exact calls_up (eqNorm_same _ _ _ _ _ _ _ _ _ _ (HV3.out.up (UpOf.up _)) (HV5.out.up (UpOf.up _))))))
      refine wpQuiet_nil ?_
      rintro _ ⟨u, rfl⟩
      go_wp2
      go_roundw
      case rel => exact ⟨j + 1, by omega, by go_num, Lib.hid (Chg.trans hu.out u.up)⟩
      case measure => first | (simp [intOf]; done) | (simp [intOf]; omega)
    · obtain rfl : j = xs.length := by omega
      go_wp2
      go_ret
      exact ⟨rfl, hu.out⟩
end Go.Proofs.Ytplabnjdhkmmkaa
end
section
set_option linter.unusedSimpArgs false
set_option linter.unusedVariables false
set_option maxRecDepth 100000
set_option maxHeartbeats 2000000
namespace Go.Proofs.Ytplabnjdhkmmkaa
open Go.ChangeShapes Go.WideShapes Go.ChangeAt Go.RowKit
structure EvM where
  kind : Int
  place : Int
  count : Int
  bed : Int
  car : Int
  dir : Int
def EvM.cells (x : EvM) : List Value := [.int .i64 x.kind, .int .i64 x.place, .int .i64 x.count, .int .i64 x.bed, .int .i64 x.car, .int .i64 x.dir]
def EvM.ok (x : EvM) : Prop := I64 x.kind ∧ I64 x.place ∧ I64 x.count ∧ I64 x.bed ∧ I64 x.car ∧ I64 x.dir
theorem EvM.cells_length (x : EvM) : x.cells.length = 6 := rfl
abbrev EvM.val (x : EvM) : Value := .agg #[.int .i64 x.kind, .int .i64 x.place, .int .i64 x.count, .int .i64 x.bed, .int .i64 x.car, .int .i64 x.dir]
/-- a slice that reads as the list xs -/
def Evs (w : World) (S : Nat → Prop) (v : Value) (xs : List EvM) : Prop := Raw w S 6 v xs.length (xs.flatMap EvM.cells) ∧ ∀ x ∈ xs, x.ok
section
variable {S T : Nat → Prop} {w w' : World} {v : Value} {xs : List EvM}
theorem Evs.keep (h : Evs w S v xs) (g : Chg T w w') (hd : ∀ b, b < w.heap.size → S b → ¬ T b) : Evs w' S v xs := ⟨h.1.keep g hd, h.2⟩
theorem Evs.up (h : Evs w S v xs) (g : Up w w') : Evs w' S v xs := ⟨h.1.up g, h.2⟩
theorem Evs.mono (h : Evs w S v xs) (hs : ∀ b, b < w.heap.size → S b → T b) : Evs w T v xs := ⟨h.1.mono hs, h.2⟩
theorem Evs.shape (h : Evs w S v xs) : ∃ A c, v = .slice A xs.length c ∧ xs.length ≤ c ∧ c ≤ 9223372036854775807 ∧ (A = none → c = 0) := h.1.shape
theorem Evs.nil (w : World) (S : Nat → Prop) (c : Nat) (A : Option Addr) (hc : c ≤ 9223372036854775807) (hA : A = none → c = 0 := by simp) : Evs w S (.slice A 0 c) [] := ⟨Raw.nil w S 6 c A hc hA, by simp⟩
theorem Evs.at_ (h : Evs w S v xs) {i : Nat} (hi : i < xs.length) : ∃ b o c, v = .slice (some ⟨b, o, none⟩) xs.length c ∧ S b ∧ b < w.heap.size ∧
    ∀ j u, (xs[i].cells)[j]? = some u → w.cell? ⟨b, o + i * 6 + j, none⟩ = some u ∧ w.frozen? ⟨b, o + i * 6 + j, none⟩ = false := Raw.at_ EvM.cells_length h.1 hi
end
theorem eqEvent_same (w : World) (x : EvM) : Calls Try.prog 49 #[x.val, x.val] w fun e w' => e = .returned (.bool true) ∧ Up w w' := by
  go_enter Try.func49, Try.ntmps49
  go_wp2
  go_ret
  exact ⟨rfl, by repeat (first | exact Chg.refl _ _ | apply Chg.drew | apply Chg.drewN | refine Chg.alloc ?_ _)⟩
theorem eqEvs (w : World) (S T : Nat → Prop) (v u : Value) (xs : List EvM) (h : Evs w S v xs) (h2 : Evs w T u xs) :
    Calls Try.prog 20 #[v, u] w fun e w' => e = .returned (.bool true) ∧ Up w w' := by
  obtain ⟨A, c, rfl, hlc, hcm, -⟩ := h.shape
  obtain ⟨A2, c2, rfl, hlc2, hcm2, -⟩ := h2.shape
  have hz : ((xs.length : Int) != xs.length) = false := by simp
  have H := Lib.hid h
  have H2 := Lib.hid h2
  clear h h2
  go_enter Try.func20, Try.ntmps20
  go_wp2
  go_loopw [5] (fun i wr => ∃ j : Nat, j ≤ xs.length ∧ i = .int .i64 j ∧ Hid (Up w wr)) (fun i _ => xs.length - (intOf i).toNat)
  case atStart => exact ⟨0, by omega, rfl, Chg.refl _ _⟩
  case round =>
    obtain ⟨j, hj, rfl, hg⟩ := hrel
    by_cases hlt : j < xs.length
    · obtain ⟨b, o, c', he, -, -, hc⟩ := (H.out.up hg.out).at_ hlt
      obtain ⟨b2, o2, c2', he2, -, -, hc2⟩ := (H2.out.up hg.out).at_ hlt
      obtain ⟨rfl, rfl⟩ : A = some ⟨b, o, none⟩ ∧ c = c' := by simpa using he
      obtain ⟨rfl, rfl⟩ : A2 = some ⟨b2, o2, none⟩ ∧ c2 = c2' := by simpa using he2
      have f0 := (hc 0 _ rfl).1
      have f1 := (hc 1 _ rfl).1
      have f2 := (hc 2 _ rfl).1
      have f3 := (hc 3 _ rfl).1
      have f4 := (hc 4 _ rfl).1
      have f5 := (hc 5 _ rfl).1
      have g0 := (hc2 0 _ rfl).1
      have g1 := (hc2 1 _ rfl).1
      have g2 := (hc2 2 _ rfl).1
      have g3 := (hc2 3 _ rfl).1
      have g4 := (hc2 4 _ rfl).1
      have g5 := (hc2 5 _ rfl).1
      rw [Nat.add_zero] at f0 g0
      clear hc hc2 he he2
      go_wp2
      go_still_tail 8, (by kernel_rfl)
      go_wp2_with fail
      refine (eqEvent_same _ xs[j]).mono ?_
      rintro e w1 ⟨rfl, k1⟩
      have K1 := Lib.hid k1
      clear k1
      go_wp2
      go_roundw
      case rel => exact ⟨j + 1, by omega, by go_num, (hg.out.drew).trans K1.out⟩
      case measure => simp [intOf]; omega
    · go_wp2
      go_ret
      exact ⟨rfl, hg.out⟩
def MEvs (w : World) (S : Nat → Prop) (v : Value) (xs : List EvM) (k : Int) : Prop := Raw w S 6 v xs.length (markCells k (xs.length * 6))
theorem MEvs.keep {S T : Nat → Prop} {w w' : World} {v : Value} {xs : List EvM} {k : Int} (h : MEvs w S v xs k) (g : Chg T w w') (hd : ∀ b, b < w.heap.size → S b → ¬ T b) : MEvs w' S v xs k := Raw.keep h g hd
theorem MEvs.up {S : Nat → Prop} {w w' : World} {v : Value} {xs : List EvM} {k : Int} (h : MEvs w S v xs k) (g : Up w w') : MEvs w' S v xs k := Raw.up h g
def cntEvs (xs : List EvM) : Nat := xs.length * 6
theorem rawmarkEventS (w : World) (S : Nat → Prop) (v : Value) (n : Nat) (cs : List Value) (k : Int) (hk : 0 ≤ k) (hb : k + (n * 6 : Nat) ≤ 4611686018427387904)
    (h : Raw w S 6 v n cs) :
    Calls Try.prog 21 #[v, .int .i64 k] w fun e w' => e = .returned (.int .i64 (k + (n * 6 : Nat))) ∧ Chg S w w' ∧ Raw w' S 6 v n (markCells k (n * 6)) := by
  obtain ⟨hl, A, c, rfl, hlc, hcm, hr, hnn⟩ := h
  by_cases hz : 0 < n
  · obtain ⟨b, o, rfl, hS, hbl, hc⟩ := hr hz
    have Hc := Lib.hid hc
    have HS := Lib.hid hS
    have Hl := Lib.hid hl
    clear hr hc hS hl
    go_enter Try.func21, Try.ntmps21
    go_wp2
    go_loopw [1, 5] (fun q i wr => ∃ j : Nat, j ≤ n ∧ i = .int .i64 j ∧ q = .int .i64 (k + 6 * j) ∧ Hid (Chg S w wr) ∧ Hid (Marking wr b o 6 n j k)) (fun _ i _ => n - (intOf i).toNat)
    case atStart => exact ⟨0, by omega, rfl, by simp, Chg.refl _ _, Marking.start k Hl.out Hc.out⟩
    case round =>
      obtain ⟨j, hj, rfl, rfl, hg, hcs⟩ := hrel
      by_cases hlt : j < n
      · obtain ⟨x0, f0, q0⟩ := hcs.out.cell hlt 0 (by omega)
        obtain ⟨x1, f1, q1⟩ := hcs.out.cell hlt 1 (by omega)
        obtain ⟨x2, f2, q2⟩ := hcs.out.cell hlt 2 (by omega)
        obtain ⟨x3, f3, q3⟩ := hcs.out.cell hlt 3 (by omega)
        obtain ⟨x4, f4, q4⟩ := hcs.out.cell hlt 4 (by omega)
        obtain ⟨x5, f5, q5⟩ := hcs.out.cell hlt 5 (by omega)
        rw [Nat.add_zero] at f0 q0
        go_wp2
        go_roundw
        case rel =>
          clear f0 f1 f2 f3 f4 f5 q0 q1 q2 q3 q4 q5
          refine ⟨j + 1, by omega, by go_num, by simp only [Value.int.injEq, true_and]; omega, Chg.setCells HS.out [_, _, _, _, _, _] (o + j * 6) hg.out, Marking.next hcs.out hlt (vs := [_, _, _, _, _, _]) ?_⟩
          simp only [List.range, List.range.loop, List.map_cons, List.map_nil, List.cons.injEq, Value.int.injEq, true_and, and_true]
          omega
        case measure => simp [intOf]; omega
      · obtain rfl : j = n := by omega
        go_wp2
        go_ret
        exact ⟨ret_int (by omega), hg.out, Marking.done hcs.out HS.out (Nat.lt_of_lt_of_le hbl hg.out.size) hlc hcm⟩
  · obtain rfl : n = 0 := by omega
    clear hr hl
    go_enter Try.func21, Try.ntmps21
    go_wp2
    go_loop [1, 5] (fun q i => i = .int .i64 0 ∧ q = .int .i64 k) (fun _ _ => 0)
    case atStart => exact ⟨rfl, rfl⟩
    case round =>
      obtain ⟨rfl, rfl⟩ := hrel
      go_wp2
      go_ret
      exact ⟨by simp, Chg.refl _ _, Raw.nil _ _ _ _ _ hcm hnn⟩
theorem markEvs (w : World) (S : Nat → Prop) (v : Value) (xs : List EvM) (k : Int) (hk : 0 ≤ k) (hb : k + cntEvs xs ≤ 4611686018427387904) (h : Evs w S v xs) :
    Calls Try.prog 21 #[v, .int .i64 k] w fun e w' => e = .returned (.int .i64 (k + cntEvs xs)) ∧ Chg S w w' ∧ MEvs w' S v xs k :=
  rawmarkEventS w S v xs.length _ k hk hb h.1
theorem rawheldEventS (w : World) (S : Nat → Prop) (v : Value) (n : Nat) (k : Int) (hk : 0 ≤ k) (hb : k + (n * 6 : Nat) ≤ 4611686018427387904)
    (h : Raw w S 6 v n (markCells k (n * 6))) :
    Calls Try.prog 87 #[v, .int .i64 k] w fun e w' => e = .returned (.int .i64 (k + (n * 6 : Nat))) ∧ w = w' := by
  obtain ⟨A, c, rfl, hlc, hcm, -⟩ := h.shape
  have H := Lib.hid h
  clear h
  go_enter Try.func87, Try.ntmps87
  go_wp2
  go_loop [1, 5] (fun q i => ∃ j : Nat, j ≤ n ∧ i = .int .i64 j ∧ q = .int .i64 (k + 6 * j)) (fun _ i => n - (intOf i).toNat)
  case atStart => exact ⟨0, by omega, rfl, by simp⟩
  case round =>
    obtain ⟨j, hj, rfl, rfl⟩ := hrel
    by_cases hlt : j < n
    · obtain ⟨b, o, c', he, hc⟩ := H.out.mark hlt
      obtain ⟨rfl, rfl⟩ : A = some ⟨b, o, none⟩ ∧ c = c' := by simpa using he
      have f0 := hc 0 (by omega) (k + 6 * j) (by omega)
      have f1 := hc 1 (by omega) (k + 6 * j + 1) (by omega)
      have f2 := hc 2 (by omega) (k + 6 * j + 1 + 1) (by omega)
      have f3 := hc 3 (by omega) (k + 6 * j + 1 + 1 + 1) (by omega)
      have f4 := hc 4 (by omega) (k + 6 * j + 1 + 1 + 1 + 1) (by omega)
      have f5 := hc 5 (by omega) (k + 6 * j + 1 + 1 + 1 + 1 + 1) (by omega)
      rw [Nat.add_zero] at f0
      clear hc he
      go_wp2
      go_round
      case rel => exact ⟨j + 1, by omega, by go_num, by simp only [Value.int.injEq, true_and]; omega⟩
      case measure => simp [intOf]; omega
    · obtain rfl : j = n := by omega
      go_wp2
      go_ret
      exact ⟨ret_int (by omega), rfl⟩
theorem heldEvs (w : World) (S : Nat → Prop) (v : Value) (xs : List EvM) (k : Int) (hk : 0 ≤ k) (hb : k + cntEvs xs ≤ 4611686018427387904) (h : MEvs w S v xs k) :
    Calls Try.prog 87 #[v, .int .i64 k] w fun e w' => e = .returned (.int .i64 (k + cntEvs xs)) ∧ Up w w' :=
  (rawheldEventS w S v xs.length k hk hb h).mono fun _ _ ⟨he, hw⟩ => ⟨he, hw ▸ Chg.refl _ _⟩
/-- a slice of the call's own, from block base on -/
def OwnEvs (w : World) (base : Nat) (v : Value) (xs : List EvM) : Prop :=
  w.ownsRow base 92 6 v xs.length (xs.flatMap EvM.cells) ∧ ∀ x ∈ xs, x.ok
theorem OwnEvs.nil (w : World) (base : Nat) : OwnEvs w base (.slice none 0 0) [] := ⟨World.ownsRow_nil _ _ _ _, by simp⟩
theorem OwnEvs.made (w : World) (base : Nat) (hb : base ≤ w.heap.size) : OwnEvs (w.alloc (.cells #[] 92)) base (.slice (some ⟨w.heap.size, 0, none⟩) 0 0) [] :=
  ⟨World.ownsRow_made w _ 0 hb (by unfold Go.maxLen; omega) (by simp), by simp⟩
theorem OwnEvs.alloc {w : World} {base : Nat} {v : Value} {xs : List EvM} (h : OwnEvs w base v xs) (o : Obj) : OwnEvs (w.alloc o) base v xs := ⟨h.1.alloc o, h.2⟩
theorem OwnEvs.kept {w w' : World} {base : Nat} {v : Value} {xs : List EvM} {S : Nat → Prop} (h : OwnEvs w base v xs) (k : Chg S w w') (hS : ∀ g, v.ownBlock = some g → ¬ S g) : OwnEvs w' base v xs := by
  refine ⟨⟨h.1.1, ?_⟩, h.2⟩
  rcases h.1.2 with h2 | ⟨g, cap, cur, rfl, hg, hh, r⟩
  · exact Or.inl h2
  · exact Or.inr ⟨g, cap, cur, rfl, hg, (k.block g (Array.getElem?_eq_some_iff.1 hh).1 (hS g rfl)).trans hh, r⟩
theorem OwnEvs.up {w w' : World} {base : Nat} {v : Value} {xs : List EvM} (h : OwnEvs w base v xs) (k : Up w w') : OwnEvs w' base v xs := h.kept k fun _ _ h => h
theorem OwnEvs.rd {w : World} {base : Nat} {v : Value} {xs : List EvM} (h : OwnEvs w base v xs) : Evs w (New base w.heap.size) v xs := ⟨Raw.of_own h.1, h.2⟩
theorem OwnEvs.lt {w : World} {base : Nat} {v : Value} {xs : List EvM} (h : OwnEvs w base v xs) {g : Nat} (hg : v.ownBlock = some g) : base ≤ g ∧ g < w.heap.size := h.1.lt g hg
theorem infoEvs : (Try.prog.info? 92).map (fun i => (i.zero, i.size, i.bytes)) = some (some (EvM.mk 0 0 0 0 0 0).val, 6, 48) := by kernel_rfl
theorem cells_oneEvs (x : EvM) : ∀ u ∈ x.cells, u.oneCell' = true := by
  intro u hu
  simp only [EvM.cells, List.mem_cons, List.not_mem_nil, or_false] at hu
  rcases hu with rfl | rfl | rfl | rfl | rfl | rfl <;> rfl
/-- the same at a step of a region that draws its order -/
theorem step_appendEvs {w : World} {ops : Array Oper} {o : Oper} {a : Act} {K : Act → World → Prop} {Q : Exit → Act → World → Prop} {E : Prop} (hgd : o.guard = none) (s x : Operand)
    (ho : o.op = .call { callee := .builtin .append, args := #[s, x], argTypes := #[40, 40] })
    (base : Nat) (v : Value) (xs : List EvM) (hs : a.eval s = v) (hown : OwnEvs w base v xs)
    (S : Nat → Prop) (u : Value) (ys : List EvM) (hx : a.eval x = u) (hsrc : Evs w S u ys) (hlen : xs.length + ys.length ≤ 1099511627776) (hbase : base ≤ w.heap.size)
    (h : ∀ v' w', OwnEvs w' base v' (xs ++ ys) → w.grownBy w' v.ownBlock → Chg (fun k => base ≤ k) w w' → K (a.put o.dst v') w') :
    if Region.wanted o (yielded ops a.tmps) = true then Oper.wp Try.prog o a w K Q else E := by
  have hw : Region.wanted o (yielded ops a.tmps) = true := by simp [Region.wanted, hgd]
  rw [if_pos hw]
  obtain ⟨i0, hi, hz0, hz1, hz2⟩ := info_parts infoEvs
  obtain ⟨⟨hl, A, c, rfl, hlc, hcm, hr, hnn⟩, hok⟩ := hsrc
  have hok' : ∀ y ∈ xs ++ ys, y.ok := fun y hy => (List.mem_append.1 hy).elim (hown.2 y) (hok y)
  cases A with
  | none =>
    have hy : ys = [] := by
      rcases Nat.eq_zero_or_pos ys.length with h0 | h0
      · exact List.eq_nil_of_length_eq_zero h0
      · obtain ⟨b, oo, h1, _⟩ := hr h0
        cases h1
    subst hy
    obtain rfl := hnn rfl
    have hrun := run_append_owned_none (P := Try.prog) (w := w) base 40 o.type 92 i0 6 Try.underlying40 hi v xs.length _ hown.1
    have hK := h v w (by simpa using hown) (World.grownBy.refl w _) (Chg.refl _ _)
    unfold Oper.wp
    simp [execOp, ho, resolve, invoke, builtin, hs, hx, hrun, Result.andThen]
    exact hK
  | some ad =>
    have hnews : ∀ j q, (ys.flatMap EvM.cells)[j]? = some q → w.cell? (ad.add j) = some q := by
      intro j q hq
      obtain ⟨hj, he⟩ := List.getElem?_eq_some_iff.1 hq
      have hp : 0 < ys.length := by
        rcases Nat.eq_zero_or_pos ys.length with h0 | h0
        · rw [List.eq_nil_of_length_eq_zero h0] at hj; simp at hj
        · exact h0
      obtain ⟨b, oo, h1, _, _, hc⟩ := hr hp
      injection h1 with h1
      subst h1
      have := (hc j hj).1
      rw [he] at this
      rw [← this]
      unfold Addr.add
      by_cases h0 : j = 0 <;> simp [h0]
    refine wp_append_own (P := Try.prog) w s x 40 ho base 92 i0 _ 6 48 Try.underlying40 hi hz0 hz1 hz2 rfl (by decide) v xs.length _ hs hown.1 ad ys.length c (ys.flatMap EvM.cells) hx hl hnews ?_ ?_ ?_ hbase ?_
    · intro q hq
      obtain ⟨y, _, hy⟩ := List.mem_flatMap.1 hq
      exact cells_oneEvs y q hy
    · unfold Go.maxLen; omega
    · omega
    · intro v' w' h2 h3 _
      exact h v' w' ⟨by simpa using h2, hok'⟩ h3 ((Chg.refl _ _).grown h3 fun k hk => .inl (hown.1.lt k hk).1)
end Go.Proofs.Ytplabnjdhkmmkaa
end
section
set_option linter.unusedSimpArgs false
set_option linter.unusedVariables false
set_option maxRecDepth 100000
set_option maxHeartbeats 4000000
namespace Go.Proofs.Ytplabnjdhkmmkaa
open Go.ChangeShapes Go.WideShapes Go.ChangeAt Go.RowKit
theorem szEvs_ok (w : World) (S : Nat → Prop) (v : Value) (xs : List EvM) (k : Int) (hk : 0 ≤ k ∧ k ≤ 1048576) (hl : (xs.length : Int) ≤ k) (h : Evs w S v xs) :
    Calls Try.prog 15 #[v, .int .i64 k] w fun e w' => e = .returned (.int .i64 (k - xs.length)) ∧ w = w' := by
  obtain ⟨A, c, rfl, hlc, hcm, -⟩ := h.shape
  clear h
  have hd : decide (k - (xs.length : Int) < 0) = false := decide_eq_false (by omega)
  go_enter Try.func15, Try.ntmps15
  go_wp2
  go_ret
  exact ⟨rfl, rfl⟩
theorem szEvs_no (w : World) (S : Nat → Prop) (v : Value) (xs : List EvM) (k : Int) (hk : 0 ≤ k ∧ k ≤ 1048576) (hl : k < (xs.length : Int)) (h : Evs w S v xs) :
    Calls Try.prog 15 #[v, .int .i64 k] w fun e w' => e = .returned (.int .i64 (-1)) ∧ w = w' := by
  obtain ⟨A, c, rfl, hlc, hcm, -⟩ := h.shape
  clear h
  have hd : decide (k - (xs.length : Int) < 0) = true := decide_eq_true (by omega)
  go_enter Try.func15, Try.ntmps15
  go_wp2
  go_ret
  exact ⟨rfl, rfl⟩
theorem toEvent_any (w : World) (x : EvM) :
    Calls Try.prog 44 #[x.val] w fun e w' => e = .returned x.val ∧ Up w w' := by
  go_enter Try.func44, Try.ntmps44
  go_wp2
  exact bodyPost_ret (v := x.val) (by simp [results, Try.results44, go_sem]) rfl ⟨rfl, by repeat (first | exact Chg.refl _ _ | refine Chg.alloc ?_ _)⟩
theorem toEvs (w : World) (S : Nat → Prop) (v : Value) (xs : List EvM) (hb : cntEvs xs ≤ 8388608) (h : Evs w S v xs) :
    Calls Try.prog 17 #[v] w fun e w' => ∃ u, e = .returned u ∧ Evs w' (New w.heap.size w'.heap.size) u xs ∧ Up w w' := by
  unfold cntEvs at hb
  obtain ⟨A, c, rfl, hlc, hcm, -⟩ := h.shape
  have H := Lib.hid h
  clear h
  obtain ⟨i0, hi, hz0, hz1, hz2⟩ := info_parts infoEvs
  have hmk : ∀ u : World, (Instr.makeSlice 40 (.int .i64 (xs.length : Int)) (.int .i64 (xs.length : Int))).run Try.prog u =
      .ok (.slice (some ⟨u.heap.size, 0, none⟩) xs.length xs.length) (u.alloc (.cells (madeCells (EvM.mk 0 0 0 0 0 0).cells.toArray (xs.length * 6)) 92)) := fun u => by
    have h := run_make (P := Try.prog) u 40 92 i0 (EvM.mk 0 0 0 0 0 0).val Try.underlying40 hi hz0 .i64 .i64 (xs.length : Int) (xs.length : Int) (by omega) (Int.le_refl _) (by rw [hz2]; omega) (by omega)
    simpa [hz1, Value.cells, EvM.cells] using h
  go_enter Try.func17, Try.ntmps17
  go_wp2
  have Hi := Lib.hid hmk
  clear hmk hi hz0 hz1 hz2
  go_loopw [4] (fun i wr => ∃ j : Nat, j ≤ xs.length ∧ i = .int .i64 j ∧ Hid (Up w wr) ∧ w.heap.size < wr.heap.size ∧
      Hid (Copying wr w.heap.size 6 xs.length j (xs.flatMap EvM.cells))) (fun i _ => xs.length - (intOf i).toNat)
  case atStart => exact ⟨0, by omega, rfl, (Chg.refl _ _).alloc _, by simp, Copying.start _ _ _ _ _ _ (by simp [size_madeCells])⟩
  case round =>
    obtain ⟨j, hj, rfl, hg, hsz, hcs⟩ := hrel
    by_cases hlt : j < xs.length
    · obtain ⟨b, o, c', he, -, hbl, hc⟩ := (H.out.up hg.out).at_ hlt
      obtain ⟨rfl, rfl⟩ : A = some ⟨b, o, none⟩ ∧ c = c' := by simpa using he
      have f0 := (hc 0 _ rfl).1
      have f1 := (hc 1 _ rfl).1
      have f2 := (hc 2 _ rfl).1
      have f3 := (hc 3 _ rfl).1
      have f4 := (hc 4 _ rfl).1
      have f5 := (hc 5 _ rfl).1
      rw [Nat.add_zero] at f0
      clear hc he
      go_wp2_with fail
      refine (toEvent_any _ xs[j]).mono ?_
      rintro e w2 ⟨rfl, g2⟩
      have hcs := Lib.hid (Copying.up hcs.out g2)
      have hg := Lib.hid (Chg.trans hg.out g2)
      have hsz := Nat.lt_of_lt_of_le hsz g2.size
      clear g2
      obtain ⟨u0, c0, q0⟩ := hcs.out.cell hlt 0 (by omega)
      obtain ⟨u1, c1, q1⟩ := hcs.out.cell hlt 1 (by omega)
      obtain ⟨u2, c2, q2⟩ := hcs.out.cell hlt 2 (by omega)
      obtain ⟨u3, c3, q3⟩ := hcs.out.cell hlt 3 (by omega)
      obtain ⟨u4, c4, q4⟩ := hcs.out.cell hlt 4 (by omega)
      obtain ⟨u5, c5, q5⟩ := hcs.out.cell hlt 5 (by omega)
      rw [Nat.add_zero] at c0 q0
      go_wp2
      go_roundw
      case rel =>
        refine ⟨j + 1, by omega, by go_num, Chg.setCellsNew (Nat.le_refl _) xs[j].cells (j * 6) hg.out, ?_, Copying.next hcs.out hlt (vs := xs[j].cells) rfl (fun i hi => ?_)⟩
        · simpa [World.setCell] using hsz
        · rw [flat_get EvM.cells 6 EvM.cells_length xs j hlt i hi]
          exact List.getElem?_eq_getElem hi
      case measure => simp [intOf]; omega
    · obtain rfl : j = xs.length := by omega
      go_wp2
      go_ret
      exact ⟨_, rfl, ⟨Copying.done hcs.out ⟨Nat.le_refl _, hsz⟩ hsz (flat_length EvM.cells 6 EvM.cells_length xs) (by omega), H.out.2⟩, hg.out⟩
end Go.Proofs.Ytplabnjdhkmmkaa
end
section
set_option maxRecDepth 100000
set_option maxHeartbeats 1000000
set_option linter.unusedSimpArgs false
set_option linter.unusedVariables false
namespace Go.Proofs.Ytplabnjdhkmmkaa
open Go.ChangeShapes Go.WideShapes Go.ChangeAt Go.RowKit
def EvsE (L : Nat → Prop) (w : World) (vs : List Value) (x : List EvM) : Prop := ∃ A c, vs = [.slice A x.length c] ∧ Evs w L (.slice A x.length c) x ∧ x.length ≤ c ∧ c ≤ 9223372036854775807
theorem EvsE.val {L : Nat → Prop} {w : World} {vs : List Value} {x : List EvM} (h : EvsE L w vs x) : ∃ A c, vs = [.slice A x.length c] ∧ Evs w L (.slice A x.length c) x ∧ x.length ≤ c ∧ c ≤ 9223372036854775807 := h
theorem EvsE.keep {L T : Nat → Prop} {w w' : World} {vs : List Value} {x : List EvM} (h : EvsE L w vs x) (g : Chg T w w') (hd : ∀ b, b < w.heap.size → L b → ¬ T b) : EvsE L w' vs x := let ⟨A, c, h1, h2, h3⟩ := h; ⟨A, c, h1, h2.keep g hd, h3⟩
theorem EvsE.up {L : Nat → Prop} {w w' : World} {vs : List Value} {x : List EvM} (h : EvsE L w vs x) (g : Up w w') : EvsE L w' vs x := h.keep g fun _ _ _ h => h
theorem EvsE.mono {L T : Nat → Prop} {w : World} {vs : List Value} {x : List EvM} (h : EvsE L w vs x) (hs : ∀ b, b < w.heap.size → L b → T b) : EvsE T w vs x := let ⟨A, c, h1, h2, h3⟩ := h; ⟨A, c, h1, h2.mono hs, h3⟩
def EvSV (w : World) (M H L : Nat → Prop) (v : Value) (xs : List (List EvM)) : Prop := Nst 1 (EvsE L) w H v xs
theorem EvSV.keep {M H L T : Nat → Prop} {w w' : World} {v : Value} {xs : List (List EvM)} (h : EvSV w M H L v xs) (g : Chg T w w') (hd : ∀ b, M b ∨ H b ∨ L b → ¬ T b) : EvSV w' M H L v xs :=
  Nst.keep h (fun _ _ k => EvsE.keep k g (fun b _ h => hd b (.inr (.inr h)))) g (fun b _ h => hd b (.inr (.inl h)))
theorem EvSV.up {M H L : Nat → Prop} {w w' : World} {v : Value} {xs : List (List EvM)} (h : EvSV w M H L v xs) (g : Up w w') : EvSV w' M H L v xs := h.keep g fun _ _ h => h
theorem EvSV.mono {M H L M' H' L' : Nat → Prop} {w : World} {v : Value} {xs : List (List EvM)} (h : EvSV w M H L v xs) (hm : ∀ b, b < w.heap.size → M b → M' b) (hr : ∀ b, b < w.heap.size → H b → H' b) (hl : ∀ b, b < w.heap.size → L b → L' b) : EvSV w M' H' L' v xs :=
  Nst.mono h (fun _ _ k => EvsE.mono k hl) hr
theorem EvSV.shape {M H L : Nat → Prop} {w : World} {v : Value} {xs : List (List EvM)} (h : EvSV w M H L v xs) : ∃ A c, v = .slice A xs.length c ∧ xs.length ≤ c ∧ c ≤ 9223372036854775807 ∧ (A = none → c = 0) := Nst.shape h
theorem EvSV.at_ {M H L : Nat → Prop} {w : World} {v : Value} {xs : List (List EvM)} (h : EvSV w M H L v xs) {i : Nat} (hi : i < xs.length) : ∃ b o c vs, v = .slice (some ⟨b, o, none⟩) xs.length c ∧ H b ∧ b < w.heap.size ∧ vs.length = 1 ∧ EvsE L w vs xs[i] ∧
    ∀ j u, vs[j]? = some u → w.cell? ⟨b, o + i * 1 + j, none⟩ = some u ∧ w.frozen? ⟨b, o + i * 1 + j, none⟩ = false := Nst.at_ h hi
theorem eqEvSV_same (w : World) (M H L M' H' L' : Nat → Prop) (v u : Value) (xs : List (List EvM)) (h : EvSV w M H L v xs) (h2 : EvSV w M' H' L' u xs) :
    Calls Try.prog 48 #[v, u] w fun e w' => e = .returned (.bool true) ∧ Up w w' := by
  obtain ⟨A, c, rfl, hlc, hcm, -⟩ := h.shape
  obtain ⟨A2, c2, rfl, hlc2, hcm2, -⟩ := h2.shape
  have H := Lib.hid h
  have H2 := Lib.hid h2
  clear h h2
  go_enter Try.func48, Try.ntmps48
  go_wp2
  go_loopw [5] (fun i wr => ∃ (j : Nat), j ≤ xs.length ∧ i = .int .i64 j ∧ Hid (Up w wr)) (fun i _ => xs.length - (intOf i).toNat)
  case atStart => exact ⟨0, by omega, rfl, Chg.refl _ _⟩
  case round =>
    obtain ⟨j, hj, rfl, hu⟩ := hrel
    by_cases hlt : j < xs.length
    · obtain ⟨b3, o3, c3', vs3, he3, -, -, -, hE3, hc3⟩ := (H.out.up hu.out).at_ hlt
      obtain ⟨rfl, rfl⟩ : A = some ⟨b3, o3, none⟩ ∧ c = c3' := by simpa using he3
      obtain ⟨A3, k3, rfl, hv3, -⟩ := EvsE.val hE3
      have f0 := (hc3 0 _ rfl).1
      simp only [Nat.mul_one, Nat.add_zero] at f0
      have HV3 := Lib.hid hv3
      clear hc3 hv3 he3
      obtain ⟨b5, o5, c5', vs5, he5, -, -, -, hE5, hc5⟩ := (H2.out.up hu.out).at_ hlt
      obtain ⟨rfl, rfl⟩ : A2 = some ⟨b5, o5, none⟩ ∧ c2 = c5' := by simpa using he5
      obtain ⟨A5, k5, rfl, hv5, -⟩ := EvsE.val hE5
      have e0 := (hc5 0 _ rfl).1
      simp only [Nat.mul_one, Nat.add_zero] at e0
      have HV5 := Lib.hid hv5
      clear hc5 hv5 he5
      go_wp2
      have qf0 := up_cell f0
      have qe0 := up_cell e0
      clear f0 e0
      refine wp_region_up (by kernel_rfl) (by kernel_rfl) ?_
      repeat (go_big_quiet_step (first | (go_at_call 20; with_reducible exact calls_up (eqEvs _ _ _ _ _ _ (HV3.out.up (UpOf.up _)) (HV5.out.up (UpOf.up _))))))
      refine wpQuiet_nil ?_
      rintro _ ⟨u, rfl⟩
      go_wp2
      go_roundw
      case rel => exact ⟨j + 1, by omega, by go_num, Lib.hid (Chg.trans hu.out u.up)⟩
      case measure => first | (simp [intOf]; done) | (simp [intOf]; omega)
    · obtain rfl : j = xs.length := by omega
      go_wp2
      go_ret
      exact ⟨rfl, hu.out⟩
end Go.Proofs.Ytplabnjdhkmmkaa
end
section
set_option maxRecDepth 100000
set_option maxHeartbeats 1000000
set_option linter.unusedSimpArgs false
set_option linter.unusedVariables false
namespace Go.Proofs.Ytplabnjdhkmmkaa
open Go.ChangeShapes Go.WideShapes Go.ChangeAt Go.RowKit
structure ProofM where
  forms : List NormM
  sts : List (List EvM)
def ProofE (M H L : Nat → Prop) (w : World) (vs : List Value) (x : ProofM) : Prop := ∃ A0 c0 A1 c1, vs = [.slice A0 x.forms.length c0, .slice A1 x.sts.length c1] ∧ NormSV w M H L (.slice A0 x.forms.length c0) x.forms ∧ EvSV w M H L (.slice A1 x.sts.length c1) x.sts ∧ (x.forms.length ≤ c0 ∧ c0 ≤ 9223372036854775807) ∧ (x.sts.length ≤ c1 ∧ c1 ≤ 9223372036854775807)
theorem ProofE.keep {M H L T : Nat → Prop} {w w' : World} {vs : List Value} {x : ProofM} (h : ProofE M H L w vs x) (g : Chg T w w') (hd : ∀ b, M b ∨ H b ∨ L b → ¬ T b) : ProofE M H L w' vs x := let ⟨A0, c0, A1, c1, he, h0, h1, h2, h3⟩ := h; ⟨A0, c0, A1, c1, he, h0.keep g hd, h1.keep g hd, h2, h3⟩
theorem ProofE.up {M H L : Nat → Prop} {w w' : World} {vs : List Value} {x : ProofM} (h : ProofE M H L w vs x) (g : Up w w') : ProofE M H L w' vs x := h.keep g fun _ _ h => h
theorem ProofE.mono {M H L M' H' L' : Nat → Prop} {w : World} {vs : List Value} {x : ProofM} (h : ProofE M H L w vs x) (hm : ∀ b, b < w.heap.size → M b → M' b) (hr : ∀ b, b < w.heap.size → H b → H' b) (hl : ∀ b, b < w.heap.size → L b → L' b) : ProofE M' H' L' w vs x := let ⟨A0, c0, A1, c1, he, h0, h1, h2, h3⟩ := h; ⟨A0, c0, A1, c1, he, h0.mono hm hr hl, h1.mono hm hr hl, h2, h3⟩
def ProofV (w : World) (M H L : Nat → Prop) (v : Value) (x : ProofM) : Prop := ∃ A0 c0 A1 c1, v = .agg #[.slice A0 x.forms.length c0, .slice A1 x.sts.length c1] ∧ NormSV w M H L (.slice A0 x.forms.length c0) x.forms ∧ EvSV w M H L (.slice A1 x.sts.length c1) x.sts ∧ (x.forms.length ≤ c0 ∧ c0 ≤ 9223372036854775807) ∧ (x.sts.length ≤ c1 ∧ c1 ≤ 9223372036854775807)
theorem ProofV.keep {M H L T : Nat → Prop} {w w' : World} {v : Value} {x : ProofM} (h : ProofV w M H L v x) (g : Chg T w w') (hd : ∀ b, M b ∨ H b ∨ L b → ¬ T b) : ProofV w' M H L v x := let ⟨A0, c0, A1, c1, he, h0, h1, h2, h3⟩ := h; ⟨A0, c0, A1, c1, he, h0.keep g hd, h1.keep g hd, h2, h3⟩
theorem ProofV.up {M H L : Nat → Prop} {w w' : World} {v : Value} {x : ProofM} (h : ProofV w M H L v x) (g : Up w w') : ProofV w' M H L v x := h.keep g fun _ _ h => h
theorem ProofV.mono {M H L M' H' L' : Nat → Prop} {w : World} {v : Value} {x : ProofM} (h : ProofV w M H L v x) (hm : ∀ b, b < w.heap.size → M b → M' b) (hr : ∀ b, b < w.heap.size → H b → H' b) (hl : ∀ b, b < w.heap.size → L b → L' b) : ProofV w M' H' L' v x := let ⟨A0, c0, A1, c1, he, h0, h1, h2, h3⟩ := h; ⟨A0, c0, A1, c1, he, h0.mono hm hr hl, h1.mono hm hr hl, h2, h3⟩
theorem ProofE.val {M H L : Nat → Prop} {w : World} {vs : List Value} {x : ProofM} (h : ProofE M H L w vs x) : ∃ A0 c0 A1 c1, vs = [.slice A0 x.forms.length c0, .slice A1 x.sts.length c1] ∧ ProofV w M H L (.agg #[.slice A0 x.forms.length c0, .slice A1 x.sts.length c1]) x :=
  let ⟨A0, c0, A1, c1, he, h0, h1, h2, h3⟩ := h; ⟨A0, c0, A1, c1, he, A0, c0, A1, c1, rfl, h0, h1, h2, h3⟩
theorem ProofV.val {M H L : Nat → Prop} {w : World} {v : Value} {x : ProofM} (h : ProofV w M H L v x) : ∃ A0 c0 A1 c1, v = .agg #[.slice A0 x.forms.length c0, .slice A1 x.sts.length c1] ∧ ProofV w M H L (.agg #[.slice A0 x.forms.length c0, .slice A1 x.sts.length c1]) x := by
  obtain ⟨A0, c0, A1, c1, rfl, h0, h1, h2, h3⟩ := h
  exact ⟨_, _, _, _, rfl, _, _, _, _, rfl, h0, h1, h2, h3⟩
theorem ProofV.parts {M H L : Nat → Prop} {w : World} {v : Value} {x : ProofM} (h : ProofV w M H L v x) : ∃ A0 c0 A1 c1, v = .agg #[.slice A0 x.forms.length c0, .slice A1 x.sts.length c1] ∧ NormSV w M H L (.slice A0 x.forms.length c0) x.forms ∧ EvSV w M H L (.slice A1 x.sts.length c1) x.sts ∧ (x.forms.length ≤ c0 ∧ c0 ≤ 9223372036854775807) ∧ (x.sts.length ≤ c1 ∧ c1 ≤ 9223372036854775807) := h
theorem ProofE.mk {M H L : Nat → Prop} {w : World} {x : ProofM} {B0 B1 : Option Addr} {d0 d1 : Nat} (h : ProofV w M H L (.agg #[.slice B0 x.forms.length d0, .slice B1 x.sts.length d1]) x) : ProofE M H L w [.slice B0 x.forms.length d0, .slice B1 x.sts.length d1] x := by
  obtain ⟨A0, c0, A1, c1, he, h0, h1, h2, h3⟩ := h
  simp only [Value.agg.injEq, Array.mk.injEq, List.cons.injEq, Value.slice.injEq, true_and, and_true] at he
  obtain ⟨⟨rfl, rfl⟩, ⟨rfl, rfl⟩⟩ := he
  exact ⟨_, _, _, _, rfl, h0, h1, h2, h3⟩
theorem eqProof_same (w : World) (M H L M' H' L' : Nat → Prop) (v u : Value) (x : ProofM) (hv : ProofV w M H L v x) (hu : ProofV w M' H' L' u x) :
    Calls Try.prog 19 #[v, u] w fun e w' => e = .returned (.bool true) ∧ Up w w' := by
  obtain ⟨A0, c0, A1, c1, rfl, h0, h1, h2, h3⟩ := hv
  obtain ⟨B0, d0, B1, d1, rfl, g0, g1, g2, g3⟩ := hu
  have U0 := Lib.hid (show Up w ((w.alloc (.cells #[.slice A0 x.forms.length c0, .slice A1 x.sts.length c1] 57)).alloc (.cells #[.slice B0 x.forms.length d0, .slice B1 x.sts.length d1] 57)) from (by repeat (first | exact Chg.refl _ _ | apply Chg.drew | apply Chg.drewN | refine Chg.alloc ?_ _)))
  have H0 := Lib.hid (h0.up U0.out)
  have G0 := Lib.hid (g0.up U0.out)
  have H1 := Lib.hid (h1.up U0.out)
  have G1 := Lib.hid (g1.up U0.out)
  clear h0 h1 h2 h3 g0 g1 g2 g3
  have q0 := Chg.cell ((Chg.refl Nowhere (w.alloc (.cells #[.slice A0 x.forms.length c0, .slice A1 x.sts.length c1] 57))).alloc (.cells #[.slice B0 x.forms.length d0, .slice B1 x.sts.length d1] 57)) (show (w.alloc (.cells #[.slice A0 x.forms.length c0, .slice A1 x.sts.length c1] 57)).cell? ⟨w.heap.size, 0, none⟩ = some (.slice A0 x.forms.length c0) from cell_new _ _ _ _) id
  have q1 := Chg.cell ((Chg.refl Nowhere (w.alloc (.cells #[.slice A0 x.forms.length c0, .slice A1 x.sts.length c1] 57))).alloc (.cells #[.slice B0 x.forms.length d0, .slice B1 x.sts.length d1] 57)) (show (w.alloc (.cells #[.slice A0 x.forms.length c0, .slice A1 x.sts.length c1] 57)).cell? ⟨w.heap.size, 1, none⟩ = some (.slice A1 x.sts.length c1) from cell_new _ _ _ _) id
  have p0 := (show ((w.alloc (.cells #[.slice A0 x.forms.length c0, .slice A1 x.sts.length c1] 57)).alloc (.cells #[.slice B0 x.forms.length d0, .slice B1 x.sts.length d1] 57)).cell? ⟨w.heap.size + 1, 0, none⟩ = some (.slice B0 x.forms.length d0) from (cellF_at (by simp) rfl).1)
  have p1 := (show ((w.alloc (.cells #[.slice A0 x.forms.length c0, .slice A1 x.sts.length c1] 57)).alloc (.cells #[.slice B0 x.forms.length d0, .slice B1 x.sts.length d1] 57)).cell? ⟨w.heap.size + 1, 1, none⟩ = some (.slice B1 x.sts.length d1) from (cellF_at (by simp) rfl).1)
  go_enter Try.func19, Try.ntmps19
  go_wp2_with fail
  refine (eqNormSV_same _ M H L M' H' L' _ _ x.forms (H0.out.up (by repeat (first | exact Chg.refl _ _ | apply Chg.drew | apply Chg.drewN | refine Chg.alloc ?_ _))) (G0.out.up (by repeat (first | exact Chg.refl _ _ | apply Chg.drew | apply Chg.drewN | refine Chg.alloc ?_ _)))).mono ?_
  rintro e w1 ⟨rfl, g1⟩
  have GX := Lib.hid (Chg.trans (by repeat (first | exact Chg.refl _ _ | apply Chg.drew | apply Chg.drewN | refine Chg.alloc ?_ _)) g1)
  clear g1
  have U1 := Lib.hid (Chg.trans U0.out GX.out)
  clear U0
  have H1 := Lib.hid (H1.out.up GX.out)
  have G1 := Lib.hid (G1.out.up GX.out)
  have hh := cc4 GX.out q0 p0 q1 p1
  obtain ⟨q0, p0, q1, p1⟩ := hh
  clear GX
  go_wp2_with fail
  refine (eqEvSV_same _ M H L M' H' L' _ _ x.sts (H1.out.up (by repeat (first | exact Chg.refl _ _ | apply Chg.drew | apply Chg.drewN | refine Chg.alloc ?_ _))) (G1.out.up (by repeat (first | exact Chg.refl _ _ | apply Chg.drew | apply Chg.drewN | refine Chg.alloc ?_ _)))).mono ?_
  rintro e w2 ⟨rfl, g1⟩
  have GX := Lib.hid (Chg.trans (by repeat (first | exact Chg.refl _ _ | apply Chg.drew | apply Chg.drewN | refine Chg.alloc ?_ _)) g1)
  clear g1
  have U2 := Lib.hid (Chg.trans U1.out GX.out)
  clear U1
  have hh := cc4 GX.out q0 p0 q1 p1
  obtain ⟨q0, p0, q1, p1⟩ := hh
  clear GX
  go_wp2
  go_ret
  exact ⟨rfl, Chg.trans U2.out (by repeat (first | exact Chg.refl _ _ | apply Chg.drew | apply Chg.drewN | refine Chg.alloc ?_ _))⟩
end Go.Proofs.Ytplabnjdhkmmkaa
end
section
set_option linter.unusedSimpArgs false
set_option linter.unusedVariables false
namespace Go.Proofs.Ytplabnjdhkmmkaa
theorem evM_eq {a b : EvM} : a = b ↔ a.kind = b.kind ∧ a.place = b.place ∧ a.count = b.count ∧ a.bed = b.bed ∧ a.car = b.car ∧ a.dir = b.dir := by
  cases a; cases b; simp
instance : DecidableEq EvM := fun _ _ => decidable_of_iff _ evM_eq.symm
theorem normM_eq {a b : NormM} : a = b ↔ a.n = b.n ∧ a.p = b.p ∧ a.fs = b.fs := by
  cases a; cases b; simp
instance : DecidableEq NormM := fun _ _ => decidable_of_iff _ normM_eq.symm
theorem proofM_eq {a b : ProofM} : a = b ↔ a.forms = b.forms ∧ a.sts = b.sts := by
  cases a; cases b; simp
instance : DecidableEq ProofM := fun _ _ => decidable_of_iff _ proofM_eq.symm
section
variable {α : Type}
def AgreeTo (xs ys : List α) (j : Nat) : Prop := ∀ i (h : i < xs.length) (h' : i < ys.length), i < j → xs[i] = ys[i]
theorem AgreeTo.start (xs ys : List α) : AgreeTo xs ys 0 := fun _ _ _ h => absurd h (Nat.not_lt_zero _)
theorem AgreeTo.next {xs ys : List α} {j : Nat} (h : AgreeTo xs ys j) (h1 : j < xs.length) (h2 : j < ys.length) (he : xs[j] = ys[j]) : AgreeTo xs ys (j + 1) := fun i a b c => by
  by_cases e : i = j
  · subst e
    exact he
  · exact h i a b (by omega)
theorem AgreeTo.all {xs ys : List α} (h : AgreeTo xs ys xs.length) (hl : xs.length = ys.length) : xs = ys :=
  List.ext_getElem hl fun i a b => h i a b a
theorem differ_at {xs ys : List α} {j : Nat} (h1 : j < xs.length) (h2 : j < ys.length) (he : xs[j] ≠ ys[j]) : xs ≠ ys := fun h => he (by subst h; rfl)
variable [DecidableEq α]
/-- whether two lists are the same -/
def sameL (xs ys : List α) : Bool := decide (xs = ys)
theorem sameL_all {xs ys : List α} (h : AgreeTo xs ys xs.length) (hl : xs.length = ys.length) : sameL xs ys = true := decide_eq_true (h.all hl)
theorem sameL_at {xs ys : List α} {j : Nat} (h1 : j < xs.length) (h2 : j < ys.length) (he : xs[j] ≠ ys[j]) : sameL xs ys = false := decide_eq_false (differ_at h1 h2 he)
theorem sameL_len {xs ys : List α} (h : xs.length ≠ ys.length) : sameL xs ys = false := decide_eq_false fun e => h (by rw [e])
end
def sameN (a b : NormM) : Bool := decide (a = b)
theorem sameN_and (a b : NormM) : sameN a b = (decide (a.n = b.n) && (decide (a.p = b.p) && sameL a.fs b.fs)) := by
  unfold sameN sameL
  rw [Bool.eq_iff_iff, decide_eq_true_eq, normM_eq, Bool.and_eq_true, Bool.and_eq_true]
  simp
end Go.Proofs.Ytplabnjdhkmmkaa
end
section
set_option linter.unusedSimpArgs false
set_option linter.unusedVariables false
namespace Go.Proofs.Ytplabnjdhkmmkaa
open Go.ChangeShapes Go.WideShapes Go.ChangeAt Go.RowKit
/-- a slice of numbers of which one is set -/
theorem Ints.set {w : World} {S : Nat → Prop} {b o c : Nat} {xs : List Int} (h : Ints w S (.slice (some ⟨b, o, none⟩) xs.length c) xs) {k : Nat} (hk : k < xs.length) {x : Int} (hx : I64 x) : Ints (w.setCell ⟨b, o + k, none⟩ (.int .i64 x)) S (.slice (some ⟨b, o, none⟩) xs.length c) (xs.set k x) := by
  obtain ⟨A, c', hv, h1, h2, h3, h4, h5⟩ := h
  obtain ⟨rfl, rfl⟩ : some ⟨b, o, none⟩ = A ∧ c = c' := by simpa using hv
  obtain ⟨b', o', ha, hs, hb, hc⟩ := h4 (by omega)
  obtain ⟨rfl, rfl⟩ : b = b' ∧ o = o' := by simpa using ha
  refine ⟨_, c, by rw [List.length_set], by rw [List.length_set]; exact h1, h2, fun y hy => ?_, fun _ => ⟨b, o, rfl, hs, by simpa [World.setCell] using hb, fun t ht => ?_⟩, by simp⟩
  · rcases List.mem_or_eq_of_mem_set hy with h | h
    · exact h3 y h
    · rw [h]; exact hx
  · rw [List.length_set] at ht
    obtain ⟨c1, c2⟩ := hc t ht
    by_cases e : t = k
    · subst e
      rw [List.getElem_set_self]
      exact ⟨World.cell?_setCell_same _ _ _ c1, by simpa using c2⟩
    · rw [World.cell?_setCell_other _ _ _ _ (fun h => e (by injection h with _ h _; omega)), List.getElem_set_ne (fun h => e h.symm)]
      exact ⟨c1, by simpa using c2⟩
theorem ints_ixf {w : World} {S : Nat → Prop} {A : Option Addr} {c : Nat} {xs : List Int} (h : Ints w S (.slice A xs.length c) xs) {i : Nat} (hi : i < xs.length) :
    ∃ b o, A = some ⟨b, o, none⟩ ∧ b < w.heap.size ∧ ∀ j, j < xs.length → w.cell? ⟨b, o + j, none⟩ = some (.int .i64 (ix xs j)) ∧ w.frozen? ⟨b, o + j, none⟩ = false := by
  obtain ⟨A', c', he, _, _, _, hr, _⟩ := h
  obtain ⟨rfl, rfl⟩ : A = A' ∧ c = c' := by simpa using he
  obtain ⟨b, o, hA, _, hbl, hc⟩ := hr (by omega)
  exact ⟨b, o, hA, hbl, fun j hj => by rw [ix_eq hj]; exact hc j hj⟩
theorem Ints.zeros (w : World) (S : Nat → Prop) (n : Nat) (e : TypeId) (hn : n ≤ 9223372036854775807) (hS : S w.heap.size) : Ints (w.alloc (.cells (madeCells #[.int .i64 0] n) e)) S (.slice (some ⟨w.heap.size, 0, none⟩) n n) (List.replicate n 0) :=
  ⟨_, n, by rw [List.length_replicate], by rw [List.length_replicate]; exact Nat.le_refl _, hn, fun x hx => by rw [(List.mem_replicate.1 hx).2]; unfold I64; omega, fun _ => ⟨w.heap.size, 0, rfl, hS, by simp, fun t ht => by
    rw [List.length_replicate] at ht
    rw [Nat.zero_add, cell_new, madeInts_get _ _ ht, List.getElem_replicate]
    exact ⟨rfl, frozen_new _ _ _ _⟩⟩, by simp⟩
/-- 0, 1, .. -/
def identTo (n : Nat) : Nat → List Int
  | 0 => List.replicate n 0
  | j + 1 => (identTo n j).set j j
theorem identTo_length (n : Nat) : ∀ j, (identTo n j).length = n
  | 0 => List.length_replicate
  | j + 1 => by rw [identTo, List.length_set, identTo_length n j]
theorem identTo_get (n : Nat) : ∀ (j t : Nat) (h : t < (identTo n j).length), (identTo n j)[t] = if t < j then (t : Int) else 0
  | 0, t, h => by simp [identTo]
  | j + 1, t, h => by
    have hn : t < (identTo n j).length := by rw [identTo_length] at *; exact h
    simp only [identTo]
    rw [List.getElem_set]
    by_cases e : j = t
    · subst e
      rw [if_pos rfl, if_pos (by omega)]
    · rw [if_neg e, identTo_get n j t hn]
      by_cases h2 : t < j
      · rw [if_pos h2, if_pos (by omega)]
      · rw [if_neg h2, if_neg (by omega)]
def identM (n : Nat) : List Int := (List.range n).map fun i : Nat => (i : Int)
theorem identM_length (n : Nat) : (identM n).length = n := by simp [identM]
theorem identTo_all (n : Nat) : identTo n n = identM n := by
  refine List.ext_getElem (by rw [identTo_length, identM_length]) fun t h1 h2 => ?_
  rw [identTo_get, identTo_length] at *
  rw [if_pos h1]
  simp [identM]
theorem identM_succ (n : Nat) : identM (n + 1) = identM n ++ [(n : Int)] := by simp [identM, List.range_succ]
/-- n - 1, n - 2, .., the first k of them -/
def fallTo (n k : Nat) : List Int := (List.range k).map fun i : Nat => (n : Int) - 1 - i
theorem fallTo_succ (n k : Nat) : fallTo n (k + 1) = fallTo n k ++ [(n : Int) - 1 - k] := by simp [fallTo, List.range_succ]
theorem fallTo_length (n k : Nat) : (fallTo n k).length = k := by simp [fallTo]
theorem fallTo_all (n : Nat) : fallTo n n = (identM n).reverse := by
  refine List.ext_getElem (by simp [fallTo, identM]) fun t h1 h2 => ?_
  rw [fallTo_length] at h1
  rw [List.getElem_reverse]
  simp [fallTo, identM]
  omega
def halfM (n : Nat) : List Int := (identM n).reverse
/-- whether a list is a permutation of few things -/
def permB (p : List Int) : Bool := decide (p.length ≤ 12) && decide (∀ x ∈ p, 0 ≤ x ∧ x < p.length) && decide p.Nodup
theorem permB_len {p : List Int} (h : permB p = true) : p.length ≤ 12 := by
  unfold permB at h
  simp only [Bool.and_eq_true, decide_eq_true_eq] at h
  exact h.1.1
theorem permB_in {p : List Int} (h : permB p = true) : ∀ x ∈ p, 0 ≤ x ∧ x < p.length := by
  unfold permB at h
  simp only [Bool.and_eq_true, decide_eq_true_eq] at h
  exact h.1.2
theorem permB_nodup {p : List Int} (h : permB p = true) : p.Nodup := by
  unfold permB at h
  simp only [Bool.and_eq_true, decide_eq_true_eq] at h
  exact h.2
theorem permB_ix {p : List Int} (h : permB p = true) {j : Nat} (hj : j < p.length) : 0 ≤ ix p j ∧ ix p j < p.length := by
  rw [ix_eq hj]
  exact permB_in h _ (List.getElem_mem hj)
/-- the first j are fine -/
def permTo (p : List Int) (j : Nat) : Prop := ∀ i (hi : i < p.length), i < j → (0 ≤ p[i] ∧ p[i] < p.length) ∧ p[i] ∉ p.take i
theorem permTo.start (p : List Int) : permTo p 0 := fun _ _ h => absurd h (Nat.not_lt_zero _)
theorem permTo.next {p : List Int} {j : Nat} (h : permTo p j) (hj : j < p.length) (h1 : 0 ≤ p[j] ∧ p[j] < p.length) (h2 : p[j] ∉ p.take j) : permTo p (j + 1) := fun i hi hij => by
  by_cases e : i = j
  · subst e
    exact ⟨h1, h2⟩
  · exact h i hi (by omega)
theorem permTo.all {p : List Int} (h : permTo p p.length) (hl : p.length ≤ 12) : permB p = true := by
  unfold permB
  simp only [Bool.and_eq_true, decide_eq_true_eq]
  refine ⟨⟨hl, fun x hx => ?_⟩, ?_⟩
  · obtain ⟨i, hi, rfl⟩ := List.getElem_of_mem hx
    exact (h i hi hi).1
  · rw [List.nodup_iff_pairwise_ne, List.pairwise_iff_getElem]
    intro i j hi hj hij he
    refine (h j hj hj).2 ?_
    rw [← he, List.mem_take_iff_getElem]
    exact ⟨i, by omega, rfl⟩
/-- the places whose pair is an inversion, among the first j -/
def descTo (p : List Int) : Nat → List Int
  | 0 => []
  | j + 1 => if ix p (j + 1) < ix p j then descTo p j ++ [(j : Int)] else descTo p j
def descM (p : List Int) : List Int := descTo p (p.length - 1)
theorem descTo_bd (p : List Int) : ∀ j, ∀ x ∈ descTo p j, 0 ≤ x ∧ x < j
  | 0 => by simp [descTo]
  | j + 1 => by
    intro x hx
    unfold descTo at hx
    split at hx
    · rcases List.mem_append.1 hx with h | h
      · have := descTo_bd p j x h; omega
      · simp at h; omega
    · have := descTo_bd p j x hx; omega
theorem descTo_length (p : List Int) : ∀ j, (descTo p j).length ≤ j
  | 0 => by simp [descTo]
  | j + 1 => by
    have := descTo_length p j
    unfold descTo
    split
    · simp; omega
    · omega
def startTo (p : List Int) (j : Nat) : List Int := (descTo p j).map (· + 1)
def startM (p : List Int) : List Int := (descM p).map (· + 1)
theorem startTo_succ (p : List Int) (j : Nat) : startTo p (j + 1) = if ix p (j + 1) < ix p j then startTo p j ++ [(j : Int) + 1] else startTo p j := by
  unfold startTo
  rw [descTo]
  split <;> simp
theorem startTo_length (p : List Int) (j : Nat) : (startTo p j).length ≤ j := by unfold startTo; rw [List.length_map]; exact descTo_length p j
/-- the inverse -/
def invTo (p : List Int) : Nat → List Int
  | 0 => List.replicate p.length 0
  | j + 1 => (invTo p j).set (ix p j).toNat j
theorem invTo_length (p : List Int) : ∀ j, (invTo p j).length = p.length
  | 0 => List.length_replicate
  | j + 1 => by rw [invTo, List.length_set, invTo_length p j]
def invM (p : List Int) : List Int := invTo p p.length
/-- the first letter with which q begins and p does not end; 0 -/
def extraM (p q : List Int) : Int := ((startM q).find? fun k => !decide (k ∈ startM (invM p))).getD 0
def extraFrom (p q : List Int) (j : Nat) : Prop := ∀ i (hi : i < (startM q).length), i < j → (startM q)[i] ∈ startM (invM p)
theorem extraFrom.start (p q : List Int) : extraFrom p q 0 := fun _ _ h => absurd h (Nat.not_lt_zero _)
theorem extraFrom.next {p q : List Int} {j : Nat} (h : extraFrom p q j) (hj : j < (startM q).length) (h1 : (startM q)[j] ∈ startM (invM p)) : extraFrom p q (j + 1) := fun i hi hij => by
  by_cases e : i = j
  · subst e; exact h1
  · exact h i hi (by omega)
theorem extraFrom.all {p q : List Int} (h : extraFrom p q (startM q).length) : extraM p q = 0 := by
  unfold extraM
  rw [List.find?_eq_none.2]
  · rfl
  · intro x hx
    obtain ⟨i, hi, rfl⟩ := List.getElem_of_mem hx
    simpa using h i hi hi
theorem extraFrom.at_ {p q : List Int} {j : Nat} (h : extraFrom p q j) (hj : j < (startM q).length) (h1 : (startM q)[j] ∉ startM (invM p)) : extraM p q = (startM q)[j] := by
  unfold extraM
  rw [List.find?_eq_some_iff_getElem.2 ⟨by simpa using h1, j, hj, rfl, fun i hi => by simpa using h i (by omega) hi⟩]
  rfl
theorem startM_bd (q : List Int) : ∀ x ∈ startM q, 1 ≤ x ∧ x ≤ q.length := by
  intro x hx
  obtain ⟨y, hy, rfl⟩ := List.mem_map.1 hx
  have := descTo_bd q _ y hy
  omega
end Go.Proofs.Ytplabnjdhkmmkaa
end
