/- Blocks under construction: a row of structs whose words are only read and whose lists of events each lie in a block of their own. No condition. The blocks of events, in plain Lean. No condition. An append of numbers in a region that draws its order (out of MApp). No condition. -/
import Derived.Test.YtplabnjdhkmmkaaPF11
import Derived.Test.YtplabnjdhkmmkaaPF12
import Derived.Laws.OwnMore
import Derived.Test.YtplabnjdhkmmkaaPF7
import Derived.Test.YtplabnjdhkmmkaaPF5
import Derived.Deep.RegionHeld3
section
set_option maxRecDepth 100000
set_option linter.unusedSimpArgs false
set_option linter.unusedVariables false
namespace Go.Proofs.Ytplabnjdhkmmkaa
open Go.ChangeShapes Go.WideShapes Go.ChangeAt Go.RowKit
structure BlkM where
  n : Int
  word : List Int
  st : List EvM
structure BCore (w : World) (base : Nat) (v : Value) (bs : List BlkM) (cs : List Value) (q : Nat → Option Nat) (P : Nat → Prop) : Prop where
  own : w.ownsRow base 98 3 v bs.length cs
  row : ∀ i (h : i < bs.length), ∃ A k vs, cs[i * 3]? = some (.int .i64 bs[i].n) ∧ cs[i * 3 + 1]? = some (.slice A bs[i].word.length k) ∧ cs[i * 3 + 2]? = some vs ∧ Ints w P (.slice A bs[i].word.length k) bs[i].word ∧ OwnEvs w base vs bs[i].st ∧ vs.ownBlock = q i
  qv : ∀ i b, i < bs.length → q i = some b → v.ownBlock ≠ some b ∧ ¬ P b
  qq : ∀ i j b, i < bs.length → j < bs.length → q i = some b → q j = some b → i = j
  pv : ∀ b, P b → base ≤ b ∧ b < w.heap.size ∧ v.ownBlock ≠ some b
/-- the blocks that the row, its words and its lists of events lie in -/
def BK (v : Value) (n : Nat) (q : Nat → Option Nat) (P : Nat → Prop) (b : Nat) : Prop := v.ownBlock = some b ∨ P b ∨ ∃ i, i < n ∧ q i = some b
section
variable {S : Nat → Prop} {w w' : World} {base : Nat} {v : Value} {bs : List BlkM} {cs : List Value} {q : Nat → Option Nat} {P : Nat → Prop}
theorem BCore.keep (h : BCore w base v bs cs q P) (g : Chg S w w') (hS : ∀ b, b < w.heap.size → BK v bs.length q P b → ¬ S b) : BCore w' base v bs cs q P := by
  refine ⟨ownsRow_kept h.own g (fun b hb => hS b (h.own.lt b hb).2 (.inl hb)), fun i hi => ?_, h.qv, h.qq, fun b hb => ⟨(h.pv b hb).1, Nat.lt_of_lt_of_le (h.pv b hb).2.1 g.size, (h.pv b hb).2.2⟩⟩
  obtain ⟨A, k, vs, c0, c1, c2, i1, o1, hq⟩ := h.row i hi
  exact ⟨A, k, vs, c0, c1, c2, i1.keep g (fun b hb hp => hS b hb (.inr (.inl hp))), o1.kept g (fun b hb => hS b (o1.lt hb).2 (.inr (.inr ⟨i, hi, hq ▸ hb⟩))), hq⟩
theorem BCore.up (h : BCore w base v bs cs q P) (g : Up w w') : BCore w' base v bs cs q P := h.keep g (fun _ _ _ h => h)
theorem BCore.lt (h : BCore w base v bs cs q P) {b : Nat} (hb : BK v bs.length q P b) : base ≤ b ∧ b < w.heap.size := by
  rcases hb with hb | hb | ⟨i, hi, hb⟩
  · exact h.own.lt b hb
  · exact ⟨(h.pv b hb).1, (h.pv b hb).2.1⟩
  · obtain ⟨A, k, vs, -, -, -, -, o1, hq⟩ := h.row i hi
    exact o1.lt (hq.trans hb)
theorem BCore.val (h : BCore w base v bs cs q P) : ∃ A c, v = .slice A bs.length c ∧ bs.length ≤ c ∧ c ≤ 9223372036854775807 ∧ (A = none → c = 0) := by
  obtain ⟨-, A, c, h3, h4, h5, -, h6⟩ := Raw.of_own h.own
  exact ⟨A, c, h3, h4, h5, h6⟩
theorem OwnEvs.val {vs : Value} {xs : List EvM} (h : OwnEvs w base vs xs) : ∃ A c, vs = .slice A xs.length c ∧ xs.length ≤ c ∧ c ≤ 9223372036854775807 ∧ (A = none → c = 0) := h.rd.shape
/-- block i: its three cells, and what they lead to -/
theorem BCore.at_ (h : BCore w base v bs cs q P) {i : Nat} (hi : i < bs.length) : ∃ g c A k vs, v = .slice (some ⟨g, 0, none⟩) bs.length c ∧ (base ≤ g ∧ g < w.heap.size) ∧ (bs.length ≤ c ∧ c ≤ 9223372036854775807) ∧
    CellF w ⟨g, i * 3, none⟩ (.int .i64 bs[i].n) ∧ CellF w ⟨g, i * 3 + 1, none⟩ (.slice A bs[i].word.length k) ∧ CellF w ⟨g, i * 3 + 2, none⟩ vs ∧ Ints w P (.slice A bs[i].word.length k) bs[i].word ∧ OwnEvs w base vs bs[i].st ∧ vs.ownBlock = q i := by
  obtain ⟨A, k, vs, c0, c1, c2, i1, o1, hq⟩ := h.row i hi
  obtain ⟨Av, c, hv, hl1, hl2, -⟩ := h.val
  have hsh : ∃ g c, v = .slice (some ⟨g, 0, none⟩) bs.length c := by
    rcases h.own.2 with ⟨-, h0⟩ | ⟨g, cap, cur, hv, -⟩
    · omega
    · exact ⟨g, cap, hv⟩
  obtain ⟨g, c', hv'⟩ := hsh
  obtain rfl : c = c' := by rw [hv] at hv'; injection hv'
  have ho := h.own
  rw [hv'] at ho
  refine ⟨g, c, A, k, vs, hv', ho.lt g rfl, ⟨hl1, hl2⟩, ⟨(ho.cellAt _ (by omega)).trans c0, ho.frozenAt _⟩, ⟨(ho.cellAt _ (by omega)).trans c1, ho.frozenAt _⟩, ⟨(ho.cellAt _ (by omega)).trans c2, ho.frozenAt _⟩, i1, o1, hq⟩
/-- block i's list of events is put anew -/
theorem BCore.put (h : BCore w base v bs cs q P) {i : Nat} (hi : i < bs.length) {g c : Nat} (hv : v = .slice (some ⟨g, 0, none⟩) bs.length c) {w1 : World} (hC : Chg (fun b => q i = some b) w w1) {vs' : Value} {st' : List EvM} (ho : OwnEvs w1 base vs' st') (hb : ∀ b, vs'.ownBlock = some b → q i = some b ∨ w.heap.size ≤ b) :
    BCore (w1.setCell ⟨g, i * 3 + 2, none⟩ vs') base v (bs.set i ⟨bs[i].n, bs[i].word, st'⟩) (cs.set (i * 3 + 2) vs') (fun j => if j = i then vs'.ownBlock else q j) P ∧ Chg (fun b => b = g) w1 (w1.setCell ⟨g, i * 3 + 2, none⟩ vs') := by
  have hvo : v.ownBlock = some g := by rw [hv]; rfl
  have hg := h.own.lt g hvo
  have own1 := ownsRow_kept h.own hC (fun b hb e => (h.qv i b hi e).1 hb)
  have hCs : Chg (fun b => b = g) w1 (w1.setCell ⟨g, i * 3 + 2, none⟩ vs') := Chg.setCell (Chg.refl (fun b => b = g) w1) (p := ⟨g, i * 3 + 2, none⟩) (.inl (show g = g from rfl)) _
  have s1 : (w1.setCell ⟨g, i * 3 + 2, none⟩ vs').ownsRow base 98 3 v bs.length (cs.set (i * 3 + 2) vs') := by
    rw [hv] at own1 ⊢
    exact (own1.stored (i * 3 + 2) vs').1
  have hcl : cs.length = bs.length * 3 := h.own.1
  have hgn : ∀ b, P b → b ≠ g := fun b hp e => (h.pv b hp).2.2 (by rw [e]; exact hvo)
  refine ⟨⟨by rw [List.length_set]; exact s1, fun j hj => ?_, fun j b hj hq => ?_, fun j j' b hj hj' hq hq' => ?_, fun b hp => ⟨(h.pv b hp).1, Nat.lt_of_lt_of_le (h.pv b hp).2.1 (Nat.le_trans hC.size hCs.size), (h.pv b hp).2.2⟩⟩, hCs⟩
  · rw [List.length_set] at hj
    obtain ⟨A, k, vs, c0, c1, c2, i1, o1, hq⟩ := h.row j hj
    have i2 := (i1.keep hC (fun b _ hp e => (h.qv i b hi e).2 hp)).keep hCs (fun b _ hp e => hgn b hp e)
    by_cases e : i = j
    · subst e
      simp only [List.getElem_set_self]
      refine ⟨A, k, vs', by rw [List.getElem?_set_ne (by omega)]; exact c0, by rw [List.getElem?_set_ne (by omega)]; exact c1, List.getElem?_set_self (by omega), i2, ho.kept hCs (fun b hb2 e => ?_), by simp⟩
      have e : b = g := e
      subst e
      rcases hb b hb2 with h1 | h1
      · exact (h.qv i b hi h1).1 hvo
      · omega
    · rw [List.getElem_set_ne e]
      refine ⟨A, k, vs, by rw [List.getElem?_set_ne (by omega)]; exact c0, by rw [List.getElem?_set_ne (by omega)]; exact c1, by rw [List.getElem?_set_ne (by omega)]; exact c2, i2, (o1.kept hC (fun b hb2 e2 => ?_)).kept hCs (fun b hb2 e2 => ?_), by rw [if_neg (Ne.symm e)]; exact hq⟩
      · exact e (h.qq i j b hi hj e2 (hq.symm.trans hb2))
      · have e2 : b = g := e2
        subst e2
        exact (h.qv j b hj (hq.symm.trans hb2)).1 hvo
  · rw [List.length_set] at hj
    by_cases e : j = i
    · rw [if_pos e] at hq
      rcases hb b hq with h1 | h1
      · exact h.qv i b hi h1
      · exact ⟨fun e2 => by have := (h.own.lt b e2).2; omega, fun hp => by have := (h.pv b hp).2.1; omega⟩
    · rw [if_neg e] at hq
      exact h.qv j b hj hq
  · rw [List.length_set] at hj hj'
    have key : ∀ j b, j < bs.length → j ≠ i → q j = some b → vs'.ownBlock = some b → False := fun j b hj hn h1 h2 => by
      rcases hb b h2 with h3 | h3
      · exact hn (h.qq j i b hj hi h1 h3)
      · have := (h.lt (.inr (.inr ⟨j, hj, h1⟩))).2
        omega
    by_cases e : j = i <;> by_cases e' : j' = i
    · rw [e, e']
    · rw [if_pos e] at hq
      rw [if_neg e'] at hq'
      exact (key j' b hj' e' hq' hq).elim
    · rw [if_neg e] at hq
      rw [if_pos e'] at hq'
      exact (key j b hj e hq hq').elim
    · rw [if_neg e] at hq
      rw [if_neg e'] at hq'
      exact h.qq j j' b hj hj' hq hq'
end
theorem infoBlk : (Try.prog.info? 98).map (fun i => (i.zero, i.size, i.bytes)) = some (some (.agg #[.int .i64 0, .slice none 0 0, .slice none 0 0]), 3, 56) := by kernel_rfl
/-- one block more is appended, out of a literal of one element -/
theorem wp_append_blk {w : World} {ops : Array Oper} {rest : List Oper} {o : Oper} {a : Act} {R : Exit → Act → World → Prop} (hgd : o.guard = none) (s x : Operand)
    (ho : o.op = .call { callee := .builtin .append, args := #[s, x], argTypes := #[87, 87] })
    (base : Nat) (v : Value) (bs : List BlkM) (cs : List Value) (q : Nat → Option Nat) (P : Nat → Prop) (hs : a.eval s = v) (h : BCore w base v bs cs q P)
    (g : Nat) (n : Int) (word : List Int) (A : Option Addr) (c : Nat) (hx : a.eval x = .slice (some ⟨g, 0, none⟩) 1 1) (hc0 : w.cell? ⟨g, 0, none⟩ = some (.int .i64 n)) (hc1 : w.cell? ⟨g, 1, none⟩ = some (.slice A word.length c)) (hc2 : w.cell? ⟨g, 2, none⟩ = some (.slice none 0 0))
    (Pw : Nat → Prop) (hi : Ints w Pw (.slice A word.length c) word) (hp : ∀ b, Pw b → base ≤ b ∧ b < w.heap.size ∧ ¬ BK v bs.length q P b) (hlen : bs.length ≤ 1000000) (hbase : base ≤ w.heap.size)
    (hh : ∀ v' w' cs' q' P', BCore w' base v' (bs ++ [⟨n, word, []⟩]) cs' q' P' → (∀ b, BK v' (bs.length + 1) q' P' b → BK v bs.length q P b ∨ Pw b ∨ w.heap.size ≤ b) → Chg (fun b => v.ownBlock = some b) w w' → wpList Try.prog ops R rest (a.put o.dst v') w') : wpList Try.prog ops R (o :: rest) a w := by
  obtain ⟨i0, hi0, hz0, hz1, hz2⟩ := info_parts infoBlk
  have hcl : cs.length = bs.length * 3 := h.own.1
  refine wpList_append_own2 (P := Try.prog) hgd s x 87 ho base 98 i0 _ 3 56 Try.underlying87 hi0 hz0 hz1 hz2 rfl (by decide) v bs.length cs hs h.own ⟨g, 0, none⟩ 1 1 [.int .i64 n, .slice A word.length c, .slice none 0 0] hx rfl (fun k u hk => ?_) (fun u hu => ?_) (by unfold Go.maxLen; omega) (by omega) hbase (fun v' w' k1 k2 k3 => ?_)
  · match k with
    | 0 => simp only [List.getElem?_cons_zero, Option.some.injEq] at hk; subst hk; rw [add_zero]; exact hc0
    | 1 => simp only [List.getElem?_cons_succ, List.getElem?_cons_zero, Option.some.injEq] at hk; subst hk; exact hc1
    | 2 => simp only [List.getElem?_cons_succ, List.getElem?_cons_zero, Option.some.injEq] at hk; subst hk; exact hc2
    | k + 3 => simp at hk
  · simp at hu
    rcases hu with rfl | rfl | rfl <;> rfl
  · have hC := Chg.of_grown k2
    have hqb : ∀ i b, i < bs.length → q i = some b → b < w.heap.size := fun i b hi hq => (h.lt (.inr (.inr ⟨i, hi, hq⟩))).2
    refine hh v' w' (cs ++ [.int .i64 n, .slice A word.length c, .slice none 0 0]) (fun j => if j < bs.length then q j else none) (fun b => P b ∨ Pw b) ⟨by simpa using k1, fun i hi' => ?_, fun i b hi' hq => ?_, fun i j b hi' hj' hq hq' => ?_, fun b hb => ?_⟩ (fun b hb => ?_) hC
    · by_cases he : i < bs.length
      · obtain ⟨A', k', vs, c0, c1, c2, i1, o1, hq⟩ := h.row i he
        rw [List.getElem_append_left he]
        refine ⟨A', k', vs, by rw [List.getElem?_append_left (by omega)]; exact c0, by rw [List.getElem?_append_left (by omega)]; exact c1, by rw [List.getElem?_append_left (by omega)]; exact c2, (i1.keep hC (fun b _ hp e => (h.pv b hp).2.2 e)).mono (fun b _ hp => .inl hp), o1.kept hC (fun b hb e => (h.qv i b he (hq.symm.trans hb)).1 e), by rw [if_pos he]; exact hq⟩
      · have hi2 : i = bs.length := by simp at hi'; omega
        subst hi2
        rw [List.getElem_append_right (Nat.le_refl _)]
        simp only [Nat.sub_self, List.getElem_cons_zero]
        refine ⟨A, c, .slice none 0 0, by rw [List.getElem?_append_right (by omega), show bs.length * 3 - cs.length = 0 by omega]; rfl, by rw [List.getElem?_append_right (by omega), show bs.length * 3 + 1 - cs.length = 1 by omega]; rfl, by rw [List.getElem?_append_right (by omega), show bs.length * 3 + 2 - cs.length = 2 by omega]; rfl, (hi.keep hC (fun b _ hq e => (hp b hq).2.2 (.inl e))).mono (fun b _ hq => .inr hq), OwnEvs.nil _ _, by rw [if_neg he]; rfl⟩
    · by_cases he : i < bs.length
      · rw [if_pos he] at hq
        have h1 := h.qv i b he hq
        exact ⟨fun e => (k3 b e).elim h1.1 (fun h2 => by have := hqb i b he hq; omega), fun e => e.elim h1.2 (fun e => (hp b e).2.2 (.inr (.inr ⟨i, he, hq⟩)))⟩
      · rw [if_neg he] at hq; cases hq
    · by_cases he : i < bs.length
      · by_cases he' : j < bs.length
        · rw [if_pos he] at hq
          rw [if_pos he'] at hq'
          exact h.qq i j b he he' hq hq'
        · rw [if_neg he'] at hq'; cases hq'
      · rw [if_neg he] at hq; cases hq
    · rcases hb with hb | hb
      · have h1 := h.pv b hb
        exact ⟨h1.1, Nat.lt_of_lt_of_le h1.2.1 hC.size, fun e => (k3 b e).elim h1.2.2 (fun h2 => by omega)⟩
      · have h1 := hp b hb
        exact ⟨h1.1, Nat.lt_of_lt_of_le h1.2.1 hC.size, fun e => (k3 b e).elim (fun e => h1.2.2 (.inl e)) (fun h2 => by omega)⟩
    · rcases hb with hb | hb | ⟨i, hi', hb⟩
      · exact (k3 b hb).elim (fun e => .inl (.inl e)) (fun e => .inr (.inr e))
      · exact hb.elim (fun e => .inl (.inr (.inl e))) (fun e => .inr (.inl e))
      · by_cases he : i < bs.length
        · simp only [if_pos he] at hb
          exact .inl (.inr (.inr ⟨i, he, hb⟩))
        · simp only [if_neg he] at hb; cases hb
theorem BCore.lit (w : World) (base : Nat) (hb : base ≤ w.heap.size) : BCore (w.alloc (.cells #[.int .i64 0, .slice none 0 0, .slice none 0 0] 98)) base (.slice (some ⟨w.heap.size, 0, none⟩) 1 1) [⟨0, [], []⟩] [.int .i64 0, .slice none 0 0, .slice none 0 0] (fun _ => none) (fun _ => False) := by
  refine ⟨World.ownsRow_lit w _ 1 hb (by unfold Go.maxLen; omega) rfl, fun i hi => ?_, fun i b _ h => (by cases h), fun i j b _ _ h => (by cases h), fun b h => h.elim⟩
  obtain rfl : i = 0 := by simp at hi; omega
  exact ⟨none, 0, .slice none 0 0, rfl, rfl, rfl, Ints.nil _ _ 0 none (by omega), OwnEvs.nil _ _, rfl⟩
end Go.Proofs.Ytplabnjdhkmmkaa
end
section
set_option maxRecDepth 100000
set_option linter.unusedSimpArgs false
set_option linter.unusedVariables false
namespace Go.Proofs.Ytplabnjdhkmmkaa
open Go.ChangeShapes Go.WideShapes Go.ChangeAt Go.RowKit
/-- the letter of a crossing -/
def evLet (e : EvM) : Int := e.count * (e.place + 1)
/-- the word so far becomes a block, if it is not trivial -/
noncomputable def flushM (n : Int) (word : List Int) (bs : List BlkM) : List BlkM := if trivB n.toNat (redM word) = true then bs else bs ++ [⟨n, redM word, []⟩]
/-- one event more behind the last block -/
def addLast (bs : List BlkM) (e : EvM) : List BlkM := if h : 0 < bs.length then bs.set (bs.length - 1) ⟨(bs[bs.length - 1]).n, (bs[bs.length - 1]).word, (bs[bs.length - 1]).st ++ [e]⟩ else bs
noncomputable def blkM : List EvM → Int → List Int → List BlkM → Option (List BlkM)
  | [], n, word, bs => if 40 < (redM word).length then none else some (flushM n word bs)
  | e :: es, n, word, bs => if e.kind = 1 then blkM es n (word ++ [evLet e]) bs else if 40 < (redM word).length then none else blkM es (evAfter e.kind e.count n) [] (addLast (flushM n word bs) e)
/-- the blocks of events, or none where there are too many or one is too long -/
noncomputable def blkR (es : List EvM) (n : Int) (word : List Int) (bs : List BlkM) : Option (List BlkM) := (blkM es n word bs).bind fun r => if 60 < r.length then none else some r
theorem addLast_len (bs : List BlkM) (e : EvM) : (addLast bs e).length = bs.length := by unfold addLast; split <;> simp
theorem flushM_len (n : Int) (word : List Int) (bs : List BlkM) : bs.length ≤ (flushM n word bs).length ∧ (flushM n word bs).length ≤ bs.length + 1 := by unfold flushM; split <;> simp
theorem blkM_len : ∀ (es : List EvM) (n : Int) (word : List Int) (bs r : List BlkM), blkM es n word bs = some r → (flushM n word bs).length ≤ r.length ∨ ∃ e es', es = e :: es' ∧ e.kind = 1 ∧ bs.length ≤ r.length
  | [], n, word, bs, r, h => by
    unfold blkM at h
    split at h
    · cases h
    · injection h with h; subst h; exact .inl (Nat.le_refl _)
  | e :: es, n, word, bs, r, h => by
    unfold blkM at h
    split at h
    · rename_i hk
      refine .inr ⟨e, es, rfl, hk, ?_⟩
      rcases blkM_len es _ _ _ _ h with h1 | ⟨_, _, _, _, h1⟩
      · exact Nat.le_trans (flushM_len _ _ _).1 h1
      · exact h1
    · split at h
      · cases h
      · refine .inl ?_
        rcases blkM_len es _ _ _ _ h with h1 | ⟨_, _, _, _, h1⟩
        · have := (flushM_len (evAfter e.kind e.count n) [] (addLast (flushM n word bs) e)).1
          rw [addLast_len] at this
          omega
        · rw [addLast_len] at h1; exact h1
theorem drop_cons {xs : List EvM} {j : Nat} (h : j < xs.length) : xs.drop j = xs[j] :: xs.drop (j + 1) := List.drop_eq_getElem_cons h
theorem blkR_cross {xs : List EvM} {n : Int} {word : List Int} {bs : List BlkM} {j : Nat} (h : j < xs.length) (hk : xs[j].kind = 1) : blkR (xs.drop j) n word bs = blkR (xs.drop (j + 1)) n (word ++ [evLet xs[j]]) bs := by
  unfold blkR
  rw [drop_cons h]
  conv => lhs; unfold blkM
  rw [if_pos hk]
/-- no crossing is next -/
def atFlush (xs : List EvM) (j : Nat) : Prop := j = xs.length ∨ ∃ h : j < xs.length, xs[j].kind ≠ 1
theorem blkR_big {xs : List EvM} {n : Int} {word : List Int} {bs : List BlkM} {j : Nat} (h : atFlush xs j) (hw : 40 < (redM word).length) : blkR (xs.drop j) n word bs = none := by
  unfold blkR
  rcases h with rfl | ⟨h, hk⟩
  · rw [List.drop_length]
    unfold blkM
    rw [if_pos hw]; rfl
  · rw [drop_cons h]
    unfold blkM
    rw [if_neg hk, if_pos hw]; rfl
theorem blkR_many {xs : List EvM} {n : Int} {word : List Int} {bs : List BlkM} {j : Nat} (h : atFlush xs j) (hf : 60 < (flushM n word bs).length) : blkR (xs.drop j) n word bs = none := by
  unfold blkR
  cases hb : blkM (xs.drop j) n word bs with
  | none => rfl
  | some r =>
    have hl : (flushM n word bs).length ≤ r.length := by
      rcases blkM_len _ _ _ _ _ hb with h1 | ⟨e, es', h1, h2, -⟩
      · exact h1
      · rcases h with rfl | ⟨h, hk⟩
        · rw [List.drop_length] at h1; cases h1
        · rw [drop_cons h] at h1
          injection h1 with h1 _
          exact (hk (h1 ▸ h2)).elim
    show (if 60 < r.length then none else some r) = none
    rw [if_pos (by omega)]
theorem blkR_step {xs : List EvM} {n : Int} {word : List Int} {bs : List BlkM} {j : Nat} (h : j < xs.length) (hk : xs[j].kind ≠ 1) (hw : ¬ 40 < (redM word).length) :
    blkR (xs.drop j) n word bs = blkR (xs.drop (j + 1)) (evAfter xs[j].kind xs[j].count n) [] (addLast (flushM n word bs) xs[j]) := by
  unfold blkR
  rw [drop_cons h]
  conv => lhs; unfold blkM
  rw [if_neg hk, if_neg hw]
theorem blkR_end {n : Int} {word : List Int} {bs : List BlkM} (hw : ¬ 40 < (redM word).length) (hf : (flushM n word bs).length ≤ 60) : blkR [] n word bs = some (flushM n word bs) := by
  unfold blkR blkM
  rw [if_neg hw]
  show (if 60 < (flushM n word bs).length then none else some (flushM n word bs)) = _
  rw [if_neg (by omega)]
theorem trivB_nil (n : Nat) : trivB n [] = true := by unfold trivB; rw [normM_nil]; rfl
theorem flushM_yes {n : Int} {word : List Int} {bs : List BlkM} (h : trivB n.toNat (redM word) = true) : flushM n word bs = bs := if_pos h
theorem flushM_no {n : Int} {word : List Int} {bs : List BlkM} (h : trivB n.toNat (redM word) = false) : flushM n word bs = bs ++ [⟨n, redM word, []⟩] := if_neg (by rw [h]; exact Bool.false_ne_true)
theorem LettN.red {n : Nat} {word : List Int} (h : LettN n word) : LettN n (redM word) := fun x hx => h x (redM_mem hx)
theorem redM_snoc (u : List Int) (x : Int) : redM (u ++ [x]) = redStep (redM u) x := by unfold redM; rw [List.foldl_append]; rfl
/-- the letter of a crossing that fits -/
theorem evLet_ok {e : EvM} {n : Int} (h : evOk e n = true) (hk : e.kind = 1) (hn : 0 ≤ n ∧ n ≤ 12) : (1 ≤ (evLet e).natAbs ∧ (evLet e).natAbs < n.toNat) ∧ (e.count = 1 ∨ e.count = -1) ∧ 0 ≤ e.place ∧ e.place ≤ 10 := by
  have h := of_decide_eq_true h
  obtain ⟨h0, h⟩ := h
  unfold evLet
  rcases h with ⟨_, h1, h2, _⟩ | ⟨h1, _⟩ | ⟨h1, _⟩ | ⟨h1, _⟩ | ⟨h1, _⟩
  · rcases h2 with e1 | e1 <;> rw [e1] <;> refine ⟨?_, by simp, h0, by omega⟩ <;> omega
  all_goals omega
theorem evAfter_cross {k c n : Int} (h : k = 1) : evAfter k c n = n := by subst h; unfold evAfter; simp
/-- the strands ahead of event j, and behind it -/
theorem stM_at {xs : List EvM} {m : Int} (hv : stM xs 0 = some m) {j : Nat} (hj : j < xs.length) {n : Int} (h : stM (xs.take j) 0 = some n) : evOk xs[j] n = true ∧ evAfter xs[j].kind xs[j].count n ≤ 12 ∧ stM (xs.take (j + 1)) 0 = some (evAfter xs[j].kind xs[j].count n) := by
  by_cases h1 : evOk xs[j] n = true
  · by_cases h2 : evAfter xs[j].kind xs[j].count n ≤ 12
    · exact ⟨h1, h2, by rw [stM_succ hj, h, stStep_yes h1 h2]⟩
    · have := stM_stop hj h (stStep_big h2)
      rw [this] at hv; cases hv
  · have := stM_stop hj h (stStep_no (by simpa using h1))
    rw [this] at hv; cases hv
end Go.Proofs.Ytplabnjdhkmmkaa
end
section
set_option linter.unusedSimpArgs false
set_option linter.unusedVariables false
set_option maxRecDepth 100000
set_option maxHeartbeats 4000000
namespace Go.Proofs.Ytplabnjdhkmmkaa
open Go.ChangeShapes Go.WideShapes Go.ChangeAt Go.RowKit
theorem wp_app_own2 {P : Program} {w : World} {o : Oper} {a : Act} {K : Act → World → Prop} {Q : Exit → Act → World → Prop} (s x : Operand) (t : TypeId)
    (ho : o.op = .call { callee := .builtin .append, args := #[s, x], argTypes := #[t, t] })
    (base : Nat) (e : TypeId) (i : TypeInfo) (z : Value) (size bytes : Nat) (ht : P.underlying t = some (.slice e)) (hi : P.info? e = some i) (hz : i.zero = some z)
    (hsize : i.size = size) (hby : i.bytes = bytes) (hzs : z.cells.size = size) (hsz : 0 < size)
    (v : Value) (n : Nat) (xs : List Value) (hs : a.eval s = v) (hown : w.ownsRow base e size v n xs)
    (ad : Addr) (m c : Nat) (news : List Value) (hx : a.eval x = .slice (some ad) m c) (hl : news.length = m * size) (hnews : ∀ j u, news[j]? = some u → w.cell? (ad.add j) = some u) (h1 : ∀ u ∈ news, u.oneCell' = true)
    (h63 : n + m ≤ maxLen) (hbytes : (n + m) * bytes ≤ 140737488355328) (hbase : base ≤ w.heap.size)
    (h : ∀ v' w', w'.ownsRow base e size v' (n + m) (xs ++ news) → w.grownBy w' v.ownBlock → (∀ g, v'.ownBlock = some g → v.ownBlock = some g ∨ w.heap.size ≤ g) → K (a.put o.dst v') w') : o.wp P a w K Q := by
  obtain ⟨v', w', hr, h2, h3, _⟩ := run_append_own (P := P) w base t o.type e i z size bytes ht hi hz hsize hby hzs hsz v n xs hown ad m c news hl hnews h1 h63 hbytes hbase
  have h5 := append_block (P := P) base t o.type e i z size bytes ht hi hz hsize hby hzs hsz v n xs hown ad m c news hl hnews h1 h63 hbytes hr
  unfold Oper.wp execOp
  simp only [ho, resolve, invoke, builtin, Sem.run_bind, Sem.run_pure, Result.andThen_ok, List.map_toArray, List.map_cons, List.map_nil, hs, hx, hr]
  exact h v' w' h2 h3 h5
theorem step_appInts {w : World} {ops : Array Oper} {o : Oper} {a : Act} {K : Act → World → Prop} {E : Prop} {Q : Exit → Act → World → Prop} (hgd : o.guard = none) (s x : Operand)
    (ho : o.op = .call { callee := .builtin .append, args := #[s, x], argTypes := #[23, 23] })
    (base : Nat) (v : Value) (xs : List Int) (hs : a.eval s = v) (hown : OwnI w base v xs)
    (S : Nat → Prop) (u : Value) (ys : List Int) (hx : a.eval x = u) (hsrc : Ints w S u ys) (hlen : xs.length + ys.length ≤ 1099511627776) (hbase : base ≤ w.heap.size)
    (h : ∀ v' w', OwnI w' base v' (xs ++ ys) → Chg (fun b => v.ownBlock = some b) w w' → (∀ b, v'.ownBlock = some b → v.ownBlock = some b ∨ w.heap.size ≤ b) → Chg (fun k => base ≤ k) w w' → K (a.put o.dst v') w') :
    if Region.wanted o (yielded ops a.tmps) = true then Oper.wp Try.prog o a w K Q else E := by
  have hw : Region.wanted o (yielded ops a.tmps) = true := by simp [Region.wanted, hgd]
  rw [if_pos hw]
  obtain ⟨i0, hi, hz0, hz1, hz2⟩ := info_parts info2
  obtain ⟨A, c, rfl, hlc, hcm, hok, hr, hnn⟩ := hsrc
  have hok' : ∀ y ∈ xs ++ ys, I64 y := fun y hy => (List.mem_append.1 hy).elim (hown.2 y) (hok y)
  cases A with
  | none =>
    have hy : ys = [] := by
      rcases Nat.eq_zero_or_pos ys.length with h0 | h0
      · exact List.eq_nil_of_length_eq_zero h0
      · obtain ⟨b, oo, h1, _⟩ := hr h0
        cases h1
    subst hy
    obtain rfl := hnn rfl
    have hrun := run_append_owned_none (P := Try.prog) (w := w) base 23 o.type 2 i0 1 Try.underlying23 hi v xs.length _ hown.1
    have hK := h v w (by simpa using hown) (Chg.refl _ _) (fun b hb => .inl hb) (Chg.refl _ _)
    unfold Oper.wp
    simp [execOp, ho, resolve, invoke, builtin, hs, hx, hrun, Result.andThen]
    exact hK
  | some ad =>
    have hnews : ∀ j q, (ys.map (Value.int .i64))[j]? = some q → w.cell? (ad.add j) = some q := by
      intro j q hq
      obtain ⟨hj, he⟩ := List.getElem?_eq_some_iff.1 hq
      have hj' : j < ys.length := by simpa using hj
      obtain ⟨b, oo, h1, _, _, hc⟩ := hr (by omega)
      injection h1 with h1
      subst h1
      have := (hc j hj').1
      rw [← he, List.getElem_map, ← this]
      unfold Addr.add
      by_cases h0 : j = 0 <;> simp [h0]
    refine wp_app_own2 (P := Try.prog) s x 23 ho base 2 i0 (.int .i64 0) 1 8 Try.underlying23 hi hz0 hz1 hz2 rfl (by decide) v xs.length _ hs hown.1 ad ys.length c (ys.map (Value.int .i64)) hx (by simp) hnews ?_ ?_ ?_ hbase ?_
    · intro q hq
      obtain ⟨y, _, rfl⟩ := List.mem_map.1 hq
      rfl
    · unfold Go.maxLen; omega
    · omega
    · intro v' w' h2 h3 h4
      exact h v' w' ⟨by simpa using h2, hok'⟩ (Chg.of_grown h3) h4 ((Chg.refl _ _).grown h3 fun k hk => .inl (hown.1.lt k hk).1)
end Go.Proofs.Ytplabnjdhkmmkaa
end
