/- Rows under construction, with the blocks in which they come to lie; slices of slices of numbers. No condition but room. -/
import Derived.Test.YtjgdcjhmfbefdaaOwn
import Derived.Test.YtjgdcjhmfbefdaaRec
namespace Go.Proofs.Ytjgdcjhmfbefdaa
open Go.ChangeShapes Go.WideShapes Go.ChangeAt Go.RowKit
def ixm (xs : List Int) (i : Nat) : Int := xs.getD i 0
theorem ixm_eq {xs : List Int} {i : Nat} (h : i < xs.length) : ixm xs i = xs[i] := by unfold ixm; simp [h]
theorem Ints.ixm {w : World} {S : Nat → Prop} {A : Option Addr} {c : Nat} {xs : List Int} (h : Ints w S (.slice A xs.length c) xs) {i : Nat} (hi : i < xs.length) :
    ∃ b o, A = some ⟨b, o, none⟩ ∧ b < w.heap.size ∧ ∀ j, j < xs.length → w.cell? ⟨b, o + j, none⟩ = some (.int .i64 (ixm xs j)) := by
  obtain ⟨A', c', he, _, _, _, hr, _⟩ := h
  obtain ⟨rfl, rfl⟩ : A = A' ∧ c = c' := by simpa using he
  obtain ⟨b, o, hA, _, hbl, hc⟩ := hr (by omega)
  exact ⟨b, o, hA, hbl, fun j hj => by rw [ixm_eq hj]; exact (hc j hj).1⟩
theorem up_prem {a b c : World} {S : Nat → Prop} (h : Up a b) (g : Chg S b c) : a.heap.size ≤ b.heap.size ∧ b.heap.size ≤ c.heap.size := ⟨h.size, g.size⟩
section
variable {P : Program} {w : World}
/-- behind an append the row lies in its own block, or in a new one -/
theorem append_block (base : Nat) (t ty e : TypeId) (i : TypeInfo) (z : Value) (size bytes : Nat) (ht : P.underlying t = some (.slice e)) (hi : P.info? e = some i) (hz : i.zero = some z)
    (hsize : i.size = size) (hby : i.bytes = bytes) (_hzs : z.cells.size = size) (_hsz : 0 < size)
    (v : Value) (n : Nat) (xs : List Value) (hown : w.ownsRow base e size v n xs)
    (a : Addr) (m c : Nat) (news : List Value) (hl : news.length = m * size) (hnews : ∀ j u, news[j]? = some u → w.cell? (a.add j) = some u) (h1 : ∀ u ∈ news, u.oneCell' = true)
    (h63 : n + m ≤ maxLen) (hbytes : (n + m) * bytes ≤ 140737488355328) {v' : Value} {w' : World}
    (hr : (Builtin.append_ #[t, t] ty #[v, .slice (some a) m c]).run P w = .ok v' w') : ∀ g, v'.ownBlock = some g → v.ownBlock = some g ∨ w.heap.size ≤ g := by
  subst hsize
  subst hby
  intro g hg
  have hsmall : n + m ≤ 9223372036854775807 := by simp only [maxLen] at h63; omega
  rcases hown.2 with ⟨rfl, rfl⟩ | ⟨g0, cap, cur, rfl, hbg, hg0, hnc, hcm, hcs, htake⟩
  · by_cases hm : m = 0
    · subst hm
      have hn : news = [] := List.eq_nil_of_length_eq_zero (by simpa using hl)
      subst hn
      have hrun : (Builtin.append_ #[t, t] ty #[.slice none 0 0, .slice (some a) 0 c]).run P w = .ok (.slice none 0 0) w := by
        simp [Builtin.append_, run_underlying ht, sizeOf, typeInfo, hi, Builtin.lenOf, Builtin.firstCells, loadCells, loadCellsFrom]
      rw [hrun] at hr
      injection hr with hr _
      subst hr
      simp [Value.ownBlock] at hg
    · have hrun := run_append_nil (P := P) w t ty e i z ht hi hz a m c news hl hnews (by omega) (by omega) (by have hb := hbytes; simp only [Nat.zero_add] at hb; omega)
      rw [hrun] at hr
      injection hr with hr _
      subst hr
      simp only [Value.ownBlock, Option.some.injEq] at hg
      exact .inr (by omega)
  · by_cases hroom : n + m ≤ cap
    · have hfit : n * i.size + news.length ≤ cur.size := by rw [hl, hcs, ← Nat.add_mul]; exact Nat.mul_le_mul_right _ hroom
      have hrun := run_append_room (P := P) w t ty e i ht hi g0 n cap cur hg0 a m c news hl hnews h1 hroom hfit
      rw [hrun] at hr
      injection hr with hr _
      subst hr
      exact .inl hg
    · have holds : ∀ j u, xs[j]? = some u → w.cell? ((⟨g0, 0, none⟩ : Addr).add j) = some u := hown.cells (g := g0) rfl
      have hrun := run_append_grow (P := P) w t ty e i z ht hi hz ⟨g0, 0, none⟩ n cap xs hown.1 holds a m c news hl hnews (by omega) (by omega) (growslice_fits (by omega) hbytes)
      rw [hrun] at hr
      injection hr with hr _
      subst hr
      simp only [Value.ownBlock, Option.some.injEq] at hg
      exact .inr (by omega)
theorem wpList_append_own2 {ops : Array Oper} {rest : List Oper} {o : Oper} {a : Act} {Q : Exit → Act → World → Prop} (hgd : o.guard = none) (s x : Operand) (t : TypeId)
    (ho : o.op = .call { callee := .builtin .append, args := #[s, x], argTypes := #[t, t] })
    (base : Nat) (e : TypeId) (i : TypeInfo) (z : Value) (size bytes : Nat) (ht : P.underlying t = some (.slice e)) (hi : P.info? e = some i) (hz : i.zero = some z)
    (hsize : i.size = size) (hby : i.bytes = bytes) (hzs : z.cells.size = size) (hsz : 0 < size)
    (v : Value) (n : Nat) (xs : List Value) (hs : a.eval s = v) (hown : w.ownsRow base e size v n xs)
    (ad : Addr) (m c : Nat) (news : List Value) (hx : a.eval x = .slice (some ad) m c) (hl : news.length = m * size) (hnews : ∀ j u, news[j]? = some u → w.cell? (ad.add j) = some u) (h1 : ∀ u ∈ news, u.oneCell' = true)
    (h63 : n + m ≤ maxLen) (hbytes : (n + m) * bytes ≤ 140737488355328) (hbase : base ≤ w.heap.size)
    (h : ∀ v' w', w'.ownsRow base e size v' (n + m) (xs ++ news) → w.grownBy w' v.ownBlock → (∀ g, v'.ownBlock = some g → v.ownBlock = some g ∨ w.heap.size ≤ g) → wpList P ops Q rest (a.put o.dst v') w') : wpList P ops Q (o :: rest) a w :=
  wpList_plain hgd fun K hK => by
    obtain ⟨v', w', hr, h2, h3, h4⟩ := run_append_own (P := P) w base t o.type e i z size bytes ht hi hz hsize hby hzs hsz v n xs hown ad m c news hl hnews h1 h63 hbytes hbase
    have h5 := append_block (P := P) base t o.type e i z size bytes ht hi hz hsize hby hzs hsz v n xs hown ad m c news hl hnews h1 h63 hbytes hr
    unfold Oper.wp execOp
    simp only [ho, resolve, invoke, builtin, Sem.run_bind, Sem.run_pure, Result.andThen_ok, List.map_toArray, List.map_cons, List.map_nil, hs, hx, hr]
    exact hK _ _ (h v' w' h2 h3 h5)
end
/-- a row of the call's own is kept where its block is -/
theorem ownsRow_kept {w w' : World} {base : Nat} {e : TypeId} {k : Nat} {v : Value} {n : Nat} {cs : List Value} {S : Nat → Prop} (h : w.ownsRow base e k v n cs) (g : Chg S w w') (hS : ∀ b, v.ownBlock = some b → ¬ S b) : w'.ownsRow base e k v n cs := by
  refine ⟨h.1, ?_⟩
  rcases h.2 with h2 | ⟨b, cap, cur, rfl, hg, hh, r⟩
  · exact Or.inl h2
  · exact Or.inr ⟨b, cap, cur, rfl, hg, (g.block b (Array.getElem?_eq_some_iff.1 hh).1 (hS b rfl)).trans hh, r⟩
theorem Chg.of_grown {w w' : World} {row : Option Nat} (h : w.grownBy w' row) : Chg (fun b => row = some b) w w' := (Chg.refl _ _).grown h fun _ hk => .inl hk
/-- 'out = append(out, x)' beside other rows -/
theorem wp_append_int2 {w : World} {ops : Array Oper} {rest : List Oper} {o : Oper} {a : Act} {Q : Exit → Act → World → Prop} (hgd : o.guard = none) (s x : Operand)
    (ho : o.op = .call { callee := .builtin .append, args := #[s, x], argTypes := #[37, 37] })
    (base : Nat) (v : Value) (xs : List Int) (hs : a.eval s = v) (hown : OwnI w base v xs)
    (g : Nat) (n : Int) (hx : a.eval x = .slice (some ⟨g, 0, none⟩) 1 1) (hc : w.cell? ⟨g, 0, none⟩ = some (.int .i64 n)) (hn : I64 n) (hlen : xs.length ≤ 1099511627776) (hbase : base ≤ w.heap.size)
    (h : ∀ v' w', OwnI w' base v' (xs ++ [n]) → Chg (fun b => v.ownBlock = some b) w w' → (∀ b, v'.ownBlock = some b → v.ownBlock = some b ∨ w.heap.size ≤ b) → Chg (fun k => base ≤ k) w w' → wpList Try.prog ops Q rest (a.put o.dst v') w') : wpList Try.prog ops Q (o :: rest) a w := by
  obtain ⟨i0, hi, hz0, hz1, hz2⟩ := info_parts info2
  refine wpList_append_own2 (P := Try.prog) hgd s x 37 ho base 2 i0 (.int .i64 0) 1 8 Try.underlying37 hi hz0 hz1 hz2 rfl (by decide) v xs.length _ hs hown.1 ⟨g, 0, none⟩ 1 1 [.int .i64 n] hx rfl ?_ ?_ ?_ ?_ hbase ?_
  · intro j u hu
    cases j with
    | zero => simp only [List.getElem?_cons_zero, Option.some.injEq] at hu; subst hu; rw [add_zero]; exact hc
    | succ j => simp at hu
  · intro u hu; simp at hu; subst hu; rfl
  · unfold Go.maxLen; omega
  · omega
  · intro v' w' h2 h3 h4
    refine h v' w' ⟨by simpa using h2, fun y hy => ?_⟩ (Chg.of_grown h3) h4 ((Chg.refl _ _).grown h3 fun k hk => .inl (hown.1.lt k hk).1)
    rcases List.mem_append.1 hy with h4 | h4
    · exact hown.2 y h4
    · simp at h4; subst h4; exact hn
theorem OwnI.lt {w : World} {base : Nat} {v : Value} {xs : List Int} (h : OwnI w base v xs) {g : Nat} (hg : v.ownBlock = some g) : base ≤ g ∧ g < w.heap.size := h.1.lt g hg
theorem OwnI.rd {w : World} {base : Nat} {v : Value} {xs : List Int} (h : OwnI w base v xs) : Ints w (fun b => v.ownBlock = some b ∧ base ≤ b ∧ b < w.heap.size) v xs := by
  obtain ⟨A, c, rfl, h1, h2, h3, h4, h5⟩ := h.ints
  refine ⟨A, c, rfl, h1, h2, h3, fun hp => ?_, h5⟩
  obtain ⟨b, o, rfl, hs, hb, hc⟩ := h4 hp
  exact ⟨b, o, rfl, ⟨rfl, hs⟩, hb, hc⟩
/-- a slice of slices of numbers; each of them, and the row of them, in blocks of its own -/
def IntSS (w : World) (S : Nat → Prop) (v : Value) (xss : List (List Int)) : Prop :=
  ∃ (vs : List Value) (R : Nat → Prop) (Q : Nat → Nat → Prop), Raw w R 1 v xss.length vs ∧ (∀ b, R b → S b) ∧ (∀ i b, Q i b → S b ∧ ¬ R b) ∧ (∀ i j b, Q i b → Q j b → i = j) ∧
    ∀ i (h : i < xss.length), ∃ u, vs[i]? = some u ∧ Ints w (Q i) u xss[i]
section
variable {S T : Nat → Prop} {w w' : World} {v : Value} {xss : List (List Int)}
theorem IntSS.keep (h : IntSS w S v xss) (g : Chg T w w') (hd : ∀ b, b < w.heap.size → S b → ¬ T b) : IntSS w' S v xss := by
  obtain ⟨vs, R, Q, h1, h2, h3, h4, h5⟩ := h
  exact ⟨vs, R, Q, h1.keep g (fun b hb hr => hd b hb (h2 b hr)), h2, h3, h4, fun i hi => by
    obtain ⟨u, hu, hk⟩ := h5 i hi
    exact ⟨u, hu, hk.keep g (fun b hb hq => hd b hb (h3 i b hq).1)⟩⟩
theorem IntSS.up (h : IntSS w S v xss) (g : Up w w') : IntSS w' S v xss := h.keep g fun _ _ _ h => h
theorem IntSS.mono (h : IntSS w S v xss) (hs : ∀ b, S b → T b) : IntSS w T v xss := by
  obtain ⟨vs, R, Q, h1, h2, h3, h4, h5⟩ := h
  exact ⟨vs, R, Q, h1, fun b hb => hs b (h2 b hb), fun i b hq => ⟨hs b (h3 i b hq).1, (h3 i b hq).2⟩, h4, h5⟩
theorem IntSS.shape (h : IntSS w S v xss) : ∃ A c, v = .slice A xss.length c ∧ xss.length ≤ c ∧ c ≤ 9223372036854775807 ∧ (A = none → c = 0) := by
  obtain ⟨vs, R, Q, h1, _⟩ := h
  exact h1.shape
theorem IntSS.nil (w : World) (S : Nat → Prop) (c : Nat) (A : Option Addr) (hc : c ≤ 9223372036854775807) (hA : A = none → c = 0 := by simp) : IntSS w S (.slice A 0 c) [] :=
  ⟨[], fun _ => False, fun _ _ => False, Raw.nil w _ 1 c A hc hA, fun _ h => h.elim, fun _ _ h => h.elim, fun _ _ _ h => h.elim, fun i h => by simp at h⟩
/-- an element -/
theorem IntSS.at_ (h : IntSS w S v xss) {i : Nat} (hi : i < xss.length) : ∃ b o c A ci, v = .slice (some ⟨b, o, none⟩) xss.length c ∧ S b ∧ b < w.heap.size ∧ w.cell? ⟨b, o + i, none⟩ = some (.slice A xss[i].length ci) ∧ Ints w S (.slice A xss[i].length ci) xss[i] ∧ xss[i].length ≤ ci ∧ ci ≤ 9223372036854775807 := by
  obtain ⟨vs, R, Q, ⟨h0, A, c, rfl, h1, h2, h4, _⟩, hR, hQ, hD, h5⟩ := h
  obtain ⟨b, o, rfl, hs, hb, hc⟩ := h4 (by omega)
  obtain ⟨u, hu, hk⟩ := h5 i hi
  obtain ⟨Ai, ci, rfl, h6, h7, _⟩ := hk.shape
  obtain ⟨hlt, he⟩ := List.getElem?_eq_some_iff.1 hu
  refine ⟨b, o, c, Ai, ci, rfl, hR b hs, hb, ?_, hk.mono (fun b _ hq => (hQ i b hq).1), h6, h7⟩
  rw [← he]
  exact (hc i hlt).1
end
/-- such a row of the call's own -/
def OwnSS (w : World) (base : Nat) (v : Value) (xss : List (List Int)) : Prop :=
  ∃ (vs : List Value) (Q : Nat → Nat → Prop), w.ownsRow base 37 1 v xss.length vs ∧ (∀ i b, Q i b → base ≤ b ∧ b < w.heap.size ∧ v.ownBlock ≠ some b) ∧ (∀ i j b, Q i b → Q j b → i = j) ∧
    ∀ i (h : i < xss.length), ∃ u, vs[i]? = some u ∧ Ints w (Q i) u xss[i]
theorem OwnSS.made (w : World) (base : Nat) (hb : base ≤ w.heap.size) : OwnSS (w.alloc (.cells #[] 37)) base (.slice (some ⟨w.heap.size, 0, none⟩) 0 0) [] :=
  ⟨[], fun _ _ => False, World.ownsRow_made w _ 0 hb (by unfold Go.maxLen; omega) (by simp), fun _ _ h => h.elim, fun _ _ _ h => h.elim, fun i h => by simp at h⟩
theorem OwnSS.up {w w' : World} {base : Nat} {v : Value} {xss : List (List Int)} (h : OwnSS w base v xss) (g : Up w w') : OwnSS w' base v xss := by
  obtain ⟨vs, Q, h1, h2, h3, h4⟩ := h
  refine ⟨vs, Q, ownsRow_kept h1 g (fun _ _ h => h), fun i b hq => ?_, h3, fun i hi => ?_⟩
  · obtain ⟨a1, a2, a3⟩ := h2 i b hq
    exact ⟨a1, Nat.lt_of_lt_of_le a2 g.size, a3⟩
  · obtain ⟨u, hu, hk⟩ := h4 i hi
    exact ⟨u, hu, hk.up g⟩
theorem OwnSS.ss {w : World} {base : Nat} {v : Value} {xss : List (List Int)} (h : OwnSS w base v xss) : IntSS w (New base w.heap.size) v xss := by
  obtain ⟨vs, Q, h1, h2, h3, h4⟩ := h
  have hr := Raw.of_own h1
  obtain ⟨h0, A, c, rfl, a1, a2, a4, a5⟩ := hr
  refine ⟨vs, fun b => Value.ownBlock (.slice A xss.length c) = some b ∧ New base w.heap.size b, Q, ⟨h0, A, c, rfl, a1, a2, fun hp => ?_, a5⟩, fun b hb => hb.2, fun i b hq => ?_, h3, h4⟩
  · obtain ⟨b, o, rfl, hs, hb, hc⟩ := a4 hp
    exact ⟨b, o, rfl, ⟨rfl, hs⟩, hb, hc⟩
  · obtain ⟨q1, q2, q3⟩ := h2 i b hq
    exact ⟨⟨q1, q2⟩, fun hh => q3 hh.1⟩
theorem infoS : (Try.prog.info? 37).map (fun i => (i.zero, i.size, i.bytes)) = some (some (.slice none 0 0), 1, 24) := by kernel_rfl
set_option maxRecDepth 100000 in
/-- 'out = append(out, list)', where the list was made behind the row -/
theorem wp_append_ss {w : World} {ops : Array Oper} {rest : List Oper} {o : Oper} {a : Act} {Q : Exit → Act → World → Prop} (hgd : o.guard = none) (s x : Operand)
    (ho : o.op = .call { callee := .builtin .append, args := #[s, x], argTypes := #[34, 34] })
    (base : Nat) (wr : World) (v : Value) (xss : List (List Int)) (hs : a.eval s = v) (hown : OwnSS wr base v xss) (hup : Up wr w)
    (g : Nat) (u : Value) (ys : List Int) (hx : a.eval x = .slice (some ⟨g, 0, none⟩) 1 1) (hc : w.cell? ⟨g, 0, none⟩ = some u) (hu : Ints w (New wr.heap.size w.heap.size) u ys) (hlen : xss.length ≤ 1099511627) (hbase : base ≤ wr.heap.size)
    (h : ∀ v' w', OwnSS w' base v' (xss ++ [ys]) → Chg (fun k => base ≤ k) w w' → wpList Try.prog ops Q rest (a.put o.dst v') w') : wpList Try.prog ops Q (o :: rest) a w := by
  obtain ⟨i0, hi, hz0, hz1, hz2⟩ := info_parts infoS
  obtain ⟨A, c, rfl, -⟩ := hu.shape
  obtain ⟨vs, q, h1, h2, h3, h4⟩ := hown
  have hsz := hup.size
  have h1' := ownsRow_kept h1 hup (fun _ _ h => h)
  refine wpList_append_own2 (P := Try.prog) hgd s x 34 ho base 37 i0 (.slice none 0 0) 1 24 Try.underlying34 hi hz0 hz1 hz2 rfl (by decide) v xss.length _ hs h1' ⟨g, 0, none⟩ 1 1 [.slice A ys.length c] hx rfl ?_ ?_ ?_ ?_ (by omega) ?_
  · intro j r hr
    cases j with
    | zero => simp only [List.getElem?_cons_zero, Option.some.injEq] at hr; subst hr; rw [add_zero]; exact hc
    | succ j => simp at hr
  · intro r hr; simp at hr; subst hr; rfl
  · unfold Go.maxLen; omega
  · omega
  · intro v' w' k1 k2 k3
    have hlt := h1.lt
    have hown2 : ∀ b, v.ownBlock = some b → b < wr.heap.size := fun b hb => (hlt b hb).2
    have hvl : vs.length = xss.length := by have := h1.1; omega
    refine h v' w' ⟨vs ++ [.slice A ys.length c], fun i b => (i < xss.length ∧ q i b) ∨ (i = xss.length ∧ New wr.heap.size w.heap.size b), by simpa using k1, ?_, ?_, ?_⟩ ((Chg.refl _ _).grown k2 fun k hk => .inl (hlt k hk).1)
    · rintro i b (⟨hi', hq⟩ | ⟨rfl, hq⟩)
      · obtain ⟨a1, a2, a3⟩ := h2 i b hq
        refine ⟨a1, by have := k2.size; omega, fun hh => ?_⟩
        rcases k3 b hh with k4 | k4
        · exact a3 k4
        · omega
      · refine ⟨by have := hq.1; omega, by have := k2.size; have := hq.2; omega, fun hh => ?_⟩
        rcases k3 b hh with k4 | k4
        · have := hown2 b k4; have := hq.1; omega
        · have := hq.2; omega
    · rintro i j b (⟨hi', hq⟩ | ⟨rfl, hq⟩) (⟨hj', hq'⟩ | ⟨rfl, hq'⟩)
      · exact h3 i j b hq hq'
      · have := (h2 i b hq).2.1; have := hq'.1; omega
      · have := (h2 j b hq').2.1; have := hq.1; omega
      · rfl
    · intro i hi'
      have hC := Chg.of_grown k2
      by_cases he : i < xss.length
      · obtain ⟨r, hr, hk⟩ := h4 i he
        refine ⟨r, by rw [List.getElem?_append_left (by omega)]; exact hr, ?_⟩
        rw [List.getElem_append_left he]
        exact ((hk.up hup).keep hC (fun b _ hq hb => (h2 i b hq).2.2 hb)).mono (fun b _ hq => .inl ⟨he, hq⟩)
      · have hi2 : i = xss.length := by simp at hi'; omega
        subst hi2
        refine ⟨.slice A ys.length c, by rw [List.getElem?_append_right (by omega), hvl]; simp, ?_⟩
        rw [List.getElem_append_right (by omega)]
        simp only [Nat.sub_self, List.getElem_cons_zero]
        exact (hu.keep hC (fun b _ hq hb => by have := hown2 b hb; have := hq.1; omega)).mono (fun b _ hq => .inr ⟨by first | rfl | trivial, hq⟩)
end Go.Proofs.Ytjgdcjhmfbefdaa
