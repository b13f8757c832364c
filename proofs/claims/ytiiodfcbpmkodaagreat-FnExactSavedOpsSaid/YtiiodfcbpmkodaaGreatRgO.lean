/- The operations of this program, each run alone. No condition. -/
import Derived.Test.YtiiodfcbpmkodaaGreatRgL
import Derived.Test.YtiiodfcbpmkodaaGreatMOff
set_option linter.unusedSimpArgs false
set_option linter.unusedVariables false
set_option maxRecDepth 100000
namespace Go.Proofs.YtiiodfcbpmkodaaGreat
open Go.ChangeShapes Go.WideShapes Go.ChangeAt Go.RowKit
theorem ld_int (p : Addr) (v : Value) (w : World) (h : w.cell? p = some v) : (Instr.loadAt 2 (.pointer (some p))).run Tryz.prog w = .ok v w := by go_simp
theorem ld_ints (p : Addr) (v : Value) (w : World) (h : w.cell? p = some v) : (Instr.loadAt 34 (.pointer (some p))).run Tryz.prog w = .ok v w := by go_simp
theorem ld_infos (p : Addr) (v : Value) (w : World) (h : w.cell? p = some v) : (Instr.loadAt 58 (.pointer (some p))).run Tryz.prog w = .ok v w := by go_simp
theorem ld_cars (p : Addr) (v : Value) (w : World) (h : w.cell? p = some v) : (Instr.loadAt 57 (.pointer (some p))).run Tryz.prog w = .ok v w := by go_simp
theorem ld_needle (b i : Nat) (x y : Value) (w : World) (h0 : w.cell? ⟨b, i, none⟩ = some x) (h1 : w.cell? ⟨b, i + 1, none⟩ = some y) : (Instr.loadAt 42 (.pointer (some ⟨b, i, none⟩))).run Tryz.prog w = .ok (.agg #[x, y]) w := by go_simp
theorem ld_op (b i : Nat) (x0 x1 x2 x3 x4 x5 x6 x7 : Value) (w : World) (h0 : w.cell? ⟨b, i, none⟩ = some x0) (h1 : w.cell? ⟨b, i + 1, none⟩ = some x1) (h2 : w.cell? ⟨b, i + 2, none⟩ = some x2) (h3 : w.cell? ⟨b, i + 3, none⟩ = some x3)
    (h4 : w.cell? ⟨b, i + 4, none⟩ = some x4) (h5 : w.cell? ⟨b, i + 5, none⟩ = some x5) (h6 : w.cell? ⟨b, i + 6, none⟩ = some x6) (h7 : w.cell? ⟨b, i + 7, none⟩ = some x7) :
    (Instr.loadAt 44 (.pointer (some ⟨b, i, none⟩))).run Tryz.prog w = .ok (.agg #[x0, x1, x2, x3, x4, x5, x6, x7]) w := by go_simp
theorem fa_m0 (b : Nat) (w : World) : (Instr.fieldAt 60 (.pointer (some ⟨b, 0, none⟩)) 0).run Tryz.prog w = .ok (.pointer (some ⟨b, 0, none⟩)) w := by go_simp
theorem fa_m1 (b : Nat) (w : World) : (Instr.fieldAt 60 (.pointer (some ⟨b, 0, none⟩)) 1).run Tryz.prog w = .ok (.pointer (some ⟨b, 1, none⟩)) w := by go_simp
theorem fa_m4 (b : Nat) (w : World) : (Instr.fieldAt 60 (.pointer (some ⟨b, 0, none⟩)) 4).run Tryz.prog w = .ok (.pointer (some ⟨b, 4, none⟩)) w := by go_simp
theorem fa_m5 (b : Nat) (w : World) : (Instr.fieldAt 60 (.pointer (some ⟨b, 0, none⟩)) 5).run Tryz.prog w = .ok (.pointer (some ⟨b, 5, none⟩)) w := by go_simp
theorem fa_m6 (b : Nat) (w : World) : (Instr.fieldAt 60 (.pointer (some ⟨b, 0, none⟩)) 6).run Tryz.prog w = .ok (.pointer (some ⟨b, 6, none⟩)) w := by go_simp
theorem fa_o0 (b i : Nat) (w : World) : (Instr.fieldAt 44 (.pointer (some ⟨b, i, none⟩)) 0).run Tryz.prog w = .ok (.pointer (some ⟨b, i, none⟩)) w := by go_simp
theorem fa_o1 (b i : Nat) (w : World) : (Instr.fieldAt 44 (.pointer (some ⟨b, i, none⟩)) 1).run Tryz.prog w = .ok (.pointer (some ⟨b, i + 1, none⟩)) w := by go_simp
theorem fa_o2 (b i : Nat) (w : World) : (Instr.fieldAt 44 (.pointer (some ⟨b, i, none⟩)) 2).run Tryz.prog w = .ok (.pointer (some ⟨b, i + 2, none⟩)) w := by go_simp
theorem fa_o3 (b i : Nat) (w : World) : (Instr.fieldAt 44 (.pointer (some ⟨b, i, none⟩)) 3).run Tryz.prog w = .ok (.pointer (some ⟨b, i + 4, none⟩)) w := by go_simp
theorem fa_o4 (b i : Nat) (w : World) : (Instr.fieldAt 44 (.pointer (some ⟨b, i, none⟩)) 4).run Tryz.prog w = .ok (.pointer (some ⟨b, i + 6, none⟩)) w := by go_simp
theorem fa_n0 (b i : Nat) (w : World) : (Instr.fieldAt 42 (.pointer (some ⟨b, i, none⟩)) 0).run Tryz.prog w = .ok (.pointer (some ⟨b, i, none⟩)) w := by go_simp
theorem fa_n1 (b i : Nat) (w : World) : (Instr.fieldAt 42 (.pointer (some ⟨b, i, none⟩)) 1).run Tryz.prog w = .ok (.pointer (some ⟨b, i + 1, none⟩)) w := by go_simp
theorem fa_c1 (b i : Nat) (w : World) : (Instr.fieldAt 96 (.pointer (some ⟨b, i, none⟩)) 1).run Tryz.prog w = .ok (.pointer (some ⟨b, i + 1, none⟩)) w := by go_simp
theorem bs_int (n : Int) (w : World) : (Instr.buildSlice 34 1 #[(0, .int .i64 n)]).run Tryz.prog w = .ok (.slice (some ⟨w.heap.size, 0, none⟩) 1 1) (w.alloc (.cells #[.int .i64 n] 2)) := by go_simp
theorem x_build1 {ρ : Operand → Value} {o : Oper} {w w' : World} {u v : Value} (t : TypeId) (x : Operand) (ho : o.op = .buildSlice t 1 #[(0, x)]) (hx : ρ x = u) (h : (Instr.buildSlice t 1 #[(0, u)]).run Tryz.prog w = .ok v w') : (execOp ρ o).run Tryz.prog w = .ok (.value v) w' := by
  unfold execOp; rw [ho]; simp [hx, h, Result.andThen]
theorem bs_lists2 (A B : Option Addr) (n c m d : Nat) (w : World) : (Instr.buildSlice 56 2 #[(0, .slice A n c), (1, .slice B m d)]).run Tryz.prog w = .ok (.slice (some ⟨w.heap.size, 0, none⟩) 2 2) (w.alloc (.cells #[.slice A n c, .slice B m d] 34)) := by go_simp
theorem x_build2 {ρ : Operand → Value} {o : Oper} {w w' : World} {u1 u2 v : Value} (t : TypeId) (x y : Operand) (ho : o.op = .buildSlice t 2 #[(0, x), (1, y)]) (hx : ρ x = u1) (hy : ρ y = u2) (h : (Instr.buildSlice t 2 #[(0, u1), (1, u2)]).run Tryz.prog w = .ok v w') : (execOp ρ o).run Tryz.prog w = .ok (.value v) w' := by
  unfold execOp; rw [ho]; simp [hx, hy, h, Result.andThen]
theorem raw_new2 (w : World) (a b : Value) (e : TypeId) : Raw (w.alloc (.cells #[a, b] e)) (fun _ => True) 1 (.slice (some ⟨w.heap.size, 0, none⟩) 2 2) 2 [a, b] :=
  ⟨rfl, _, 2, rfl, by omega, by omega, fun _ => ⟨w.heap.size, 0, rfl, trivial, by simp, fun t ht => by
    rw [Nat.zero_add]
    refine ⟨?_, frozen_new _ _ _ _⟩
    rw [cell_new]
    match t, ht with
    | 0, _ => rfl
    | 1, _ => rfl⟩, by simp⟩
theorem x_build {ρ : Operand → Value} {o : Oper} {w : World} {v : Value} (t : TypeId) (ps : Array (Nat × Operand)) (ho : o.op = .build t ps) (qs : Array (Nat × Value)) (hq : (ps.map fun (i, x) => (i, ρ x)) = qs) (h : (Instr.build t qs).run Tryz.prog w = .ok v w) : (execOp ρ o).run Tryz.prog w = .ok (.value v) w := by
  unfold execOp; rw [ho]; simp only [hq]; simp [h, Result.andThen]
/-- an append to a row of one's own -/
theorem x_append {ρ : Operand → Value} {o : Oper} {w : World} (s x : Operand) (t : TypeId)
    (ho : o.op = .call { callee := .builtin .append, args := #[s, x], argTypes := #[t, t] })
    (base : Nat) (e : TypeId) (i : TypeInfo) (z : Value) (size bytes : Nat) (ht : Tryz.prog.underlying t = some (.slice e)) (hi : Tryz.prog.info? e = some i) (hz : i.zero = some z)
    (hsize : i.size = size) (hby : i.bytes = bytes) (hzs : z.cells.size = size) (hsz : 0 < size)
    (v : Value) (n : Nat) (xs : List Value) (hs : ρ s = v) (hown : w.ownsRow base e size v n xs)
    (ad : Addr) (m c : Nat) (news : List Value) (hx : ρ x = .slice (some ad) m c) (hl : news.length = m * size) (hnews : ∀ j u, news[j]? = some u → w.cell? (ad.add j) = some u) (h1 : ∀ u ∈ news, u.oneCell' = true)
    (h63 : n + m ≤ maxLen) (hbytes : (n + m) * bytes ≤ 140737488355328) (hbase : base ≤ w.heap.size) :
    ∃ v' w', (execOp ρ o).run Tryz.prog w = .ok (.value v') w' ∧ w'.ownsRow base e size v' (n + m) (xs ++ news) ∧ w.grownBy w' v.ownBlock ∧ (∀ g, v'.ownBlock = some g → v.ownBlock = some g ∨ w.heap.size ≤ g) := by
  obtain ⟨v', w', hr, h2, h3, _⟩ := run_append_own (P := Tryz.prog) w base t o.type e i z size bytes ht hi hz hsize hby hzs hsz v n xs hown ad m c news hl hnews h1 h63 hbytes hbase
  have h5 := append_block (P := Tryz.prog) base t o.type e i z size bytes ht hi hz hsize hby hzs hsz v n xs hown ad m c news hl hnews h1 h63 hbytes hr
  refine ⟨v', w', ?_, h2, h3, h5⟩
  unfold execOp
  simp only [ho, resolve, invoke, builtin, Sem.run_bind, Sem.run_pure, Result.andThen_ok, List.map_toArray, List.map_cons, List.map_nil, hs, hx, hr]
theorem x_append_int {ρ : Operand → Value} {o : Oper} {w : World} (s x : Operand)
    (ho : o.op = .call { callee := .builtin .append, args := #[s, x], argTypes := #[34, 34] })
    (v : Value) (xs : List Int) (hs : ρ s = v) (hown : OwnI w 0 v xs) (g : Nat) (n : Int) (hx : ρ x = .slice (some ⟨g, 0, none⟩) 1 1)
    (hc : w.cell? ⟨g, 0, none⟩ = some (.int .i64 n)) (hn : I64 n) (hlen : xs.length ≤ 1099511627776) :
    ∃ v' w', (execOp ρ o).run Tryz.prog w = .ok (.value v') w' ∧ OwnI w' 0 v' (xs ++ [n]) ∧ Chg (fun b => v.ownBlock = some b) w w' ∧ (∀ b, v'.ownBlock = some b → v.ownBlock = some b ∨ w.heap.size ≤ b) := by
  obtain ⟨i0, hi, hz0, hz1, hz2⟩ := info_parts info2
  obtain ⟨v', w', hr, h2, h3, h4⟩ := x_append s x 34 ho 0 2 i0 (.int .i64 0) 1 8 Tryz.underlying34 hi hz0 hz1 hz2 rfl (by decide) v xs.length _ hs hown.1 ⟨g, 0, none⟩ 1 1 [.int .i64 n] hx rfl
    (fun j u hu => by
      cases j with
      | zero => simp only [List.getElem?_cons_zero, Option.some.injEq] at hu; subst hu; exact hc
      | succ j => simp at hu)
    (fun u hu => by simp at hu; subst hu; rfl) (by unfold Go.maxLen; omega) (by omega) (Nat.zero_le _)
  refine ⟨v', w', hr, ⟨by simpa using h2, fun y hy => ?_⟩, Chg.of_grown h3, h4⟩
  rcases List.mem_append.1 hy with h5 | h5
  · exact hown.2 y h5
  · simp at h5; subst h5; exact hn
/-- an append to a row of one's own, of numbers that lie anywhere -/
theorem x_append_ints {ρ : Operand → Value} {o : Oper} {w : World} (s x : Operand)
    (ho : o.op = .call { callee := .builtin .append, args := #[s, x], argTypes := #[34, 34] })
    (v : Value) (xs : List Int) (hs : ρ s = v) (hown : OwnI w 0 v xs) (S : Nat → Prop) (u : Value) (ys : List Int) (hx : ρ x = u) (hsrc : Ints w S u ys) (hlen : xs.length + ys.length ≤ 1099511627776) :
    ∃ v' w', (execOp ρ o).run Tryz.prog w = .ok (.value v') w' ∧ OwnI w' 0 v' (xs ++ ys) ∧ Chg (fun b => v.ownBlock = some b) w w' ∧ (∀ b, v'.ownBlock = some b → v.ownBlock = some b ∨ w.heap.size ≤ b) := by
  obtain ⟨i0, hi, hz0, hz1, hz2⟩ := info_parts info2
  obtain ⟨A, c, rfl, hlc, hcm, hok, hr, hnn⟩ := hsrc
  cases A with
  | none =>
    have hy : ys = [] := by
      rcases Nat.eq_zero_or_pos ys.length with h0 | h0
      · exact List.eq_nil_of_length_eq_zero h0
      · obtain ⟨b, oo, h1, _⟩ := hr h0
        cases h1
    subst hy
    obtain rfl := hnn rfl
    have hrun := run_append_owned_none (P := Tryz.prog) (w := w) 0 34 o.type 2 i0 1 Tryz.underlying34 hi v xs.length _ hown.1
    refine ⟨v, w, ?_, by simpa using hown, Chg.refl _ _, fun b hb => .inl hb⟩
    unfold execOp
    simp [ho, resolve, invoke, builtin, hs, hx, hrun, Result.andThen]
  | some ad =>
    have hnews : ∀ j q, (ys.map (Value.int .i64))[j]? = some q → w.cell? (ad.add j) = some q := by
      intro j q hq
      obtain ⟨hj, he⟩ := List.getElem?_eq_some_iff.1 hq
      have hj' : j < ys.length := by simpa using hj
      obtain ⟨b, oo, h1, _, _, hc⟩ := hr (by omega)
      injection h1 with h1
      subst h1
      have := (hc j hj').1
      rw [← he, List.getElem_map, ← this]
      unfold Addr.add
      by_cases h0 : j = 0 <;> simp [h0]
    obtain ⟨v', w', hr', h2, h3, h4⟩ := x_append s x 34 ho 0 2 i0 (.int .i64 0) 1 8 Tryz.underlying34 hi hz0 hz1 hz2 rfl (by decide) v xs.length _ hs hown.1 ad ys.length c (ys.map (Value.int .i64)) hx (by simp) hnews
      (fun q hq => by obtain ⟨y, _, rfl⟩ := List.mem_map.1 hq; rfl) (by unfold Go.maxLen; omega) (by omega) (Nat.zero_le _)
    exact ⟨v', w', hr', ⟨by simpa using h2, fun y hy => (List.mem_append.1 hy).elim (hown.2 y) (hok y)⟩, Chg.of_grown h3, h4⟩
end Go.Proofs.YtiiodfcbpmkodaaGreat
