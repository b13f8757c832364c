/- Moves: one move as data, its tests, its copy. No condition. The laws' own copies of slices of records, and their sizes. No condition but room. The operations of letters of columns; CrossingOps on both sides. No condition but room. -/
import Derived.Test.YtchfjglofmphfaaPD3
import Derived.Lib.SmallJoins
import Derived.Test.YtchfjglofmphfaaMoves
import Derived.Test.YtchfjglofmphfaaPD7
import Derived.Test.YtchfjglofmphfaaPD8
namespace Go.Proofs.Ytchfjglofmphfaa
open Go.ChangeShapes Go.WideShapes Go.ChangeAt Go.RowKit
def isMoveP (f t : Int) : Prop := (0 ≤ f ∧ f ≤ 23) ∧ (0 ≤ t ∧ t ≤ 23) ∧ f ≠ t ∧ (-3 ≤ t - f ∧ t - f ≤ 3)
instance (f t : Int) : Decidable (isMoveP f t) := inferInstanceAs (Decidable (_ ∧ _))
theorem move_cases (f t : Int) : (f < 0 ∨ 23 < f) ∨ ((0 ≤ f ∧ f ≤ 23) ∧ (t < 0 ∨ 23 < t)) ∨ ((0 ≤ f ∧ f ≤ 23) ∧ (0 ≤ t ∧ t ≤ 23) ∧ f = t) ∨
    ((0 ≤ f ∧ f ≤ 23) ∧ (0 ≤ t ∧ t ≤ 23) ∧ f ≠ t ∧ (t - f < -3 ∨ 3 < t - f)) ∨ ((0 ≤ f ∧ f ≤ 23) ∧ (0 ≤ t ∧ t ≤ 23) ∧ f ≠ t ∧ (-3 ≤ t - f ∧ t - f ≤ 3)) := by omega
set_option maxHeartbeats 4000000 in
theorem isMove_any (w : World) (f t : Int) :
    Calls Try.prog 88 #[.agg #[.int .i64 f, .int .i64 t]] w fun e w' => e = .returned (.bool (decide (isMoveP f t))) ∧ Up w w' := by
  rcases move_cases f t with h | ⟨h, h2⟩ | ⟨h, h2, h3⟩ | ⟨h, h2, h3, h4⟩ | ⟨h, h2, h3, h4⟩
  · rw [show decide (isMoveP f t) = false from decide_eq_false (fun hh => by unfold isMoveP at hh; omega)]
    go_enter Try.func88, Try.ntmps88
    go_wp2_with (first | (go_at_call 82; refine (isAt_yes _ _ ?_).mono ?_; (omega); rintro e w' ⟨rfl, rfl⟩) | (go_at_call 82; refine (isAt_no _ _ ?_).mono ?_; (omega); rintro e w' ⟨rfl, rfl⟩) | (go_at_call 69; refine (within_yes _ _ _ _ ?_).mono ?_; (omega); rintro e w' ⟨rfl, rfl⟩) | (go_at_call 69; refine (within_no _ _ _ _ ?_).mono ?_; (omega); rintro e w' ⟨rfl, rfl⟩))
    go_ret
    exact ⟨rfl, by repeat (first | exact Chg.refl _ _ | refine Chg.alloc ?_ _)⟩
  · rw [show decide (isMoveP f t) = false from decide_eq_false (fun hh => by unfold isMoveP at hh; omega)]
    go_enter Try.func88, Try.ntmps88
    go_wp2_with (first | (go_at_call 82; refine (isAt_yes _ _ ?_).mono ?_; (omega); rintro e w' ⟨rfl, rfl⟩) | (go_at_call 82; refine (isAt_no _ _ ?_).mono ?_; (omega); rintro e w' ⟨rfl, rfl⟩) | (go_at_call 69; refine (within_yes _ _ _ _ ?_).mono ?_; (omega); rintro e w' ⟨rfl, rfl⟩) | (go_at_call 69; refine (within_no _ _ _ _ ?_).mono ?_; (omega); rintro e w' ⟨rfl, rfl⟩))
    go_ret
    exact ⟨rfl, by repeat (first | exact Chg.refl _ _ | refine Chg.alloc ?_ _)⟩
  · rw [show decide (isMoveP f t) = false from decide_eq_false (fun hh => by unfold isMoveP at hh; omega)]
    subst h3
    have hn : (f != f) = false := by simp
    go_enter Try.func88, Try.ntmps88
    go_wp2_with (first | (go_at_call 82; refine (isAt_yes _ _ ?_).mono ?_; (omega); rintro e w' ⟨rfl, rfl⟩) | (go_at_call 82; refine (isAt_no _ _ ?_).mono ?_; (omega); rintro e w' ⟨rfl, rfl⟩) | (go_at_call 69; refine (within_yes _ _ _ _ ?_).mono ?_; (omega); rintro e w' ⟨rfl, rfl⟩) | (go_at_call 69; refine (within_no _ _ _ _ ?_).mono ?_; (omega); rintro e w' ⟨rfl, rfl⟩))
    go_ret
    exact ⟨rfl, by repeat (first | exact Chg.refl _ _ | refine Chg.alloc ?_ _)⟩
  · rw [show decide (isMoveP f t) = false from decide_eq_false (fun hh => by unfold isMoveP at hh; omega)]
    have hn : (f != t) = true := by simpa using h3
    clear h3
    go_enter Try.func88, Try.ntmps88
    go_wp2_with (first | (go_at_call 82; refine (isAt_yes _ _ ?_).mono ?_; (omega); rintro e w' ⟨rfl, rfl⟩) | (go_at_call 82; refine (isAt_no _ _ ?_).mono ?_; (omega); rintro e w' ⟨rfl, rfl⟩) | (go_at_call 69; refine (within_yes _ _ _ _ ?_).mono ?_; (omega); rintro e w' ⟨rfl, rfl⟩) | (go_at_call 69; refine (within_no _ _ _ _ ?_).mono ?_; (omega); rintro e w' ⟨rfl, rfl⟩))
    go_ret
    exact ⟨rfl, by repeat (first | exact Chg.refl _ _ | refine Chg.alloc ?_ _)⟩
  · rw [show decide (isMoveP f t) = true from decide_eq_true ⟨h, h2, h3, h4⟩]
    have hn : (f != t) = true := by simpa using h3
    clear h3
    go_enter Try.func88, Try.ntmps88
    go_wp2_with (first | (go_at_call 82; refine (isAt_yes _ _ ?_).mono ?_; (omega); rintro e w' ⟨rfl, rfl⟩) | (go_at_call 82; refine (isAt_no _ _ ?_).mono ?_; (omega); rintro e w' ⟨rfl, rfl⟩) | (go_at_call 69; refine (within_yes _ _ _ _ ?_).mono ?_; (omega); rintro e w' ⟨rfl, rfl⟩) | (go_at_call 69; refine (within_no _ _ _ _ ?_).mono ?_; (omega); rintro e w' ⟨rfl, rfl⟩))
    go_ret
    exact ⟨rfl, by repeat (first | exact Chg.refl _ _ | refine Chg.alloc ?_ _)⟩
end Go.Proofs.Ytchfjglofmphfaa
namespace Go.Proofs.Ytchfjglofmphfaa
open Go.ChangeShapes Go.WideShapes Go.ChangeAt Go.RowKit
/-- in the middle of copying: all cells of the row are there; the first ones bear what they should -/
def Copying (w : World) (b m n j : Nat) (cs : List Value) : Prop :=
  ∀ t, t < n * m → (∃ u, w.cell? ⟨b, t, none⟩ = some u) ∧ w.frozen? ⟨b, t, none⟩ = false ∧ (t < j * m → w.cell? ⟨b, t, none⟩ = cs[t]?)
theorem Copying.cell {w : World} {b m n j : Nat} {cs : List Value} (h : Copying w b m n j cs) (hj : j < n) (i : Nat) (hi : i < m) :
    ∃ u, w.cell? ⟨b, j * m + i, none⟩ = some u ∧ w.frozen? ⟨b, j * m + i, none⟩ = false := by
  have hlt : j * m + i < n * m := by
    have : (j + 1) * m ≤ n * m := Nat.mul_le_mul_right m hj
    rw [Nat.add_mul] at this
    omega
  obtain ⟨⟨u, h1⟩, h2, _⟩ := h (j * m + i) hlt
  exact ⟨u, h1, h2⟩
theorem Copying.next {w : World} {b m n j : Nat} {cs : List Value} (h : Copying w b m n j cs) (hj : j < n) {vs : List Value} (hl : vs.length = m) (hv : ∀ i (hi : i < vs.length), cs[j * m + i]? = some vs[i]) :
    Copying (w.setCells b (j * m) vs) b m n (j + 1) cs := by
  intro t ht
  have hfr := (h t ht).2.1
  refine ⟨?_, by rw [World.frozen?_setCells]; exact hfr, fun hlt => ?_⟩
  · by_cases hin : j * m ≤ t ∧ t < (j + 1) * m
    · rw [Nat.add_mul] at hin
      have := World.cell?_setCells_in b vs (j * m) w (fun i hi => by
        obtain ⟨u, hu, _⟩ := h.cell hj i (by omega)
        simp [hu]) (t - j * m) (by omega)
      rw [show j * m + (t - j * m) = t by omega] at this
      exact ⟨_, this⟩
    · rw [Nat.add_mul] at hin
      rw [World.cell?_setCells_out b vs _ w _ (fun _ _ => by simp only []; omega)]
      exact (h t ht).1
  · by_cases hin : j * m ≤ t
    · rw [Nat.add_mul] at hlt
      have := World.cell?_setCells_in b vs (j * m) w (fun i hi => by
        obtain ⟨u, hu, _⟩ := h.cell hj i (by omega)
        simp [hu]) (t - j * m) (by omega)
      rw [show j * m + (t - j * m) = t by omega] at this
      rw [this]
      have h2 := hv (t - j * m) (by omega)
      rw [show j * m + (t - j * m) = t by omega] at h2
      rw [h2]
    · rw [World.cell?_setCells_out b vs _ w _ (fun _ _ => by simp only []; omega)]
      exact (h t ht).2.2 (by omega)
theorem Copying.up {w w' : World} {b m n j : Nat} {cs : List Value} (h : Copying w b m n j cs) (g : Up w w') : Copying w' b m n j cs := fun t ht => by
  obtain ⟨⟨u, h1⟩, h2, h3⟩ := h t ht
  have hb : b < w.heap.size := World.block_lt_of_cell? w _ h1
  have hc := g.cell h1 id
  refine ⟨⟨u, hc⟩, ?_, fun hlt => ?_⟩
  · have hk := g.block b hb id
    simpa [World.frozen?, hk] using h2
  · rw [hc, ← h1]; exact h3 hlt
theorem Chg.setCellsNew {S : Nat → Prop} {a : World} {b : Nat} (hb : a.heap.size ≤ b) : ∀ (vs : List Value) (o : Nat) {w : World}, Chg S a w → Chg S a (w.setCells b o vs)
  | [], _, _, h => h
  | v :: r, o, _, h => Chg.setCellsNew hb r (o + 1) (h.setCell (.inr hb) v)
theorem Copying.done {w : World} {S : Nat → Prop} {b m n : Nat} {cs : List Value} (h : Copying w b m n n cs) (hS : S b) (hb : b < w.heap.size) (hl : cs.length = n * m) (hm : n ≤ 9223372036854775807) :
    Raw w S m (.slice (some ⟨b, 0, none⟩) n n) n cs :=
  ⟨hl, _, n, rfl, Nat.le_refl _, hm, fun _ => ⟨b, 0, rfl, hS, hb, fun t ht => by
    rw [Nat.zero_add]
    have := h t (by omega)
    exact ⟨(this.2.2 (by omega)).trans (List.getElem?_eq_getElem ht), this.2.1⟩⟩, by simp⟩
theorem Copying.start (w : World) (m n : Nat) (cs : List Value) (arr : Array Value) (e : TypeId) (hz : arr.size = n * m) : Copying (w.alloc (.cells arr e)) w.heap.size m n 0 cs := fun t ht =>
  ⟨⟨arr[t]'(by omega), by rw [cell_new]; exact Array.getElem?_eq_getElem (by omega)⟩, frozen_new _ _ _ _, fun h0 => by omega⟩
end Go.Proofs.Ytchfjglofmphfaa
namespace Go.Proofs.Ytchfjglofmphfaa
open Go.ChangeShapes Go.WideShapes Go.ChangeAt Go.RowKit
set_option maxRecDepth 100000 in
/-- 'out = append(out, list...)': the source reads as a list of operations -/
theorem wp_append_ops2 {w : World} {ops : Array Oper} {rest : List Oper} {o : Oper} {a : Act} {Q : Exit → Act → World → Prop} (hgd : o.guard = none) (s x : Operand)
    (ho : o.op = .call { callee := .builtin .append, args := #[s, x], argTypes := #[60, 60] })
    (base : Nat) (v : Value) (xs : List OpM) (hs : a.eval s = v) (hown : OwnO w base v xs)
    (S : Nat → Prop) (u : Value) (ys : List OpM) (hx : a.eval x = u) (hsrc : Ops w S u ys) (hlen : xs.length + ys.length ≤ 1099511627776) (hbase : base ≤ w.heap.size)
    (h : ∀ v' w', OwnO w' base v' (xs ++ ys) → Chg (fun b => v.ownBlock = some b) w w' → (∀ b, v'.ownBlock = some b → v.ownBlock = some b ∨ w.heap.size ≤ b) → Chg (fun k => base ≤ k) w w' → wpList Try.prog ops Q rest (a.put o.dst v') w') : wpList Try.prog ops Q (o :: rest) a w := by
  obtain ⟨i0, hi, hz0, hz1, hz2⟩ := info_parts infoOp
  obtain ⟨⟨hl, A, c, rfl, hlc, hcm, hr, hnn⟩, hok⟩ := hsrc
  have hok' : ∀ y ∈ xs ++ ys, y.ok := fun y hy => (List.mem_append.1 hy).elim (hown.2 y) (hok y)
  cases A with
  | none =>
    have hy : ys = [] := by
      rcases Nat.eq_zero_or_pos ys.length with h0 | h0
      · exact List.eq_nil_of_length_eq_zero h0
      · obtain ⟨b, oo, h1, _⟩ := hr h0
        cases h1
    subst hy
    obtain rfl := hnn rfl
    refine wpList_append_own_none hgd s x 60 ho base 104 i0 8 Try.underlying60 hi v xs.length _ hs hown.1 hx ?_
    exact h v w (by simpa using hown) (Chg.refl _ _) (fun b hb => .inl hb) (Chg.refl _ _)
  | some ad =>
    have hnews : ∀ j q, (ys.flatMap OpM.cells)[j]? = some q → w.cell? (ad.add j) = some q := by
      intro j q hq
      obtain ⟨hj, he⟩ := List.getElem?_eq_some_iff.1 hq
      have hp : 0 < ys.length := by
        rcases Nat.eq_zero_or_pos ys.length with h0 | h0
        · rw [List.eq_nil_of_length_eq_zero h0] at hj; simp at hj
        · exact h0
      obtain ⟨b, oo, h1, _, _, hc⟩ := hr hp
      injection h1 with h1
      subst h1
      have := (hc j hj).1
      rw [he] at this
      rw [← this]
      unfold Addr.add
      by_cases h0 : j = 0 <;> simp [h0]
    refine wpList_append_own2 (P := Try.prog) hgd s x 60 ho base 104 i0 _ 8 64 Try.underlying60 hi hz0 hz1 hz2 rfl (by decide) v xs.length _ hs hown.1 ad ys.length c (ys.flatMap OpM.cells) hx hl hnews ?_ ?_ ?_ hbase ?_
    · intro q hq
      obtain ⟨y, _, hy⟩ := List.mem_flatMap.1 hq
      exact cells_one y q hy
    · unfold Go.maxLen; omega
    · omega
    · intro v' w' h2 h3 h4
      exact h v' w' ⟨by simpa using h2, hok'⟩ (Chg.of_grown h3) h4 ((Chg.refl _ _).grown h3 fun k hk => .inl (hown.1.lt k hk).1)
def crossL (first : Int) (ws : List Int) : List OpM := ws.flatMap fun k => crossM (first + 2 * (absI k - 1)) (decide (0 < k))
theorem crossL_len (first : Int) (ws : List Int) : (crossL first ws).length = 12 * ws.length := by
  induction ws with
  | nil => rfl
  | cons k ws ih => simp only [crossL, List.flatMap_cons, List.length_append, List.length_cons] at *; rw [ih, crossM_length]; omega
theorem crossL_take (first : Int) {ws : List Int} {j : Nat} (h : j < ws.length) : crossL first (ws.take (j + 1)) = crossL first (ws.take j) ++ crossM (first + 2 * (absI ws[j] - 1)) (decide (0 < ws[j])) := by
  unfold crossL
  rw [List.take_succ_eq_append_getElem h, List.flatMap_append]
  simp
def letOk (hi : Int) (ws : List Int) : Prop := ∀ k ∈ ws, 1 ≤ absI k ∧ absI k ≤ hi
theorem absI_le {k hi : Int} (h : absI k ≤ hi) : -hi ≤ k ∧ k ≤ hi := by unfold absI at h; split at h <;> omega
theorem needle_letter {k : Int} (h : 1 ≤ absI k ∧ absI k ≤ 7) : (1 ≤ 2 * (absI k - 1) + 1 ∧ 2 * (absI k - 1) + 1 ≤ 20) ∧ (0 ≤ absI k - 1 ∧ absI k - 1 ≤ 1000) := by omega
def crossingOut (r : RowM) : List OpM := if rowCodeM r.d r.c r.xs = 0 then crossL 1 (letL 0 r.xs) else []
theorem crossingOut_bd (r : RowM) : cntOps (crossingOut r) ≤ 1000000 := by
  unfold crossingOut cntOps
  split
  · rename_i h
    have hl := (laid_of h).len
    have := letL_length r.xs 0
    rw [crossL_len]
    omega
  · simp
end Go.Proofs.Ytchfjglofmphfaa
