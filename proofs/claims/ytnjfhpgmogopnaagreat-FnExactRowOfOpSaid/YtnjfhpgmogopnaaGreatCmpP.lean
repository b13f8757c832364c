/- Small pieces of the reference's way to a compiled program. No condition but room. -/
import Derived.Test.YtnjfhpgmogopnaaGreatPG9
import Derived.Test.YtnjfhpgmogopnaaGreatPG10
import Derived.Test.YtnjfhpgmogopnaaGreatPG5
import Derived.Laws.ResultCell
set_option linter.unusedSimpArgs false
set_option linter.unusedVariables false
set_option maxRecDepth 100000
set_option maxHeartbeats 1000000
namespace Go.Proofs.YtnjfhpgmogopnaaGreat
open Go.ChangeShapes Go.WideShapes Go.ChangeAt Go.RowKit
set_option maxHeartbeats 1000000 in
theorem l00Has_any (w : World) (S : Nat → Prop) (v : Value) (xs : List Int) (x : Int) (h : Ints w S v xs) :
    Calls Tryz.prog 45 #[v, .int .i64 x] w fun e w' => e = .returned (.bool (decide (x ∈ xs))) ∧ w = w' := by
  obtain ⟨A, c, rfl, hlc, hcm, -⟩ := h.shape
  have H := Lib.hid h
  clear h
  go_enter Tryz.func45, Tryz.ntmps45
  go_wp2
  go_loop [5] (fun i => ∃ j : Nat, j ≤ xs.length ∧ i = .int .i64 j ∧ Hid (x ∉ xs.take j)) (fun i => xs.length - (intOf i).toNat)
  case atStart => exact ⟨0, by omega, rfl, by simp [Hid]⟩
  case round =>
    obtain ⟨j, hj, rfl, hno⟩ := hrel
    by_cases hlt : j < xs.length
    · obtain ⟨b1, o1, rfl, -, hc⟩ := H.out.ixm hlt
      have f1 := hc j hlt
      rw [ixm_eq hlt] at f1
      clear hc
      by_cases he : xs[j] = x
      · have HM := Lib.hid (show decide (x ∈ xs) = true from decide_eq_true (he ▸ List.getElem_mem hlt))
        rw [he] at f1
        have e1 : (x == x) = true := by simp
        clear he
        go_wp2
        go_ret
        exact ⟨ret_bool HM.out.symm, rfl⟩
      · have e1 : (xs[j] == x) = false := by simpa using he
        have HE := Lib.hid he
        clear he
        go_wp2
        go_round
        case rel => exact ⟨j + 1, by omega, by go_num, by show x ∉ _; rw [List.take_succ_eq_append_getElem hlt]; intro hm; rcases List.mem_append.1 hm with hm | hm; exact hno.out hm; exact HE.out (by simpa [eq_comm] using hm)⟩
        case measure => simp [intOf]; omega
    · obtain rfl : j = xs.length := by omega
      have HM := Lib.hid (show decide (x ∈ xs) = false from decide_eq_false (by have := hno.out; rwa [List.take_length] at this))
      go_wp2
      go_ret
      exact ⟨ret_bool HM.out.symm, rfl⟩
theorem l24In_any (w : World) (c d : Int) :
    Calls Tryz.prog 42 #[.int .i64 c, .int .i64 d] w fun e w' => e = .returned (.tuple #[(inOp d c).val, .int .i64 (inAt d)]) ∧ Up w w' := by
  by_cases h : d = -1
  · subst h
    go_enter Tryz.func42, Tryz.ntmps42
    go_wp2
    exact bodyPost_ret (v := .tuple #[.agg #[.int .i64 8, .int .i64 (-1), .int .i64 0, .int .i64 0, .int .i64 0, .int .i64 0, .int .i64 c, .int .i64 0], .int .i64 27]) (by rw [results_cell_tmp rfl]; go_simp) rfl ⟨rfl, (Chg.refl _ _).alloc _⟩
  · have t1 : (d == -1) = false := by simpa using h
    have HA : Hid (inAt d = -3) := Lib.hid (by unfold inAt; rw [if_neg h])
    clear h
    go_enter Tryz.func42, Tryz.ntmps42
    go_wp2
    exact bodyPost_ret (v := .tuple #[.agg #[.int .i64 8, .int .i64 d, .int .i64 0, .int .i64 0, .int .i64 0, .int .i64 0, .int .i64 c, .int .i64 0], .int .i64 (-3)]) (by rw [results_cell_tmp rfl]; go_simp) rfl ⟨by rw [HA.out]; rfl, (Chg.refl _ _).alloc _⟩
/-- a row of five numbers that tells where the carriers are -/
def Plc (w : World) (pb : Nat) (f : Int → Option Int) : Prop := pb < w.heap.size ∧ ∀ n : Nat, n < 5 → w.cell? ⟨pb, n, none⟩ = some (.int .i64 ((f n).getD 0)) ∧ w.frozen? ⟨pb, n, none⟩ = false
theorem Plc.keep {S : Nat → Prop} {w w' : World} {pb : Nat} {f : Int → Option Int} (h : Plc w pb f) (g : Chg S w w') (hb : ¬ S pb) : Plc w' pb f :=
  ⟨Nat.lt_of_lt_of_le h.1 g.size, fun n hn => ⟨g.cell (h.2 n hn).1 hb, (g.frozen (h.2 n hn).1 hb).trans (h.2 n hn).2⟩⟩
theorem Plc.up {w w' : World} {pb : Nat} {f : Int → Option Int} (h : Plc w pb f) (g : Up w w') : Plc w' pb f := h.keep g id
theorem Plc.put {w : World} {pb : Nat} {f : Int → Option Int} (h : Plc w pb f) {n : Nat} (hn : n < 5) (v : Int) : Plc (w.setCell ⟨pb, n, none⟩ (.int .i64 v)) pb (fun z => if z = (n : Int) then some v else f z) := by
  refine ⟨by simpa [World.setCell] using h.1, fun t ht => ?_⟩
  obtain ⟨h1, h2⟩ := h.2 t ht
  by_cases e : t = n
  · subst e
    exact ⟨by rw [World.cell?_setCell_same _ _ _ h1]; simp, by simpa using h2⟩
  · rw [World.cell?_setCell_other _ _ _ _ (fun h => e (by injection h with _ h _; exact h.symm))]
    have e2 : ¬ ((t : Int) = (n : Int)) := by omega
    exact ⟨by rw [h1]; simp [e2], by simpa using h2⟩
theorem Cmp.lt1' {w : World} {base : Nat} {X : Nat → Prop} {v1 v2 : Value} {xss : List (List OpM)} {ys : List Int} (h : Cmp w base X v1 v2 xss ys) {b : Nat} (hb : v1.ownBlock = some b) : b < w.heap.size := let ⟨_, _, h1, _⟩ := h; (h1.lt b hb).2
theorem offS' {Z : Nat → Prop} {V P : Value} {lo hi wb wbA w9s base : Nat} (h1 : ∀ b, V.ownBlock = some b → P.ownBlock = some b ∨ w9s ≤ b) (h2 : ∀ b, P.ownBlock = some b → lo + 1 ≤ b ∧ b < wb) (h3 : base ≤ lo) (h4 : wb ≤ wbA) (sz : Nat) :
    ∀ b, b < sz → (V.ownBlock = some b ∧ lo ≤ b ∧ b < hi) → base ≤ b ∧ (((Z b ∨ lo ≤ b) ∧ b < wbA) ∨ w9s ≤ b) := fun b _ h9 =>
  ⟨by have := h9.2.1; omega, (h1 b h9.1).elim (fun h8 => .inl ⟨.inr h9.2.1, by have := (h2 b h8).2; omega⟩) .inr⟩
theorem offY' {Z : Nat → Prop} {V P : Value} {lo hi wb wbA w9s sz : Nat} (h1 : ∀ b, V.ownBlock = some b → P.ownBlock = some b ∨ w9s ≤ b) (h2 : ∀ b, Z b → b < wb ∧ P.ownBlock ≠ some b) (h3 : wb ≤ wbA) (h4 : wb ≤ w9s) (h5 : wb ≤ sz) :
    ∀ b, Z b → (((Z b ∨ lo ≤ b) ∧ b < wbA) ∨ w9s ≤ b) ∧ ¬ (V.ownBlock = some b ∧ lo ≤ b ∧ b < hi) ∧ b < sz := fun b h => by
  obtain ⟨h6, h7⟩ := h2 b h
  refine ⟨.inl ⟨.inl h, by omega⟩, fun h8 => ?_, by omega⟩
  rcases h1 b h8.1 with h9 | h9
  · exact h7 h9
  · omega
theorem Plc.at_ {w : World} {pb : Nat} {f : Int → Option Int} (h : Plc w pb f) {n : Nat} (hn : n < 5) {y : Int} (hy : (f n).getD 0 = y) : w.cell? ⟨pb, n, none⟩ = some (.int .i64 y) ∧ w.frozen? ⟨pb, n, none⟩ = false := by
  have := h.2 n hn
  rw [hy] at this
  exact this
theorem Plc.start {w : World} {n : Nat} {v : Int} (hn : n < 5) : Plc (w.alloc (.cells ((madeCells #[Value.int .i64 0] 5).setIfInBounds n (.int .i64 v)) 2)) w.heap.size (fun z => if z = (n : Int) then some v else none) := by
  refine ⟨by simp, fun t ht => ⟨?_, frozen_new _ _ _ _⟩⟩
  rw [cell_new, Array.getElem?_setIfInBounds]
  by_cases e : n = t
  · subst e
    have hz : (madeCells #[Value.int .i64 0] 5).size = 5 := by simp [size_madeCells]
    simp [hz, hn]
  · have e2 : ¬ ((t : Int) = (n : Int)) := by omega
    rw [if_neg e, madeInts_get _ _ ht]
    simp [e2]
/-- a first list, and an empty plan, wherever they lie -/
theorem Cmp.start2 {w : World} {base g1 g2 : Nat} {u : Value} {xs : List OpM} {Q : Nat → Prop} (h1 : w.heap[g1]? = some (.cells #[u] 41 (0, 0))) (h2 : w.heap[g2]? = some (.cells #[] 2 (0, 0))) (hb1 : base ≤ g1) (hb2 : base ≤ g2) (hne : g1 ≠ g2)
    (hu : Ops w Q u xs) (hQ : ∀ b, b < w.heap.size → Q b → base ≤ b ∧ b ≠ g1 ∧ b ≠ g2) (X : Nat → Prop) (hX : ∀ b, X b → ¬ Q b ∧ b ≠ g1 ∧ b ≠ g2) :
    Cmp w base X (.slice (some ⟨g1, 0, none⟩) 1 1) (.slice (some ⟨g2, 0, none⟩) 0 0) [xs] [] := by
  have o1 : ∀ b, Value.ownBlock (.slice (some ⟨g1, 0, none⟩) 1 1) = some b → b = g1 := fun b hb => by have hb2 : some g1 = some b := hb; injection hb2 with hb3; exact hb3.symm
  have o2 : ∀ b, Value.ownBlock (.slice (some ⟨g2, 0, none⟩) 0 0) = some b → b = g2 := fun b hb => by have hb2 : some g2 = some b := hb; injection hb2 with hb3; exact hb3.symm
  refine ⟨[u], fun i b => i = 0 ∧ Q b ∧ b < w.heap.size, ?_, ?_, ?_, ?_, ?_, ?_, ?_⟩
  · exact ⟨rfl, .inr ⟨g1, 1, #[u], rfl, hb1, h1, Nat.le_refl _, by unfold Go.maxLen; omega, rfl, rfl⟩⟩
  · rintro i b ⟨rfl, hq, hlt⟩
    obtain ⟨q1, q2, q3⟩ := hQ b hlt hq
    exact ⟨q1, hlt, fun h => q2 (o1 b h), fun h => q3 (o2 b h), fun hx => (hX b hx).1 hq⟩
  · rintro i j b ⟨rfl, _⟩ ⟨rfl, _⟩; rfl
  · intro i hi
    obtain rfl : i = 0 := by simp at hi; omega
    exact ⟨u, rfl, hu.mono fun b hb hq => ⟨rfl, hq, hb⟩⟩
  · exact ⟨⟨rfl, .inr ⟨g2, 0, #[], rfl, hb2, h2, Nat.le_refl _, by unfold Go.maxLen; omega, rfl, rfl⟩⟩, by simp⟩
  · intro b h
    obtain rfl := o1 b h
    exact ⟨fun h => hne (o2 _ h), fun hx => (hX _ hx).2.1 rfl⟩
  · intro b h hx
    obtain rfl := o2 b h
    exact (hX _ hx).2.2 rfl
end Go.Proofs.YtnjfhpgmogopnaaGreat
