/- slices.Grow of nil and slices.Concat at slices of operations. Condition: room. The operations with which two columns change places. Condition: a small needle. Appending operations at a step of a region that draws its order. No condition but room. The letters of rows, and the operations of their crossings, on both sides. No condition but room. -/
import Derived.Test.YtchfjglofmphfaaPD7
import Derived.Lib.AppendZerosOnto
import Derived.Lib.SliceRun
import Derived.Test.YtchfjglofmphfaaPD3
import Derived.Test.YtchfjglofmphfaaMoves
import Derived.Deep.RegionHeld3
namespace Go.Proofs.Ytchfjglofmphfaa
open Go.ChangeShapes Go.WideShapes Go.ChangeAt Go.RowKit
def sumLen {α : Type} (l : List (List α)) (i : Nat) : Nat := ((l.take i).map List.length).sum
theorem sumLen_succ {α : Type} (l : List (List α)) (i : Nat) (h : i < l.length) : sumLen l (i + 1) = sumLen l i + l[i].length := by
  unfold sumLen
  rw [List.take_succ_eq_append_getElem h, List.map_append, List.sum_append]
  simp only [List.map_cons, List.map_nil, List.sum_cons, List.sum_nil, Nat.add_zero]
theorem sumLen_le {α : Type} (l : List (List α)) : ∀ i, sumLen l i ≤ sumLen l l.length := by
  intro i
  unfold sumLen
  rw [List.take_length]
  induction l generalizing i with
  | nil => simp
  | cons x xs ih =>
    cases i with
    | zero => simp
    | succ i => have := ih i; simp at this ⊢; omega
theorem flat_take {α : Type} (l : List (List α)) (i : Nat) (h : i < l.length) : (l.take (i + 1)).flatten = (l.take i).flatten ++ l[i] := by
  rw [List.take_succ_eq_append_getElem h, List.flatten_append]
  simp only [List.flatten_cons, List.flatten_nil, List.append_nil]
theorem flat_take_length {α : Type} (l : List (List α)) (i : Nat) : (l.take i).flatten.length = sumLen l i := by simp [sumLen, List.length_flatten]
end Go.Proofs.Ytchfjglofmphfaa
namespace Go.Proofs.Ytchfjglofmphfaa
open Go.ChangeShapes Go.WideShapes Go.ChangeAt Go.RowKit
def crossM (l : Int) (f : Bool) : List OpM := if f then rackM (l + 2) (l - 1) ++ rackM l (l + 2) ++ rackM (l - 1) l else rackM l (l + 3) ++ rackM (l + 2) l ++ rackM (l + 3) (l + 2)
theorem crossM_length (l : Int) (f : Bool) : (crossM l f).length = 12 := by
  cases f <;> simp [crossM, rackM]
end Go.Proofs.Ytchfjglofmphfaa
namespace Go.Proofs.Ytchfjglofmphfaa
open Go.ChangeShapes Go.WideShapes Go.ChangeAt Go.RowKit
set_option maxRecDepth 100000 in
/-- the same at a step of a region that draws its order -/
theorem step_appendOps {w : World} {ops : Array Oper} {o : Oper} {a : Act} {K : Act → World → Prop} {Q : Exit → Act → World → Prop} {E : Prop} (hgd : o.guard = none) (s x : Operand)
    (ho : o.op = .call { callee := .builtin .append, args := #[s, x], argTypes := #[60, 60] })
    (base : Nat) (v : Value) (xs : List OpM) (hs : a.eval s = v) (hown : OwnO w base v xs)
    (S : Nat → Prop) (u : Value) (ys : List OpM) (hx : a.eval x = u) (hsrc : Ops w S u ys) (hlen : xs.length + ys.length ≤ 1099511627776) (hbase : base ≤ w.heap.size)
    (h : ∀ v' w', OwnO w' base v' (xs ++ ys) → w.grownBy w' v.ownBlock → Chg (fun k => base ≤ k) w w' → K (a.put o.dst v') w') :
    if Region.wanted o (yielded ops a.tmps) = true then Oper.wp Try.prog o a w K Q else E := by
  have hw : Region.wanted o (yielded ops a.tmps) = true := by simp [Region.wanted, hgd]
  rw [if_pos hw]
  obtain ⟨i0, hi, hz0, hz1, hz2⟩ := info_parts infoOp
  obtain ⟨⟨hl, A, c, rfl, hlc, hcm, hr, hnn⟩, hok⟩ := hsrc
  have hok' : ∀ y ∈ xs ++ ys, y.ok := fun y hy => (List.mem_append.1 hy).elim (hown.2 y) (hok y)
  cases A with
  | none =>
    have hy : ys = [] := by
      rcases Nat.eq_zero_or_pos ys.length with h0 | h0
      · exact List.eq_nil_of_length_eq_zero h0
      · obtain ⟨b, oo, h1, _⟩ := hr h0
        cases h1
    subst hy
    obtain rfl := hnn rfl
    have hrun := run_append_owned_none (P := Try.prog) (w := w) base 60 o.type 104 i0 8 Try.underlying60 hi v xs.length _ hown.1
    have hK := h v w (by simpa using hown) (World.grownBy.refl w _) (Chg.refl _ _)
    unfold Oper.wp
    simp [execOp, ho, resolve, invoke, builtin, hs, hx, hrun, Result.andThen]
    exact hK
  | some ad =>
    have hnews : ∀ j q, (ys.flatMap OpM.cells)[j]? = some q → w.cell? (ad.add j) = some q := by
      intro j q hq
      obtain ⟨hj, he⟩ := List.getElem?_eq_some_iff.1 hq
      have hp : 0 < ys.length := by
        rcases Nat.eq_zero_or_pos ys.length with h0 | h0
        · rw [List.eq_nil_of_length_eq_zero h0] at hj; simp at hj
        · exact h0
      obtain ⟨b, oo, h1, _, _, hc⟩ := hr hp
      injection h1 with h1
      subst h1
      have := (hc j hj).1
      rw [he] at this
      rw [← this]
      unfold Addr.add
      by_cases h0 : j = 0 <;> simp [h0]
    refine wp_append_own (P := Try.prog) w s x 60 ho base 104 i0 _ 8 64 Try.underlying60 hi hz0 hz1 hz2 rfl (by decide) v xs.length _ hs hown.1 ad ys.length c (ys.flatMap OpM.cells) hx hl hnews ?_ ?_ ?_ hbase ?_
    · intro q hq
      obtain ⟨y, _, hy⟩ := List.mem_flatMap.1 hq
      exact cells_one y q hy
    · unfold Go.maxLen; omega
    · omega
    · intro v' w' h2 h3 _
      exact h v' w' ⟨by simpa using h2, hok'⟩ h3 ((Chg.refl _ _).grown h3 fun k hk => .inl (hown.1.lt k hk).1)
end Go.Proofs.Ytchfjglofmphfaa
namespace Go.Proofs.Ytchfjglofmphfaa
open Go.ChangeShapes Go.WideShapes Go.ChangeAt Go.RowKit
theorem Ints.lit {w : World} {g : Nat} {arr : Array Value} {e : TypeId} {xs : List Int} (hh : w.heap[g]? = some (.cells arr e (0, 0))) (ha : arr.toList = xs.map (Value.int .i64)) (hx : ∀ x ∈ xs, I64 x) (hl : xs.length ≤ 1000) :
    Ints w (fun b => b = g) (.slice (some ⟨g, 0, none⟩) xs.length xs.length) xs := by
  refine Ints.of_cells rfl (Array.getElem?_eq_some_iff.1 hh).1 (Nat.le_refl _) (by omega) hx fun t ht => ?_
  have h1 := cell_of_row w g t arr e (0, 0) hh
  refine ⟨?_, by simp [World.frozen?, hh]⟩
  rw [h1, ← Array.getElem?_toList, ha, List.getElem?_map, List.getElem?_eq_getElem ht]
  rfl
theorem sAbs_any (k : Int) (w : World) (h : -1000000 ≤ k ∧ k ≤ 1000000) :
    Calls Try.prog 181 #[.int .i64 k] w fun e w' => e = .returned (.int .i64 (absI k)) ∧ w = w' := by
  obtain ⟨h0, h1⟩ := h
  by_cases hk : k < 0
  · have HV := Lib.hid (show absI k = -k from if_pos hk)
    go_enter Try.func181, Try.ntmps181
    go_wp2
    go_ret
    exact ⟨ret_int HV.out.symm, rfl⟩
  · have HV := Lib.hid (show absI k = k from if_neg hk)
    go_enter Try.func181, Try.ntmps181
    go_wp2
    go_ret
    exact ⟨ret_int HV.out.symm, rfl⟩
theorem size_any (k : Int) (w : World) (h : -1000000 ≤ k ∧ k ≤ 1000000) :
    Calls Try.prog 91 #[.int .i64 k] w fun e w' => e = .returned (.int .i64 (absI k)) ∧ w = w' := by
  obtain ⟨h0, h1⟩ := h
  by_cases hk : k < 0
  · have HV := Lib.hid (show absI k = -k from if_pos hk)
    go_enter Try.func91, Try.ntmps91
    go_wp2
    go_ret
    exact ⟨ret_int (by rw [HV.out]; first | done | omega), rfl⟩
  · have HV := Lib.hid (show absI k = k from if_neg hk)
    go_enter Try.func91, Try.ntmps91
    go_wp2
    go_ret
    exact ⟨ret_int (by rw [HV.out]; first | done | omega), rfl⟩
theorem letAt_8 (c : Int) : letAt 8 c = [c + 1] := rfl
theorem letAt_9 (c : Int) : letAt 9 c = [-c - 1] := rfl
theorem letAt_5 (c : Int) : letAt 5 c = [-c - 1] := rfl
theorem letAt_10 (c : Int) : letAt 10 c = [c + 2, c + 1, c + 3, c + 2] := rfl
theorem letAt_11 (c : Int) : letAt 11 c = [-c - 2, -c - 1, -c - 3, -c - 2] := rfl
theorem letAt_no {k c : Int} (h : ¬ k = 8 ∧ ¬ k = 9 ∧ ¬ k = 5 ∧ ¬ k = 10 ∧ ¬ k = 11) : letAt k c = [] := by
  unfold letAt
  rw [if_neg h.1, if_neg (fun hh => hh.elim h.2.1 h.2.2.1), if_neg h.2.2.2.1, if_neg h.2.2.2.2]
end Go.Proofs.Ytchfjglofmphfaa
