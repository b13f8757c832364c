/- Contracts of slices.Contains and slices.Compact at lists of whole numbers, in this proof's own words. No condition but room. -/
import Derived.Test.YtmimbnpcokfnlaaShelfR4
import Derived.Test.YtmimbnpcokfnlaaRowL
namespace Go.Proofs.Ytmimbnpcokfnlaa
open Go.ChangeShapes Go.WideShapes Go.ChangeAt Go.RowKit
open Go.Sort Go.Lib
theorem Chg.mapBlock (w : World) (blk : Nat) (f : Array Value → Array Value) : Chg (fun b => b = blk) w (Go.Sort.mapBlock w blk f) :=
  ⟨rfl, rfl, rfl, by simp [Go.Sort.mapBlock], fun k _ hn => by
    simp only [Go.Sort.mapBlock, Array.getElem?_modify]
    rw [if_neg (fun h => hn h.symm)]⟩
theorem Chg.ahead {S : Nat → Prop} {a w : World} (h : Chg S a w) (n : Nat) : Chg S a (Go.Sort.ahead w n) := ⟨h.os, h.tape, h.output, h.size, h.block⟩
theorem get!_eq {xs : List Int} {j : Nat} (h : j < xs.length) : xs[j]! = xs[j] := getElem!_pos xs j h
theorem contains_any (w : World) (S : Nat → Prop) (v : Value) (xs : List Int) (x : Int) (h : Ints w S v xs) :
    Calls Try.prog 67 #[v, .int .i64 x] w fun e w' => e = .returned (.bool (decide (x ∈ xs))) ∧ w = w' := by
  obtain ⟨A, c, rfl, hlc, hcm, -, hr, -⟩ := h
  by_cases hz : 0 < xs.length
  · obtain ⟨b, o, rfl, -, -, hc⟩ := hr hz
    refine (Try.slices_Contains (Value.int .i64) (fun x y => decide (x = y)) (EqlAt.intD Try.prog 2 .i64) b o xs.length c xs x w (Nat.le_refl _) (by omega) (fun j hj => by rw [get!_eq hj]; exact (hc j hj).1)).mono ?_
    rintro e w' ⟨rfl, rfl⟩
    refine ⟨ret_bool ?_, rfl⟩
    rw [List.take_length, Bool.eq_iff_iff, List.any_eq_true, decide_eq_true_eq]
    simp
  · have hn : xs = [] := List.eq_nil_of_length_eq_zero (by omega)
    subst hn
    refine (Try.slices_Contains_empty (α := Int) A c (.int .i64 x) w).mono ?_
    rintro e w' ⟨rfl, rfl⟩
    exact ⟨rfl, rfl⟩
theorem compact_model (ys : List Int) : ∀ n, n ≤ ys.length → compactUpTo ys.toArray n = onceL ys ys n := by
  intro n
  induction n with
  | zero => intro _; rfl
  | succ n ih =>
    intro h
    have e1 : ∀ j, j < ys.length → ys.toArray[j]! = ix ys j := fun j hj => by rw [ix_eq hj, getElem!_pos ys.toArray j (by simpa using hj)]; simp
    have hk : keeps ys.toArray n = keepB ys n := by
      unfold keeps keepB
      rw [e1 n (by omega), e1 (n - 1) (by omega), Bool.eq_iff_iff]
      simp
    rw [compactUpTo_succ, ih (by omega), hk, e1 n (by omega)]
    cases hb : keepB ys n with
    | true => rw [onceL_yes hb]; rfl
    | false => rw [onceL_no hb]; simp
theorem compact_any (w : World) (base : Nat) (v : Value) (ys : List Int) (h : OwnI w base v ys) (hl : ys.length ≤ 1000000) (hv : ∃ g c, v = .slice (some ⟨g, 0, none⟩) ys.length c) :
    Calls Try.prog 68 #[v] w fun e w' => ∃ v', e = .returned v' ∧ Ints w' (New base w'.heap.size) v' (onceL ys ys ys.length) ∧ Chg (fun b => v.ownBlock = some b) w w' := by
  obtain ⟨g, c, rfl⟩ := hv
  have hg := h.1.lt g rfl
  obtain ⟨A', c', he, h1, h2, h3, h4, -⟩ := h.ints
  obtain ⟨rfl, rfl⟩ : some ⟨g, 0, none⟩ = A' ∧ c = c' := by simpa using he
  have e1 : ∀ (zs : List Int) j, (hj : j < zs.length) → zs.toArray[j]! = zs[j] := fun zs j hj => by rw [getElem!_pos zs.toArray j (by simpa using hj)]; simp
  have hH : Holds (Value.int .i64) w g 0 ys.toArray := fun j hj => by
    have hj' : j < ys.length := by simpa using hj
    obtain ⟨b, o, hA, -, -, hc⟩ := h4 (by omega)
    obtain ⟨rfl, rfl⟩ : g = b ∧ 0 = o := by simpa using hA
    rw [e1 _ _ hj']
    exact hc j hj'
  have hcm := compact_model ys ys.length (Nat.le_refl _)
  have hle := onceL_length ys ys ys.length
  have hmem : ∀ x ∈ onceL ys ys ys.length, I64 x := fun x hx => by
    obtain ⟨i, hi, rfl⟩ := List.mem_map.1 hx
    have := keepTo_mem hi
    rw [ix_eq this]
    exact h3 _ (List.getElem_mem this)
  refine (Try.slices_Compact (Value.int .i64) (fun _ => rfl) (EqlAt.intD Try.prog 2 .i64) (NeqAt.intD Try.prog 2 .i64) 0 Try.zeroValue2 g 0 c ys.toArray w hH (by simp; omega) (by simpa using h1)).mono ?_
  rintro e w' ⟨rfl, q, rfl⟩
  have hsz : ys.toArray.size = ys.length := by simp
  rw [hsz, hcm]
  obtain ⟨zs, hzs⟩ : ∃ zs, onceL ys ys ys.length ++ List.replicate (ys.length - (onceL ys ys ys.length).length) 0 = zs := ⟨_, rfl⟩
  have hzl : zs.length = ys.length := by rw [← hzs]; simp; omega
  have hHo := holds_putRow (Value.int .i64) (Go.Sort.ahead w q) g 0 ys.toArray zs.toArray (holds_ahead _ w q g 0 _ hH) (by simp [hzl])
  rw [hzs]
  refine ⟨_, rfl, ?_, ?_⟩
  · refine Ints.of_cells ⟨hg.1, by simpa using hg.2⟩ (by simpa using hg.2) (by omega) h2 hmem (fun t ht => ?_)
    have := hHo t (by simp; omega)
    rw [e1 _ _ (by omega), Nat.zero_add] at this
    have hg : zs[t]'(by omega) = (onceL ys ys ys.length)[t] := by subst hzs; rw [List.getElem_append_left ht]
    rw [hg] at this
    exact this
  · have hc := Chg.ahead (Chg.mapBlock w g (putCells (Value.int .i64) 0 zs.toArray)) q
    refine hc.mono (fun k _ hk => ?_)
    show some g = some k
    rw [hk]
end Go.Proofs.Ytmimbnpcokfnlaa
