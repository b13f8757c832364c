/- Contracts of the library's sort, laid at this program by the kit's own tool, in plain words. No condition. slices.Sort at a row of numbers of one's own. Condition: room. Sorted, then each number once: the rising list of the members. No condition. Contracts of slices.Contains and slices.Compact at lists of whole numbers, in this proof's own words. No condition but room. The carriers of a chart's rows, as plain data. No condition. The carriers of a chart's rows on both sides: rising, each once. No condition but room. Slices whose elements take m cells each and bear a reading of their own: nested slices, slices of structs with slices. No condition. The laws' helpers on nested slices. No condition. The laws' helpers on nested slices. No condition. Events as data: slices of them; the laws' own helpers on them: equal, marked, held. No condition but room for the numbers. The laws' own copies of slices of events, and their sizes. No condition but room. The laws' helpers on nested slices. No condition. The laws' helpers on nested slices. No condition. Plain words for the comparison of proofs: lists that agree up to a place. No condition. Comparisons of lists on both sides. No condition. Copies and appends of lists of numbers. No condition. ApplyMove in plain words. No condition. Columns are moved in moves that are valid one after the other, to their needles: in plain Lean. No condition. A list of numbers is appended to a list of one's own. No condition. Draws of columns that are moved. No condition. -/
import Derived.Shelf.SortG.Plain
import Derived.Shelf.SortG.SortNone
import Derived.Ground.SlgnProg
import Derived.Test.YtplabnjdhkmmkaaProg
import Derived.Test.YtplabnjdhkmmkaaPF2
import Derived.Test.YtplabnjdhkmmkaaPF9
import Derived.Test.YtplabnjdhkmmkaaShelfR6
import Derived.Test.YtplabnjdhkmmkaaPF6
import Derived.Test.YtplabnjdhkmmkaaPF8
import Derived.StillTailTactics
import Derived.Laws.AppendOwnNone
import Derived.Test.YtplabnjdhkmmkaaPF3
import Derived.Test.YtplabnjdhkmmkaaPF5
section
set_option linter.unusedSimpArgs false
set_option linter.unusedVariables false
namespace Go.Proofs.Ytplabnjdhkmmkaa
open Go.Proofs
open Go.Shelf
end Go.Proofs.Ytplabnjdhkmmkaa
end
section
set_option linter.unusedSimpArgs false
set_option linter.unusedVariables false
namespace Go.Proofs.Ytplabnjdhkmmkaa
open Go.ChangeShapes Go.WideShapes Go.ChangeAt Go.RowKit Go.Sort
theorem Chg.mapBlock (w : World) (blk : Nat) (f : Array Value → Array Value) : Chg (fun b => b = blk) w (Go.Sort.mapBlock w blk f) :=
  ⟨rfl, rfl, rfl, by simp [Go.Sort.mapBlock], fun i _ hi => by
    unfold Go.Sort.mapBlock
    have : blk ≠ i := fun e => hi e.symm
    simp [Array.getElem?_modify, this]⟩
theorem Chg.ahead {S : Nat → Prop} {a w : World} (h : Chg S a w) (n : Nat) : Chg S a (Go.Sort.ahead w n) := ⟨h.os, h.tape, h.output, h.size, h.block⟩
end Go.Proofs.Ytplabnjdhkmmkaa
end
section
set_option linter.unusedSimpArgs false
set_option linter.unusedVariables false
namespace Go.Proofs.Ytplabnjdhkmmkaa
end Go.Proofs.Ytplabnjdhkmmkaa
end
section
set_option linter.unusedSimpArgs false
set_option linter.unusedVariables false
namespace Go.Proofs.Ytplabnjdhkmmkaa
open Go.ChangeShapes Go.WideShapes Go.ChangeAt Go.RowKit
open Go.Sort Go.Lib
theorem Chg.mapBlock6 (w : World) (blk : Nat) (f : Array Value → Array Value) : Chg (fun b => b = blk) w (Go.Sort.mapBlock w blk f) :=
  ⟨rfl, rfl, rfl, by simp [Go.Sort.mapBlock], fun k _ hn => by
    simp only [Go.Sort.mapBlock, Array.getElem?_modify]
    rw [if_neg (fun h => hn h.symm)]⟩
theorem Chg.ahead6 {S : Nat → Prop} {a w : World} (h : Chg S a w) (n : Nat) : Chg S a (Go.Sort.ahead w n) := ⟨h.os, h.tape, h.output, h.size, h.block⟩
theorem get!_eq {xs : List Int} {j : Nat} (h : j < xs.length) : xs[j]! = xs[j] := getElem!_pos xs j h
theorem contains_any (w : World) (S : Nat → Prop) (v : Value) (xs : List Int) (x : Int) (h : Ints w S v xs) :
    Calls Try.prog 39 #[v, .int .i64 x] w fun e w' => e = .returned (.bool (decide (x ∈ xs))) ∧ w = w' := by
  obtain ⟨A, c, rfl, hlc, hcm, -, hr, -⟩ := h
  by_cases hz : 0 < xs.length
  · obtain ⟨b, o, rfl, -, -, hc⟩ := hr hz
    refine (Try.slices_Contains (Value.int .i64) (fun x y => decide (x = y)) (EqlAt.intD Try.prog 2 .i64) b o xs.length c xs x w (Nat.le_refl _) (by omega) (fun j hj => by rw [get!_eq hj]; exact (hc j hj).1)).mono ?_
    rintro e w' ⟨rfl, rfl⟩
    refine ⟨ret_bool ?_, rfl⟩
    rw [List.take_length, Bool.eq_iff_iff, List.any_eq_true, decide_eq_true_eq]
    simp
  · have hn : xs = [] := List.eq_nil_of_length_eq_zero (by omega)
    subst hn
    refine (Try.slices_Contains_empty (α := Int) A c (.int .i64 x) w).mono ?_
    rintro e w' ⟨rfl, rfl⟩
    exact ⟨rfl, rfl⟩
theorem compact_model (ys : List Int) : ∀ n, n ≤ ys.length → compactUpTo ys.toArray n = onceL ys ys n := by
  intro n
  induction n with
  | zero => intro _; rfl
  | succ n ih =>
    intro h
    have e1 : ∀ j, j < ys.length → ys.toArray[j]! = ix ys j := fun j hj => by rw [ix_eq hj, getElem!_pos ys.toArray j (by simpa using hj)]; simp
    have hk : keeps ys.toArray n = keepB ys n := by
      unfold keeps keepB
      rw [e1 n (by omega), e1 (n - 1) (by omega), Bool.eq_iff_iff]
      simp
    rw [compactUpTo_succ, ih (by omega), hk, e1 n (by omega)]
    cases hb : keepB ys n with
    | true => rw [onceL_yes hb]; rfl
    | false => rw [onceL_no hb]; simp
theorem compact_any (w : World) (base : Nat) (v : Value) (ys : List Int) (h : OwnI w base v ys) (hl : ys.length ≤ 1000000) (hv : ∃ g c, v = .slice (some ⟨g, 0, none⟩) ys.length c) :
    Calls Try.prog 40 #[v] w fun e w' => ∃ v', e = .returned v' ∧ Ints w' (New base w'.heap.size) v' (onceL ys ys ys.length) ∧ Chg (fun b => v.ownBlock = some b) w w' := by
  obtain ⟨g, c, rfl⟩ := hv
  have hg := h.1.lt g rfl
  obtain ⟨A', c', he, h1, h2, h3, h4, -⟩ := h.ints
  obtain ⟨rfl, rfl⟩ : some ⟨g, 0, none⟩ = A' ∧ c = c' := by simpa using he
  have e1 : ∀ (zs : List Int) j, (hj : j < zs.length) → zs.toArray[j]! = zs[j] := fun zs j hj => by rw [getElem!_pos zs.toArray j (by simpa using hj)]; simp
  have hH : Holds (Value.int .i64) w g 0 ys.toArray := fun j hj => by
    have hj' : j < ys.length := by simpa using hj
    obtain ⟨b, o, hA, -, -, hc⟩ := h4 (by omega)
    obtain ⟨rfl, rfl⟩ : g = b ∧ 0 = o := by simpa using hA
    rw [e1 _ _ hj']
    exact hc j hj'
  have hcm := compact_model ys ys.length (Nat.le_refl _)
  have hle := onceL_length ys ys ys.length
  have hmem : ∀ x ∈ onceL ys ys ys.length, I64 x := fun x hx => by
    obtain ⟨i, hi, rfl⟩ := List.mem_map.1 hx
    have := keepTo_mem hi
    rw [ix_eq this]
    exact h3 _ (List.getElem_mem this)
  refine (Try.slices_Compact (Value.int .i64) (fun _ => rfl) (EqlAt.intD Try.prog 2 .i64) (NeqAt.intD Try.prog 2 .i64) 0 Try.zeroValue2 g 0 c ys.toArray w hH (by simp; omega) (by simpa using h1)).mono ?_
  rintro e w' ⟨rfl, q, rfl⟩
  have hsz : ys.toArray.size = ys.length := by simp
  rw [hsz, hcm]
  obtain ⟨zs, hzs⟩ : ∃ zs, onceL ys ys ys.length ++ List.replicate (ys.length - (onceL ys ys ys.length).length) 0 = zs := ⟨_, rfl⟩
  have hzl : zs.length = ys.length := by rw [← hzs]; simp; omega
  have hHo := holds_putRow (Value.int .i64) (Go.Sort.ahead w q) g 0 ys.toArray zs.toArray (holds_ahead _ w q g 0 _ hH) (by simp [hzl])
  rw [hzs]
  refine ⟨_, rfl, ?_, ?_⟩
  · refine Ints.of_cells ⟨hg.1, by simpa using hg.2⟩ (by simpa using hg.2) (by omega) h2 hmem (fun t ht => ?_)
    have := hHo t (by simp; omega)
    rw [e1 _ _ (by omega), Nat.zero_add] at this
    have hg : zs[t]'(by omega) = (onceL ys ys ys.length)[t] := by subst hzs; rw [List.getElem_append_left ht]
    rw [hg] at this
    exact this
  · have hc := Chg.ahead6 (Chg.mapBlock6 w g (putCells (Value.int .i64) 0 zs.toArray)) q
    refine hc.mono (fun k _ hk => ?_)
    show some g = some k
    rw [hk]
end Go.Proofs.Ytplabnjdhkmmkaa
end
section
set_option linter.unusedSimpArgs false
set_option linter.unusedVariables false
namespace Go.Proofs.Ytplabnjdhkmmkaa
theorem insM_len (x : Int) : ∀ ys : List Int, (insM x ys).length ≤ ys.length + 1
  | [] => by simp [insM]
  | y :: ys => by
    unfold insM
    have := insM_len x ys
    split
    · split <;> simp
    · simp; omega
/-- what stands ahead of where a number goes, and behind it -/
def insA (x : Int) (ys : List Int) (j : Nat) : List Int := if (ys.take j).any (fun y => decide (y ≥ x)) then insM x (ys.take j) else ys.take j
theorem insM_snoc_hit {x y : Int} : ∀ {ys : List Int}, (ys.any fun z => decide (z ≥ x)) = true → insM x (ys ++ [y]) = insM x ys ++ [y]
  | [], h => by simp at h
  | z :: zs, h => by
    rw [List.cons_append]
    unfold insM
    by_cases hz : z ≥ x
    · rw [if_pos hz, if_pos hz]
      split <;> simp
    · rw [if_neg hz, if_neg hz, List.cons_append, insM_snoc_hit (by simpa [hz] using h)]
theorem insM_snoc_miss {x y : Int} : ∀ {ys : List Int}, (ys.any fun z => decide (z ≥ x)) = false → insM x (ys ++ [y]) = ys ++ insM x [y]
  | [], h => by simp
  | z :: zs, h => by
    have hz : ¬ z ≥ x := by simp at h; omega
    rw [List.cons_append, List.cons_append]
    conv => lhs; unfold insM
    rw [if_neg hz, insM_snoc_miss (by simp at h; simpa using h.2)]
theorem insM_miss {x : Int} : ∀ {ys : List Int}, (ys.any fun z => decide (z ≥ x)) = false → insM x ys = ys ++ [x]
  | [], h => by simp [insM]
  | z :: zs, h => by
    have hz : ¬ z ≥ x := by simp at h; omega
    unfold insM
    rw [if_neg hz, insM_miss (by simp at h; simpa using h.2)]; rfl
theorem anyT_succ (x : Int) {ys : List Int} {j : Nat} (h : j < ys.length) : ((ys.take (j + 1)).any fun z => decide (z ≥ x)) = ((ys.take j).any (fun z => decide (z ≥ x)) || decide (ys[j] ≥ x)) := by
  rw [List.take_succ_eq_append_getElem h, List.any_append]; simp
theorem insA_on {x : Int} {ys : List Int} {j : Nat} (h : j < ys.length) (hd : (ys.take j).any (fun z => decide (z ≥ x)) = true) : insA x ys (j + 1) = insA x ys j ++ [ys[j]] := by
  unfold insA
  rw [anyT_succ x h, hd, Bool.true_or, if_pos rfl, if_pos rfl, List.take_succ_eq_append_getElem h, insM_snoc_hit hd]
theorem insA_gt {x : Int} {ys : List Int} {j : Nat} (h : j < ys.length) (hd : (ys.take j).any (fun z => decide (z ≥ x)) = false) (hg : x < ys[j]) : insA x ys (j + 1) = (insA x ys j ++ [x]) ++ [ys[j]] := by
  unfold insA
  rw [anyT_succ x h, hd, Bool.false_or, decide_eq_true (by omega), if_pos rfl, if_neg (by simp), List.take_succ_eq_append_getElem h, insM_snoc_miss hd]
  simp [insM, hg]
  omega
theorem insA_eq {x : Int} {ys : List Int} {j : Nat} (h : j < ys.length) (hd : (ys.take j).any (fun z => decide (z ≥ x)) = false) (hg : x = ys[j]) : insA x ys (j + 1) = insA x ys j ++ [ys[j]] := by
  unfold insA
  rw [anyT_succ x h, hd, Bool.false_or, decide_eq_true (by omega), if_pos rfl, if_neg (by simp), List.take_succ_eq_append_getElem h, insM_snoc_miss hd]
  simp [insM, hg]
theorem insA_lt {x : Int} {ys : List Int} {j : Nat} (h : j < ys.length) (hd : (ys.take j).any (fun z => decide (z ≥ x)) = false) (hg : ys[j] < x) : insA x ys (j + 1) = insA x ys j ++ [ys[j]] := by
  unfold insA
  rw [anyT_succ x h, hd, Bool.false_or, decide_eq_false (by omega), if_neg (by simp), if_neg (by simp), List.take_succ_eq_append_getElem h]
theorem insA_hit {x : Int} {ys : List Int} (hd : (ys.take ys.length).any (fun z => decide (z ≥ x)) = true) : insA x ys ys.length = insM x ys := by
  unfold insA; rw [hd, if_pos rfl, List.take_length]
theorem insA_end {x : Int} {ys : List Int} (hd : (ys.take ys.length).any (fun z => decide (z ≥ x)) = false) : insA x ys ys.length ++ [x] = insM x ys := by
  rw [List.take_length] at hd
  unfold insA
  rw [List.take_length, hd, if_neg (by simp), insM_miss hd]
end Go.Proofs.Ytplabnjdhkmmkaa
end
section
set_option maxRecDepth 100000
set_option maxHeartbeats 1000000
set_option linter.unusedSimpArgs false
set_option linter.unusedVariables false
namespace Go.Proofs.Ytplabnjdhkmmkaa
open Go.ChangeShapes Go.WideShapes Go.ChangeAt Go.RowKit
theorem insA_len (x : Int) (ys : List Int) (j : Nat) : (insA x ys j).length ≤ ys.length + 1 := by
  unfold insA
  split
  · have := insM_len x (ys.take j); simp at this; omega
  · simp; omega
theorem insA_zero (x : Int) (ys : List Int) : insA x ys 0 = [] := by simp [insA]
theorem l00Put_any (w : World) (S : Nat → Prop) (v : Value) (ys : List Int) (x : Int) (h : Ints w S v ys) (hx : I64 x) (hl : ys.length ≤ 1000000) :
    Calls Try.prog 55 #[v, .int .i64 x] w fun e w' => ∃ v', e = .returned v' ∧ Ints w' (New w.heap.size w'.heap.size) v' (insM x ys) ∧ Up w w' := by
  obtain ⟨A, c, rfl, hlc, hcm, h64, hr, hnn⟩ := h
  have HX := Lib.hid hx
  have H64 := Lib.hid h64
  have HR := Lib.hid hr
  have HL0 : ∀ j, Hid ((insA x ys j).length ≤ 1099511627776) := fun j => Lib.hid (by have := insA_len x ys j; omega)
  clear h64 hr
  go_enter Try.func55, Try.ntmps55
  go_wp2
  go_loopw [5, 6, 7] (fun q d i wr => ∃ (j : Nat), j ≤ ys.length ∧ i = .int .i64 j ∧ d = .bool ((ys.take j).any fun z => decide (z ≥ x)) ∧ Hid (OwnI wr w.heap.size q (insA x ys j)) ∧ w.heap.size ≤ wr.heap.size ∧ Hid (Up w wr)) (fun _ _ i _ => ys.length - (intOf i).toNat)
  case atStart => exact ⟨0, by omega, rfl, by simp, Lib.hid (by rw [insA_zero]; exact OwnI.made w _ (Nat.le_refl _)), by simp, Lib.hid ((Chg.refl _ _).alloc _)⟩
  case round =>
    obtain ⟨j, hj, rfl, rfl, hq, hz, hu⟩ := hrel
    have HLJ := HL0 j
    have HLJ1 := HL0 (j + 1)
    by_cases hlt : j < ys.length
    · obtain ⟨b, o, rfl, -, -, hc⟩ := HR.out (by omega)
      have hcj := hu.out.cell (hc j hlt).1 id
      have HY := Lib.hid (H64.out _ (List.getElem_mem hlt))
      obtain ⟨y, hy⟩ : ∃ y, y = ys[j] := ⟨_, rfl⟩
      have HCW := Lib.hid ((hc j hlt).1)
      rw [← hy] at hcj HY HCW
      have HYE := Lib.hid hy
      clear hc hy
      cases hd : (ys.take j).any fun z => decide (z ≥ x) with
      | true =>
        have HN := Lib.hid (insA_on hlt hd)
        have HA := Lib.hid (show ((ys.take (j + 1)).any fun z => decide (z ≥ x)) = true by rw [anyT_succ x hlt, hd]; rfl)
        clear hd
        go_wp2_with (first | (at_builtin; refine wp_append_int rfl _ _ rfl w.heap.size _ (insA x ys j) rfl (hq.out.up (by repeat (first | exact Chg.refl _ _ | apply Chg.drew | apply Chg.drewN | refine Chg.alloc ?_ _))) _ y rfl (cell_at (by simp [World.size_alloc]) rfl) HY.out HLJ.out (by simp [World.size_alloc]; omega) ?_; intro v9 w9 ho9 _ hg9; have HO9 := Lib.hid ho9; have HG9 := Lib.hid hg9; clear ho9 hg9))
        go_roundw
        case rel => exact ⟨j + 1, by omega, by go_num, by rw [HA.out], Lib.hid (by rw [HN.out, ← HYE.out]; exact HO9.out), by have h9 := HG9.out.size; simp [World.size_alloc] at h9; omega, Lib.hid (Chg.new (hu.out.alloc _) HG9.out (fun i hi hh => by omega))⟩
        case measure => first | (simp [intOf]; done) | (simp [intOf]; omega)
      | false =>
        by_cases hge : y ≥ x
        · have HA := Lib.hid (show ((ys.take (j + 1)).any fun z => decide (z ≥ x)) = true by rw [anyT_succ x hlt, hd, ← HYE.out, decide_eq_true hge]; rfl)
          have t1 : decide (x ≤ y) = true := decide_eq_true hge
          by_cases hgt : x < y
          · have HN := Lib.hid (insA_gt hlt hd (by rw [← HYE.out]; exact hgt))
            have t2 : decide (x < y) = true := decide_eq_true hgt
            have HL2 : Hid ((insA x ys j ++ [x]).length ≤ 1099511627776) := Lib.hid (by have := HLJ1.out; rw [HN.out] at this; simp at this ⊢; omega)
            clear hd hge hgt
            go_wp2_with (first | (at_builtin; refine wp_append_int rfl _ _ rfl w.heap.size _ (insA x ys j ++ [x]) rfl (HO9.out.up (by repeat (first | exact Chg.refl _ _ | apply Chg.drew | apply Chg.drewN | refine Chg.alloc ?_ _))) _ y rfl (cell_at (by simp [World.size_alloc]) rfl) HY.out HL2.out (by simp [World.size_alloc]; omega) ?_; intro v8 w8 ho8 _ hg8; have HO8 := Lib.hid ho8; have HG8 := Lib.hid hg8; clear ho8 hg8) | (at_builtin; refine wp_append_int rfl _ _ rfl w.heap.size _ (insA x ys j) rfl (hq.out.up (by repeat (first | exact Chg.refl _ _ | apply Chg.drew | apply Chg.drewN | refine Chg.alloc ?_ _))) _ x rfl (cell_at (by simp [World.size_alloc]) rfl) HX.out HLJ.out (by simp [World.size_alloc]; omega) ?_; intro v9 w9 ho9 _ hg9; have HO9 := Lib.hid ho9; have HG9 := Lib.hid hg9; clear ho9 hg9; have hz9 : w.heap.size ≤ w9.heap.size := (by have h9 := HG9.out.size; simp [World.size_alloc] at h9; omega); have HU9 := Lib.hid (show Up w w9 from Chg.new (hu.out.alloc _) HG9.out (fun i hi hh => by omega)); have hcj9 := HU9.out.cell HCW.out id))
            go_roundw
            case rel => exact ⟨j + 1, by omega, by go_num, by rw [HA.out], Lib.hid (by rw [HN.out, ← HYE.out]; exact HO8.out), by have h9 := HG8.out.size; simp [World.size_alloc] at h9; omega, Lib.hid (Chg.new (HU9.out.alloc _) HG8.out (fun i hi hh => by omega))⟩
            case measure => first | (simp [intOf]; done) | (simp [intOf]; omega)
          · obtain rfl : x = y := by omega
            have HN := Lib.hid (insA_eq hlt hd HYE.out)
            have t2 : decide (x < x) = false := decide_eq_false (by omega)
            clear hd hge hgt
            go_wp2_with (first | (at_builtin; refine wp_append_int rfl _ _ rfl w.heap.size _ (insA x ys j) rfl (hq.out.up (by repeat (first | exact Chg.refl _ _ | apply Chg.drew | apply Chg.drewN | refine Chg.alloc ?_ _))) _ x rfl (cell_at (by simp [World.size_alloc]) rfl) HX.out HLJ.out (by simp [World.size_alloc]; omega) ?_; intro v9 w9 ho9 _ hg9; have HO9 := Lib.hid ho9; have HG9 := Lib.hid hg9; clear ho9 hg9))
            go_roundw
            case rel => exact ⟨j + 1, by omega, by go_num, by rw [HA.out], Lib.hid (by rw [HN.out, ← HYE.out]; exact HO9.out), by have h9 := HG9.out.size; simp [World.size_alloc] at h9; omega, Lib.hid (Chg.new (hu.out.alloc _) HG9.out (fun i hi hh => by omega))⟩
            case measure => first | (simp [intOf]; done) | (simp [intOf]; omega)
        · have HA := Lib.hid (show ((ys.take (j + 1)).any fun z => decide (z ≥ x)) = false by rw [anyT_succ x hlt, hd, ← HYE.out, decide_eq_false hge]; rfl)
          have t1 : decide (x ≤ y) = false := decide_eq_false hge
          have HN := Lib.hid (insA_lt hlt hd (by rw [← HYE.out]; omega))
          clear hd hge
          go_wp2_with (first | (at_builtin; refine wp_append_int rfl _ _ rfl w.heap.size _ (insA x ys j) rfl (hq.out.up (by repeat (first | exact Chg.refl _ _ | apply Chg.drew | apply Chg.drewN | refine Chg.alloc ?_ _))) _ y rfl (cell_at (by simp [World.size_alloc]) rfl) HY.out HLJ.out (by simp [World.size_alloc]; omega) ?_; intro v9 w9 ho9 _ hg9; have HO9 := Lib.hid ho9; have HG9 := Lib.hid hg9; clear ho9 hg9))
          go_roundw
          case rel => exact ⟨j + 1, by omega, by go_num, by rw [HA.out], Lib.hid (by rw [HN.out, ← HYE.out]; exact HO9.out), by have h9 := HG9.out.size; simp [World.size_alloc] at h9; omega, Lib.hid (Chg.new (hu.out.alloc _) HG9.out (fun i hi hh => by omega))⟩
          case measure => first | (simp [intOf]; done) | (simp [intOf]; omega)
    · obtain rfl : j = ys.length := by omega
      cases hd : (ys.take ys.length).any fun z => decide (z ≥ x) with
      | true =>
        have HN := Lib.hid (insA_hit hd)
        clear hd
        go_wp2
        go_ret
        exact ⟨_, rfl, by rw [← HN.out]; exact hq.out.ints, hu.out⟩
      | false =>
        have HN := Lib.hid (insA_end hd)
        clear hd
        go_wp2_with (first | (at_builtin; refine wp_append_int rfl _ _ rfl w.heap.size _ (insA x ys ys.length) rfl (hq.out.up (by repeat (first | exact Chg.refl _ _ | apply Chg.drew | apply Chg.drewN | refine Chg.alloc ?_ _))) _ x rfl (cell_at (by simp [World.size_alloc]) rfl) HX.out HLJ.out (by simp [World.size_alloc]; omega) ?_; intro v9 w9 ho9 _ hg9; have HO9 := Lib.hid ho9; have HG9 := Lib.hid hg9; clear ho9 hg9))
        go_wp2
        go_ret
        exact ⟨_, rfl, by rw [← HN.out]; exact HO9.out.ints, Chg.new (hu.out.alloc _) HG9.out (fun i hi hh => by omega)⟩
end Go.Proofs.Ytplabnjdhkmmkaa
end
section
set_option linter.unusedSimpArgs false
set_option linter.unusedVariables false
namespace Go.Proofs.Ytplabnjdhkmmkaa
open Go.ChangeShapes Go.WideShapes Go.ChangeAt Go.RowKit
def Nst {α : Type} (m : Nat) (E : World → List Value → α → Prop) (w : World) (R : Nat → Prop) (v : Value) (xs : List α) : Prop :=
  ∃ cs, Raw w R m v xs.length cs ∧ ∀ i (hi : i < xs.length), E w ((cs.drop (i * m)).take m) xs[i]
section
variable {α : Type} {m : Nat} {E E' : World → List Value → α → Prop} {w w' : World} {R S T : Nat → Prop} {v : Value} {xs : List α}
theorem Nst.keep (h : Nst m E w R v xs) (hE : ∀ vs x, E w vs x → E' w' vs x) (g : Chg T w w') (hd : ∀ b, b < w.heap.size → R b → ¬ T b) : Nst m E' w' R v xs :=
  let ⟨cs, h1, h2⟩ := h; ⟨cs, h1.keep g hd, fun i hi => hE _ _ (h2 i hi)⟩
theorem Nst.up (h : Nst m E w R v xs) (hE : ∀ vs x, E w vs x → E w' vs x) (g : Up w w') : Nst m E w' R v xs := h.keep hE g fun _ _ _ h => h
theorem Nst.mono (h : Nst m E w R v xs) (hE : ∀ vs x, E w vs x → E' w vs x) (hs : ∀ b, b < w.heap.size → R b → S b) : Nst m E' w S v xs :=
  let ⟨cs, h1, h2⟩ := h; ⟨cs, h1.mono hs, fun i hi => hE _ _ (h2 i hi)⟩
theorem Nst.shape (h : Nst m E w R v xs) : ∃ A c, v = .slice A xs.length c ∧ xs.length ≤ c ∧ c ≤ 9223372036854775807 ∧ (A = none → c = 0) :=
  let ⟨_, h1, _⟩ := h; h1.shape
theorem Nst.nil (w : World) (R : Nat → Prop) (A : Option Addr) (c : Nat) (hc : c ≤ 9223372036854775807) (hA : A = none → c = 0 := by simp) : Nst m E w R (.slice A 0 c) ([] : List α) :=
  ⟨[], Raw.nil w R m c A hc hA, fun i hi => absurd hi (by simp)⟩
theorem chunk_lt {i n m j : Nat} (hi : i < n) (hj : j < m) : i * m + j < n * m := by
  have : (i + 1) * m ≤ n * m := Nat.mul_le_mul_right m hi
  rw [Nat.add_mul] at this
  omega
theorem Nst.at_ (h : Nst m E w R v xs) {i : Nat} (hi : i < xs.length) : ∃ b o c vs, v = .slice (some ⟨b, o, none⟩) xs.length c ∧ R b ∧ b < w.heap.size ∧ vs.length = m ∧ E w vs xs[i] ∧
    ∀ j u, vs[j]? = some u → w.cell? ⟨b, o + i * m + j, none⟩ = some u ∧ w.frozen? ⟨b, o + i * m + j, none⟩ = false := by
  obtain ⟨cs, ⟨h0, A, c, hv, h1, h2, h4, _⟩, h5⟩ := h
  obtain ⟨b, o, rfl, hs, hb, hc⟩ := h4 (by omega)
  have hlen : ((cs.drop (i * m)).take m).length = m := by
    have : (i + 1) * m ≤ xs.length * m := Nat.mul_le_mul_right m hi
    rw [Nat.add_mul] at this
    simp
    omega
  refine ⟨b, o, c, _, hv, hs, hb, hlen, h5 i hi, fun j u hu => ?_⟩
  have hj : j < m := by
    obtain ⟨hj, _⟩ := List.getElem?_eq_some_iff.1 hu
    omega
  have hlt := chunk_lt hi hj
  have hcc := hc (i * m + j) (by omega)
  rw [← Nat.add_assoc] at hcc
  rw [List.getElem?_take_of_lt hj, List.getElem?_drop] at hu
  obtain ⟨hj2, he⟩ := List.getElem?_eq_some_iff.1 hu
  rw [he] at hcc
  exact hcc
/-- the elements that were copied so far -/
def ChunkIn (m : Nat) (E : World → List Value → α → Prop) (w : World) (cs : List Value) (xs : List α) (j : Nat) : Prop :=
  cs.length = j * m ∧ ∀ i (hi : i < xs.length), i < j → E w ((cs.drop (i * m)).take m) xs[i]
theorem ChunkIn.start : ChunkIn m E w [] xs 0 := ⟨by simp, fun i _ h => by omega⟩
theorem ChunkIn.keep {cs : List Value} {j : Nat} (h : ChunkIn m E w cs xs j) (hE : ∀ vs x, E w vs x → E' w' vs x) : ChunkIn m E' w' cs xs j :=
  ⟨h.1, fun i hi hij => hE _ _ (h.2 i hi hij)⟩
theorem ChunkIn.next {cs vs : List Value} {j : Nat} (h : ChunkIn m E w cs xs j) (hj : j < xs.length) (hl : vs.length = m) (hv : E w vs xs[j]) : ChunkIn m E w (cs ++ vs) xs (j + 1) := by
  refine ⟨by rw [List.length_append, h.1, hl, Nat.add_mul]; omega, fun i hi hij => ?_⟩
  by_cases he : i < j
  · have hle : (i + 1) * m ≤ j * m := Nat.mul_le_mul_right m he
    rw [Nat.add_mul] at hle
    have h1 := h.1
    have e : ((cs ++ vs).drop (i * m)).take m = (cs.drop (i * m)).take m := by
      rw [List.drop_append_of_le_length (by omega), List.take_append_of_le_length (by simp; omega)]
    rw [e]
    exact h.2 i hi he
  · obtain rfl : i = j := by omega
    have e : ((cs ++ vs).drop (i * m)).take m = vs := by
      rw [← h.1, List.drop_left, ← hl, List.take_length]
    rw [e]
    exact hv
theorem Nst.done {cs : List Value} {b : Nat} (h : Copying w b m xs.length xs.length cs) (k : ChunkIn m E w cs xs xs.length) (hS : R b) (hb : b < w.heap.size) (hm : xs.length ≤ 9223372036854775807) : Nst m E w R (.slice (some ⟨b, 0, none⟩) xs.length xs.length) xs :=
  ⟨cs, Copying.done h hS hb k.1 hm, fun i hi => k.2 i hi hi⟩
end
theorem CellF.set {w : World} {p : Addr} {u u' : Value} (h : CellF w p u') : CellF (w.setCell p u) p u := ⟨World.cell?_setCell_same _ _ _ h.1, by simpa using h.2⟩
/-- blocks between lo and hi, of three kinds: rows of structs, rows of slices, rows of numbers -/
def ApartN (lo hi : Nat) (M H L : Nat → Prop) : Prop :=
  (∀ b, M b ∨ H b ∨ L b → lo ≤ b ∧ b < hi) ∧ (∀ b, M b → ¬ H b) ∧ (∀ b, M b → ¬ L b) ∧ (∀ b, H b → ¬ L b)
theorem ApartN.none (lo hi : Nat) : ApartN lo hi Nowhere Nowhere Nowhere := ⟨fun b h => h.elim (fun h => h.elim) fun h => h.elim (fun h => h.elim) fun h => h.elim, fun b h => h.elim, fun b h => h.elim, fun b h => h.elim⟩
theorem ApartN.row {lo hi g : Nat} (h1 : lo ≤ g) (h2 : g < hi) : ApartN lo hi Nowhere (fun b => b = g) (New (g + 1) hi) :=
  ⟨fun b h => by
    rcases h with h | h | h
    · exact h.elim
    · have h : b = g := h
      omega
    · have := h.1
      exact ⟨by omega, h.2⟩, fun b h => h.elim, fun b h => h.elim, fun b h k => by
    have h : b = g := h
    have := k.1
    omega⟩
end Go.Proofs.Ytplabnjdhkmmkaa
end
section
set_option maxRecDepth 100000
set_option maxHeartbeats 1000000
set_option linter.unusedSimpArgs false
set_option linter.unusedVariables false
namespace Go.Proofs.Ytplabnjdhkmmkaa
open Go.ChangeShapes Go.WideShapes Go.ChangeAt Go.RowKit
def IntsE (L : Nat → Prop) (w : World) (vs : List Value) (x : List Int) : Prop := ∃ A c, vs = [.slice A x.length c] ∧ Ints w L (.slice A x.length c) x ∧ x.length ≤ c ∧ c ≤ 9223372036854775807
theorem IntsE.val {L : Nat → Prop} {w : World} {vs : List Value} {x : List Int} (h : IntsE L w vs x) : ∃ A c, vs = [.slice A x.length c] ∧ Ints w L (.slice A x.length c) x ∧ x.length ≤ c ∧ c ≤ 9223372036854775807 := h
theorem IntsE.keep {L T : Nat → Prop} {w w' : World} {vs : List Value} {x : List Int} (h : IntsE L w vs x) (g : Chg T w w') (hd : ∀ b, b < w.heap.size → L b → ¬ T b) : IntsE L w' vs x := let ⟨A, c, h1, h2, h3⟩ := h; ⟨A, c, h1, h2.keep g hd, h3⟩
theorem IntsE.up {L : Nat → Prop} {w w' : World} {vs : List Value} {x : List Int} (h : IntsE L w vs x) (g : Up w w') : IntsE L w' vs x := h.keep g fun _ _ _ h => h
theorem IntsE.mono {L T : Nat → Prop} {w : World} {vs : List Value} {x : List Int} (h : IntsE L w vs x) (hs : ∀ b, b < w.heap.size → L b → T b) : IntsE T w vs x := let ⟨A, c, h1, h2, h3⟩ := h; ⟨A, c, h1, h2.mono hs, h3⟩
def IntSSV (w : World) (M H L : Nat → Prop) (v : Value) (xs : List (List Int)) : Prop := Nst 1 (IntsE L) w H v xs
theorem IntSSV.keep {M H L T : Nat → Prop} {w w' : World} {v : Value} {xs : List (List Int)} (h : IntSSV w M H L v xs) (g : Chg T w w') (hd : ∀ b, M b ∨ H b ∨ L b → ¬ T b) : IntSSV w' M H L v xs :=
  Nst.keep h (fun _ _ k => IntsE.keep k g (fun b _ h => hd b (.inr (.inr h)))) g (fun b _ h => hd b (.inr (.inl h)))
theorem IntSSV.up {M H L : Nat → Prop} {w w' : World} {v : Value} {xs : List (List Int)} (h : IntSSV w M H L v xs) (g : Up w w') : IntSSV w' M H L v xs := h.keep g fun _ _ h => h
theorem IntSSV.mono {M H L M' H' L' : Nat → Prop} {w : World} {v : Value} {xs : List (List Int)} (h : IntSSV w M H L v xs) (hm : ∀ b, b < w.heap.size → M b → M' b) (hr : ∀ b, b < w.heap.size → H b → H' b) (hl : ∀ b, b < w.heap.size → L b → L' b) : IntSSV w M' H' L' v xs :=
  Nst.mono h (fun _ _ k => IntsE.mono k hl) hr
theorem IntSSV.shape {M H L : Nat → Prop} {w : World} {v : Value} {xs : List (List Int)} (h : IntSSV w M H L v xs) : ∃ A c, v = .slice A xs.length c ∧ xs.length ≤ c ∧ c ≤ 9223372036854775807 ∧ (A = none → c = 0) := Nst.shape h
theorem IntSSV.at_ {M H L : Nat → Prop} {w : World} {v : Value} {xs : List (List Int)} (h : IntSSV w M H L v xs) {i : Nat} (hi : i < xs.length) : ∃ b o c vs, v = .slice (some ⟨b, o, none⟩) xs.length c ∧ H b ∧ b < w.heap.size ∧ vs.length = 1 ∧ IntsE L w vs xs[i] ∧
    ∀ j u, vs[j]? = some u → w.cell? ⟨b, o + i * 1 + j, none⟩ = some u ∧ w.frozen? ⟨b, o + i * 1 + j, none⟩ = false := Nst.at_ h hi
end Go.Proofs.Ytplabnjdhkmmkaa
end
section
set_option maxRecDepth 100000
set_option maxHeartbeats 1000000
set_option linter.unusedSimpArgs false
set_option linter.unusedVariables false
namespace Go.Proofs.Ytplabnjdhkmmkaa
open Go.ChangeShapes Go.WideShapes Go.ChangeAt Go.RowKit
structure NormM where
  n : Int
  p : Int
  fs : List (List Int)
def NormE (M H L : Nat → Prop) (w : World) (vs : List Value) (x : NormM) : Prop := ∃ A c, vs = [.int .i64 x.n, .int .i64 x.p, .slice A x.fs.length c] ∧ IntSSV w M H L (.slice A x.fs.length c) x.fs ∧ (x.fs.length ≤ c ∧ c ≤ 9223372036854775807) ∧ I64 x.n ∧ I64 x.p
theorem NormE.keep {M H L T : Nat → Prop} {w w' : World} {vs : List Value} {x : NormM} (h : NormE M H L w vs x) (g : Chg T w w') (hd : ∀ b, M b ∨ H b ∨ L b → ¬ T b) : NormE M H L w' vs x := let ⟨A, c, he, h0, h1, h2, h3⟩ := h; ⟨A, c, he, h0.keep g hd, h1, h2, h3⟩
theorem NormE.up {M H L : Nat → Prop} {w w' : World} {vs : List Value} {x : NormM} (h : NormE M H L w vs x) (g : Up w w') : NormE M H L w' vs x := h.keep g fun _ _ h => h
theorem NormE.mono {M H L M' H' L' : Nat → Prop} {w : World} {vs : List Value} {x : NormM} (h : NormE M H L w vs x) (hm : ∀ b, b < w.heap.size → M b → M' b) (hr : ∀ b, b < w.heap.size → H b → H' b) (hl : ∀ b, b < w.heap.size → L b → L' b) : NormE M' H' L' w vs x := let ⟨A, c, he, h0, h1, h2, h3⟩ := h; ⟨A, c, he, h0.mono hm hr hl, h1, h2, h3⟩
def NormV (w : World) (M H L : Nat → Prop) (v : Value) (x : NormM) : Prop := ∃ A c, v = .agg #[.int .i64 x.n, .int .i64 x.p, .slice A x.fs.length c] ∧ IntSSV w M H L (.slice A x.fs.length c) x.fs ∧ (x.fs.length ≤ c ∧ c ≤ 9223372036854775807) ∧ I64 x.n ∧ I64 x.p
theorem NormV.keep {M H L T : Nat → Prop} {w w' : World} {v : Value} {x : NormM} (h : NormV w M H L v x) (g : Chg T w w') (hd : ∀ b, M b ∨ H b ∨ L b → ¬ T b) : NormV w' M H L v x := let ⟨A, c, he, h0, h1, h2, h3⟩ := h; ⟨A, c, he, h0.keep g hd, h1, h2, h3⟩
theorem NormV.up {M H L : Nat → Prop} {w w' : World} {v : Value} {x : NormM} (h : NormV w M H L v x) (g : Up w w') : NormV w' M H L v x := h.keep g fun _ _ h => h
theorem NormV.mono {M H L M' H' L' : Nat → Prop} {w : World} {v : Value} {x : NormM} (h : NormV w M H L v x) (hm : ∀ b, b < w.heap.size → M b → M' b) (hr : ∀ b, b < w.heap.size → H b → H' b) (hl : ∀ b, b < w.heap.size → L b → L' b) : NormV w M' H' L' v x := let ⟨A, c, he, h0, h1, h2, h3⟩ := h; ⟨A, c, he, h0.mono hm hr hl, h1, h2, h3⟩
theorem NormE.val {M H L : Nat → Prop} {w : World} {vs : List Value} {x : NormM} (h : NormE M H L w vs x) : ∃ A c, vs = [.int .i64 x.n, .int .i64 x.p, .slice A x.fs.length c] ∧ NormV w M H L (.agg #[.int .i64 x.n, .int .i64 x.p, .slice A x.fs.length c]) x :=
  let ⟨A, c, he, h0, h1, h2, h3⟩ := h; ⟨A, c, he, A, c, rfl, h0, h1, h2, h3⟩
theorem NormV.val {M H L : Nat → Prop} {w : World} {v : Value} {x : NormM} (h : NormV w M H L v x) : ∃ A c, v = .agg #[.int .i64 x.n, .int .i64 x.p, .slice A x.fs.length c] ∧ NormV w M H L (.agg #[.int .i64 x.n, .int .i64 x.p, .slice A x.fs.length c]) x := by
  obtain ⟨A, c, rfl, h0, h1, h2, h3⟩ := h
  exact ⟨_, _, rfl, _, _, rfl, h0, h1, h2, h3⟩
theorem NormV.parts {M H L : Nat → Prop} {w : World} {v : Value} {x : NormM} (h : NormV w M H L v x) : ∃ A c, v = .agg #[.int .i64 x.n, .int .i64 x.p, .slice A x.fs.length c] ∧ IntSSV w M H L (.slice A x.fs.length c) x.fs ∧ (x.fs.length ≤ c ∧ c ≤ 9223372036854775807) ∧ I64 x.n ∧ I64 x.p := h
theorem NormE.mk {M H L : Nat → Prop} {w : World} {x : NormM} {B : Option Addr} {d : Nat} (h : NormV w M H L (.agg #[.int .i64 x.n, .int .i64 x.p, .slice B x.fs.length d]) x) : NormE M H L w [.int .i64 x.n, .int .i64 x.p, .slice B x.fs.length d] x := by
  obtain ⟨A, c, he, h0, h1, h2, h3⟩ := h
  simp only [Value.agg.injEq, Array.mk.injEq, List.cons.injEq, Value.slice.injEq, true_and, and_true] at he
  obtain ⟨rfl, rfl⟩ := he
  exact ⟨_, _, rfl, h0, h1, h2, h3⟩
def NormSV (w : World) (M H L : Nat → Prop) (v : Value) (xs : List NormM) : Prop := Nst 3 (NormE M H L) w M v xs
theorem NormSV.keep {M H L T : Nat → Prop} {w w' : World} {v : Value} {xs : List NormM} (h : NormSV w M H L v xs) (g : Chg T w w') (hd : ∀ b, M b ∨ H b ∨ L b → ¬ T b) : NormSV w' M H L v xs :=
  Nst.keep h (fun _ _ k => NormE.keep k g hd) g (fun b _ h => hd b (.inl h))
theorem NormSV.up {M H L : Nat → Prop} {w w' : World} {v : Value} {xs : List NormM} (h : NormSV w M H L v xs) (g : Up w w') : NormSV w' M H L v xs := h.keep g fun _ _ h => h
theorem NormSV.mono {M H L M' H' L' : Nat → Prop} {w : World} {v : Value} {xs : List NormM} (h : NormSV w M H L v xs) (hm : ∀ b, b < w.heap.size → M b → M' b) (hr : ∀ b, b < w.heap.size → H b → H' b) (hl : ∀ b, b < w.heap.size → L b → L' b) : NormSV w M' H' L' v xs :=
  Nst.mono h (fun _ _ k => NormE.mono k hm hr hl) hm
theorem NormSV.shape {M H L : Nat → Prop} {w : World} {v : Value} {xs : List NormM} (h : NormSV w M H L v xs) : ∃ A c, v = .slice A xs.length c ∧ xs.length ≤ c ∧ c ≤ 9223372036854775807 ∧ (A = none → c = 0) := Nst.shape h
theorem NormSV.at_ {M H L : Nat → Prop} {w : World} {v : Value} {xs : List NormM} (h : NormSV w M H L v xs) {i : Nat} (hi : i < xs.length) : ∃ b o c vs, v = .slice (some ⟨b, o, none⟩) xs.length c ∧ M b ∧ b < w.heap.size ∧ vs.length = 3 ∧ NormE M H L w vs xs[i] ∧
    ∀ j u, vs[j]? = some u → w.cell? ⟨b, o + i * 3 + j, none⟩ = some u ∧ w.frozen? ⟨b, o + i * 3 + j, none⟩ = false := Nst.at_ h hi
end Go.Proofs.Ytplabnjdhkmmkaa
end
section
set_option linter.unusedSimpArgs false
set_option linter.unusedVariables false
set_option maxRecDepth 100000
namespace Go.Proofs.Ytplabnjdhkmmkaa
open Go.ChangeShapes Go.WideShapes Go.ChangeAt Go.RowKit
structure EvM where
  kind : Int
  place : Int
  count : Int
  bed : Int
  car : Int
  dir : Int
def EvM.cells (x : EvM) : List Value := [.int .i64 x.kind, .int .i64 x.place, .int .i64 x.count, .int .i64 x.bed, .int .i64 x.car, .int .i64 x.dir]
def EvM.ok (x : EvM) : Prop := I64 x.kind ∧ I64 x.place ∧ I64 x.count ∧ I64 x.bed ∧ I64 x.car ∧ I64 x.dir
theorem EvM.cells_length (x : EvM) : x.cells.length = 6 := rfl
abbrev EvM.val (x : EvM) : Value := .agg #[.int .i64 x.kind, .int .i64 x.place, .int .i64 x.count, .int .i64 x.bed, .int .i64 x.car, .int .i64 x.dir]
/-- a slice that reads as the list xs -/
def Evs (w : World) (S : Nat → Prop) (v : Value) (xs : List EvM) : Prop := Raw w S 6 v xs.length (xs.flatMap EvM.cells) ∧ ∀ x ∈ xs, x.ok
section
variable {S T : Nat → Prop} {w w' : World} {v : Value} {xs : List EvM}
theorem Evs.keep (h : Evs w S v xs) (g : Chg T w w') (hd : ∀ b, b < w.heap.size → S b → ¬ T b) : Evs w' S v xs := ⟨h.1.keep g hd, h.2⟩
theorem Evs.up (h : Evs w S v xs) (g : Up w w') : Evs w' S v xs := ⟨h.1.up g, h.2⟩
theorem Evs.mono (h : Evs w S v xs) (hs : ∀ b, b < w.heap.size → S b → T b) : Evs w T v xs := ⟨h.1.mono hs, h.2⟩
theorem Evs.shape (h : Evs w S v xs) : ∃ A c, v = .slice A xs.length c ∧ xs.length ≤ c ∧ c ≤ 9223372036854775807 ∧ (A = none → c = 0) := h.1.shape
theorem Evs.nil (w : World) (S : Nat → Prop) (c : Nat) (A : Option Addr) (hc : c ≤ 9223372036854775807) (hA : A = none → c = 0 := by simp) : Evs w S (.slice A 0 c) [] := ⟨Raw.nil w S 6 c A hc hA, by simp⟩
theorem Evs.at_ (h : Evs w S v xs) {i : Nat} (hi : i < xs.length) : ∃ b o c, v = .slice (some ⟨b, o, none⟩) xs.length c ∧ S b ∧ b < w.heap.size ∧
    ∀ j u, (xs[i].cells)[j]? = some u → w.cell? ⟨b, o + i * 6 + j, none⟩ = some u ∧ w.frozen? ⟨b, o + i * 6 + j, none⟩ = false := Raw.at_ EvM.cells_length h.1 hi
end
def MEvs (w : World) (S : Nat → Prop) (v : Value) (xs : List EvM) (k : Int) : Prop := Raw w S 6 v xs.length (markCells k (xs.length * 6))
theorem MEvs.keep {S T : Nat → Prop} {w w' : World} {v : Value} {xs : List EvM} {k : Int} (h : MEvs w S v xs k) (g : Chg T w w') (hd : ∀ b, b < w.heap.size → S b → ¬ T b) : MEvs w' S v xs k := Raw.keep h g hd
theorem MEvs.up {S : Nat → Prop} {w w' : World} {v : Value} {xs : List EvM} {k : Int} (h : MEvs w S v xs k) (g : Up w w') : MEvs w' S v xs k := Raw.up h g
/-- a slice of the call's own, from block base on -/
def OwnEvs (w : World) (base : Nat) (v : Value) (xs : List EvM) : Prop :=
  w.ownsRow base 92 6 v xs.length (xs.flatMap EvM.cells) ∧ ∀ x ∈ xs, x.ok
theorem OwnEvs.nil (w : World) (base : Nat) : OwnEvs w base (.slice none 0 0) [] := ⟨World.ownsRow_nil _ _ _ _, by simp⟩
theorem OwnEvs.made (w : World) (base : Nat) (hb : base ≤ w.heap.size) : OwnEvs (w.alloc (.cells #[] 92)) base (.slice (some ⟨w.heap.size, 0, none⟩) 0 0) [] :=
  ⟨World.ownsRow_made w _ 0 hb (by unfold Go.maxLen; omega) (by simp), by simp⟩
theorem OwnEvs.alloc {w : World} {base : Nat} {v : Value} {xs : List EvM} (h : OwnEvs w base v xs) (o : Obj) : OwnEvs (w.alloc o) base v xs := ⟨h.1.alloc o, h.2⟩
theorem OwnEvs.kept {w w' : World} {base : Nat} {v : Value} {xs : List EvM} {S : Nat → Prop} (h : OwnEvs w base v xs) (k : Chg S w w') (hS : ∀ g, v.ownBlock = some g → ¬ S g) : OwnEvs w' base v xs := by
  refine ⟨⟨h.1.1, ?_⟩, h.2⟩
  rcases h.1.2 with h2 | ⟨g, cap, cur, rfl, hg, hh, r⟩
  · exact Or.inl h2
  · exact Or.inr ⟨g, cap, cur, rfl, hg, (k.block g (Array.getElem?_eq_some_iff.1 hh).1 (hS g rfl)).trans hh, r⟩
theorem OwnEvs.up {w w' : World} {base : Nat} {v : Value} {xs : List EvM} (h : OwnEvs w base v xs) (k : Up w w') : OwnEvs w' base v xs := h.kept k fun _ _ h => h
theorem OwnEvs.rd {w : World} {base : Nat} {v : Value} {xs : List EvM} (h : OwnEvs w base v xs) : Evs w (New base w.heap.size) v xs := ⟨Raw.of_own h.1, h.2⟩
theorem OwnEvs.lt {w : World} {base : Nat} {v : Value} {xs : List EvM} (h : OwnEvs w base v xs) {g : Nat} (hg : v.ownBlock = some g) : base ≤ g ∧ g < w.heap.size := h.1.lt g hg
theorem infoEvs : (Try.prog.info? 92).map (fun i => (i.zero, i.size, i.bytes)) = some (some (EvM.mk 0 0 0 0 0 0).val, 6, 48) := by kernel_rfl
theorem cells_oneEvs (x : EvM) : ∀ u ∈ x.cells, u.oneCell' = true := by
  intro u hu
  simp only [EvM.cells, List.mem_cons, List.not_mem_nil, or_false] at hu
  rcases hu with rfl | rfl | rfl | rfl | rfl | rfl <;> rfl
theorem wp_appendEvs {w : World} {ops : Array Oper} {rest : List Oper} {o : Oper} {a : Act} {Q : Exit → Act → World → Prop} (hgd : o.guard = none) (s x : Operand)
    (ho : o.op = .call { callee := .builtin .append, args := #[s, x], argTypes := #[40, 40] })
    (base : Nat) (v : Value) (xs : List EvM) (hs : a.eval s = v) (hown : OwnEvs w base v xs)
    (S : Nat → Prop) (u : Value) (ys : List EvM) (hx : a.eval x = u) (hsrc : Evs w S u ys) (hlen : xs.length + ys.length ≤ 1099511627776) (hbase : base ≤ w.heap.size)
    (h : ∀ v' w', OwnEvs w' base v' (xs ++ ys) → w.grownBy w' v.ownBlock → Chg (fun k => base ≤ k) w w' → wpList Try.prog ops Q rest (a.put o.dst v') w') : wpList Try.prog ops Q (o :: rest) a w := by
  obtain ⟨i0, hi, hz0, hz1, hz2⟩ := info_parts infoEvs
  obtain ⟨⟨hl, A, c, rfl, hlc, hcm, hr, hnn⟩, hok⟩ := hsrc
  have hok' : ∀ y ∈ xs ++ ys, y.ok := fun y hy => (List.mem_append.1 hy).elim (hown.2 y) (hok y)
  cases A with
  | none =>
    have hy : ys = [] := by
      rcases Nat.eq_zero_or_pos ys.length with h0 | h0
      · exact List.eq_nil_of_length_eq_zero h0
      · obtain ⟨b, oo, h1, _⟩ := hr h0
        cases h1
    subst hy
    obtain rfl := hnn rfl
    refine wpList_append_own_none hgd s x 40 ho base 92 i0 6 Try.underlying40 hi v xs.length _ hs hown.1 hx ?_
    exact h v w (by simpa using hown) (World.grownBy.refl w _) (Chg.refl _ _)
  | some ad =>
    have hnews : ∀ j q, (ys.flatMap EvM.cells)[j]? = some q → w.cell? (ad.add j) = some q := by
      intro j q hq
      obtain ⟨hj, he⟩ := List.getElem?_eq_some_iff.1 hq
      have hp : 0 < ys.length := by
        rcases Nat.eq_zero_or_pos ys.length with h0 | h0
        · rw [List.eq_nil_of_length_eq_zero h0] at hj; simp at hj
        · exact h0
      obtain ⟨b, oo, h1, _, _, hc⟩ := hr hp
      injection h1 with h1
      subst h1
      have := (hc j hj).1
      rw [he] at this
      rw [← this]
      unfold Addr.add
      by_cases h0 : j = 0 <;> simp [h0]
    refine wpList_append_own (P := Try.prog) w hgd s x 40 ho base 92 i0 _ 6 48 Try.underlying40 hi hz0 hz1 hz2 rfl (by decide) v xs.length _ hs hown.1 ad ys.length c (ys.flatMap EvM.cells) hx hl hnews ?_ ?_ ?_ hbase ?_
    · intro q hq
      obtain ⟨y, _, hy⟩ := List.mem_flatMap.1 hq
      exact cells_oneEvs y q hy
    · unfold Go.maxLen; omega
    · omega
    · intro v' w' h2 h3 _
      exact h v' w' ⟨by simpa using h2, hok'⟩ h3 ((Chg.refl _ _).grown h3 fun k hk => .inl (hown.1.lt k hk).1)
theorem wp_append1Evs {w : World} {ops : Array Oper} {rest : List Oper} {o : Oper} {a : Act} {Q : Exit → Act → World → Prop} (hgd : o.guard = none) (s x : Operand)
    (ho : o.op = .call { callee := .builtin .append, args := #[s, x], argTypes := #[40, 40] })
    (base : Nat) (v : Value) (xs : List EvM) (hs : a.eval s = v) (hown : OwnEvs w base v xs)
    (g : Nat) (y : EvM) (hx : a.eval x = .slice (some ⟨g, 0, none⟩) 1 1) (hh : w.heap[g]? = some (.cells y.cells.toArray 92 (0, 0))) (hy : y.ok) (hlen : xs.length ≤ 1099511627775) (hbase : base ≤ w.heap.size)
    (h : ∀ v' w', OwnEvs w' base v' (xs ++ [y]) → w.grownBy w' v.ownBlock → Chg (fun k => base ≤ k) w w' → wpList Try.prog ops Q rest (a.put o.dst v') w') : wpList Try.prog ops Q (o :: rest) a w :=
  wp_appendEvs hgd s x ho base v xs hs hown (fun _ => True) _ [y] hx ⟨Raw.of_block hh (by simp) trivial rfl (by simp) (by omega), by simpa using hy⟩ (by simp; omega) hbase h
end Go.Proofs.Ytplabnjdhkmmkaa
end
section
set_option linter.unusedSimpArgs false
set_option linter.unusedVariables false
namespace Go.Proofs.Ytplabnjdhkmmkaa
open Go.ChangeShapes Go.WideShapes Go.ChangeAt Go.RowKit
end Go.Proofs.Ytplabnjdhkmmkaa
end
section
set_option maxRecDepth 100000
set_option maxHeartbeats 1000000
set_option linter.unusedSimpArgs false
set_option linter.unusedVariables false
namespace Go.Proofs.Ytplabnjdhkmmkaa
open Go.ChangeShapes Go.WideShapes Go.ChangeAt Go.RowKit
def EvsE (L : Nat → Prop) (w : World) (vs : List Value) (x : List EvM) : Prop := ∃ A c, vs = [.slice A x.length c] ∧ Evs w L (.slice A x.length c) x ∧ x.length ≤ c ∧ c ≤ 9223372036854775807
theorem EvsE.val {L : Nat → Prop} {w : World} {vs : List Value} {x : List EvM} (h : EvsE L w vs x) : ∃ A c, vs = [.slice A x.length c] ∧ Evs w L (.slice A x.length c) x ∧ x.length ≤ c ∧ c ≤ 9223372036854775807 := h
theorem EvsE.keep {L T : Nat → Prop} {w w' : World} {vs : List Value} {x : List EvM} (h : EvsE L w vs x) (g : Chg T w w') (hd : ∀ b, b < w.heap.size → L b → ¬ T b) : EvsE L w' vs x := let ⟨A, c, h1, h2, h3⟩ := h; ⟨A, c, h1, h2.keep g hd, h3⟩
theorem EvsE.up {L : Nat → Prop} {w w' : World} {vs : List Value} {x : List EvM} (h : EvsE L w vs x) (g : Up w w') : EvsE L w' vs x := h.keep g fun _ _ _ h => h
theorem EvsE.mono {L T : Nat → Prop} {w : World} {vs : List Value} {x : List EvM} (h : EvsE L w vs x) (hs : ∀ b, b < w.heap.size → L b → T b) : EvsE T w vs x := let ⟨A, c, h1, h2, h3⟩ := h; ⟨A, c, h1, h2.mono hs, h3⟩
def EvSV (w : World) (M H L : Nat → Prop) (v : Value) (xs : List (List EvM)) : Prop := Nst 1 (EvsE L) w H v xs
theorem EvSV.keep {M H L T : Nat → Prop} {w w' : World} {v : Value} {xs : List (List EvM)} (h : EvSV w M H L v xs) (g : Chg T w w') (hd : ∀ b, M b ∨ H b ∨ L b → ¬ T b) : EvSV w' M H L v xs :=
  Nst.keep h (fun _ _ k => EvsE.keep k g (fun b _ h => hd b (.inr (.inr h)))) g (fun b _ h => hd b (.inr (.inl h)))
theorem EvSV.up {M H L : Nat → Prop} {w w' : World} {v : Value} {xs : List (List EvM)} (h : EvSV w M H L v xs) (g : Up w w') : EvSV w' M H L v xs := h.keep g fun _ _ h => h
theorem EvSV.mono {M H L M' H' L' : Nat → Prop} {w : World} {v : Value} {xs : List (List EvM)} (h : EvSV w M H L v xs) (hm : ∀ b, b < w.heap.size → M b → M' b) (hr : ∀ b, b < w.heap.size → H b → H' b) (hl : ∀ b, b < w.heap.size → L b → L' b) : EvSV w M' H' L' v xs :=
  Nst.mono h (fun _ _ k => EvsE.mono k hl) hr
theorem EvSV.shape {M H L : Nat → Prop} {w : World} {v : Value} {xs : List (List EvM)} (h : EvSV w M H L v xs) : ∃ A c, v = .slice A xs.length c ∧ xs.length ≤ c ∧ c ≤ 9223372036854775807 ∧ (A = none → c = 0) := Nst.shape h
theorem EvSV.at_ {M H L : Nat → Prop} {w : World} {v : Value} {xs : List (List EvM)} (h : EvSV w M H L v xs) {i : Nat} (hi : i < xs.length) : ∃ b o c vs, v = .slice (some ⟨b, o, none⟩) xs.length c ∧ H b ∧ b < w.heap.size ∧ vs.length = 1 ∧ EvsE L w vs xs[i] ∧
    ∀ j u, vs[j]? = some u → w.cell? ⟨b, o + i * 1 + j, none⟩ = some u ∧ w.frozen? ⟨b, o + i * 1 + j, none⟩ = false := Nst.at_ h hi
end Go.Proofs.Ytplabnjdhkmmkaa
end
section
set_option maxRecDepth 100000
set_option maxHeartbeats 1000000
set_option linter.unusedSimpArgs false
set_option linter.unusedVariables false
namespace Go.Proofs.Ytplabnjdhkmmkaa
open Go.ChangeShapes Go.WideShapes Go.ChangeAt Go.RowKit
structure ProofM where
  forms : List NormM
  sts : List (List EvM)
def ProofE (M H L : Nat → Prop) (w : World) (vs : List Value) (x : ProofM) : Prop := ∃ A0 c0 A1 c1, vs = [.slice A0 x.forms.length c0, .slice A1 x.sts.length c1] ∧ NormSV w M H L (.slice A0 x.forms.length c0) x.forms ∧ EvSV w M H L (.slice A1 x.sts.length c1) x.sts ∧ (x.forms.length ≤ c0 ∧ c0 ≤ 9223372036854775807) ∧ (x.sts.length ≤ c1 ∧ c1 ≤ 9223372036854775807)
theorem ProofE.keep {M H L T : Nat → Prop} {w w' : World} {vs : List Value} {x : ProofM} (h : ProofE M H L w vs x) (g : Chg T w w') (hd : ∀ b, M b ∨ H b ∨ L b → ¬ T b) : ProofE M H L w' vs x := let ⟨A0, c0, A1, c1, he, h0, h1, h2, h3⟩ := h; ⟨A0, c0, A1, c1, he, h0.keep g hd, h1.keep g hd, h2, h3⟩
theorem ProofE.up {M H L : Nat → Prop} {w w' : World} {vs : List Value} {x : ProofM} (h : ProofE M H L w vs x) (g : Up w w') : ProofE M H L w' vs x := h.keep g fun _ _ h => h
theorem ProofE.mono {M H L M' H' L' : Nat → Prop} {w : World} {vs : List Value} {x : ProofM} (h : ProofE M H L w vs x) (hm : ∀ b, b < w.heap.size → M b → M' b) (hr : ∀ b, b < w.heap.size → H b → H' b) (hl : ∀ b, b < w.heap.size → L b → L' b) : ProofE M' H' L' w vs x := let ⟨A0, c0, A1, c1, he, h0, h1, h2, h3⟩ := h; ⟨A0, c0, A1, c1, he, h0.mono hm hr hl, h1.mono hm hr hl, h2, h3⟩
def ProofV (w : World) (M H L : Nat → Prop) (v : Value) (x : ProofM) : Prop := ∃ A0 c0 A1 c1, v = .agg #[.slice A0 x.forms.length c0, .slice A1 x.sts.length c1] ∧ NormSV w M H L (.slice A0 x.forms.length c0) x.forms ∧ EvSV w M H L (.slice A1 x.sts.length c1) x.sts ∧ (x.forms.length ≤ c0 ∧ c0 ≤ 9223372036854775807) ∧ (x.sts.length ≤ c1 ∧ c1 ≤ 9223372036854775807)
theorem ProofV.keep {M H L T : Nat → Prop} {w w' : World} {v : Value} {x : ProofM} (h : ProofV w M H L v x) (g : Chg T w w') (hd : ∀ b, M b ∨ H b ∨ L b → ¬ T b) : ProofV w' M H L v x := let ⟨A0, c0, A1, c1, he, h0, h1, h2, h3⟩ := h; ⟨A0, c0, A1, c1, he, h0.keep g hd, h1.keep g hd, h2, h3⟩
theorem ProofV.up {M H L : Nat → Prop} {w w' : World} {v : Value} {x : ProofM} (h : ProofV w M H L v x) (g : Up w w') : ProofV w' M H L v x := h.keep g fun _ _ h => h
theorem ProofV.mono {M H L M' H' L' : Nat → Prop} {w : World} {v : Value} {x : ProofM} (h : ProofV w M H L v x) (hm : ∀ b, b < w.heap.size → M b → M' b) (hr : ∀ b, b < w.heap.size → H b → H' b) (hl : ∀ b, b < w.heap.size → L b → L' b) : ProofV w M' H' L' v x := let ⟨A0, c0, A1, c1, he, h0, h1, h2, h3⟩ := h; ⟨A0, c0, A1, c1, he, h0.mono hm hr hl, h1.mono hm hr hl, h2, h3⟩
theorem ProofE.val {M H L : Nat → Prop} {w : World} {vs : List Value} {x : ProofM} (h : ProofE M H L w vs x) : ∃ A0 c0 A1 c1, vs = [.slice A0 x.forms.length c0, .slice A1 x.sts.length c1] ∧ ProofV w M H L (.agg #[.slice A0 x.forms.length c0, .slice A1 x.sts.length c1]) x :=
  let ⟨A0, c0, A1, c1, he, h0, h1, h2, h3⟩ := h; ⟨A0, c0, A1, c1, he, A0, c0, A1, c1, rfl, h0, h1, h2, h3⟩
theorem ProofV.val {M H L : Nat → Prop} {w : World} {v : Value} {x : ProofM} (h : ProofV w M H L v x) : ∃ A0 c0 A1 c1, v = .agg #[.slice A0 x.forms.length c0, .slice A1 x.sts.length c1] ∧ ProofV w M H L (.agg #[.slice A0 x.forms.length c0, .slice A1 x.sts.length c1]) x := by
  obtain ⟨A0, c0, A1, c1, rfl, h0, h1, h2, h3⟩ := h
  exact ⟨_, _, _, _, rfl, _, _, _, _, rfl, h0, h1, h2, h3⟩
theorem ProofV.parts {M H L : Nat → Prop} {w : World} {v : Value} {x : ProofM} (h : ProofV w M H L v x) : ∃ A0 c0 A1 c1, v = .agg #[.slice A0 x.forms.length c0, .slice A1 x.sts.length c1] ∧ NormSV w M H L (.slice A0 x.forms.length c0) x.forms ∧ EvSV w M H L (.slice A1 x.sts.length c1) x.sts ∧ (x.forms.length ≤ c0 ∧ c0 ≤ 9223372036854775807) ∧ (x.sts.length ≤ c1 ∧ c1 ≤ 9223372036854775807) := h
theorem ProofE.mk {M H L : Nat → Prop} {w : World} {x : ProofM} {B0 B1 : Option Addr} {d0 d1 : Nat} (h : ProofV w M H L (.agg #[.slice B0 x.forms.length d0, .slice B1 x.sts.length d1]) x) : ProofE M H L w [.slice B0 x.forms.length d0, .slice B1 x.sts.length d1] x := by
  obtain ⟨A0, c0, A1, c1, he, h0, h1, h2, h3⟩ := h
  simp only [Value.agg.injEq, Array.mk.injEq, List.cons.injEq, Value.slice.injEq, true_and, and_true] at he
  obtain ⟨⟨rfl, rfl⟩, ⟨rfl, rfl⟩⟩ := he
  exact ⟨_, _, _, _, rfl, h0, h1, h2, h3⟩
end Go.Proofs.Ytplabnjdhkmmkaa
end
section
set_option linter.unusedSimpArgs false
set_option linter.unusedVariables false
namespace Go.Proofs.Ytplabnjdhkmmkaa
theorem evM_eq {a b : EvM} : a = b ↔ a.kind = b.kind ∧ a.place = b.place ∧ a.count = b.count ∧ a.bed = b.bed ∧ a.car = b.car ∧ a.dir = b.dir := by
  cases a; cases b; simp
instance : DecidableEq EvM := fun _ _ => decidable_of_iff _ evM_eq.symm
theorem normM_eq {a b : NormM} : a = b ↔ a.n = b.n ∧ a.p = b.p ∧ a.fs = b.fs := by
  cases a; cases b; simp
instance : DecidableEq NormM := fun _ _ => decidable_of_iff _ normM_eq.symm
theorem proofM_eq {a b : ProofM} : a = b ↔ a.forms = b.forms ∧ a.sts = b.sts := by
  cases a; cases b; simp
instance : DecidableEq ProofM := fun _ _ => decidable_of_iff _ proofM_eq.symm
section
variable {α : Type}
def AgreeTo (xs ys : List α) (j : Nat) : Prop := ∀ i (h : i < xs.length) (h' : i < ys.length), i < j → xs[i] = ys[i]
theorem AgreeTo.start (xs ys : List α) : AgreeTo xs ys 0 := fun _ _ _ h => absurd h (Nat.not_lt_zero _)
theorem AgreeTo.next {xs ys : List α} {j : Nat} (h : AgreeTo xs ys j) (h1 : j < xs.length) (h2 : j < ys.length) (he : xs[j] = ys[j]) : AgreeTo xs ys (j + 1) := fun i a b c => by
  by_cases e : i = j
  · subst e
    exact he
  · exact h i a b (by omega)
theorem AgreeTo.all {xs ys : List α} (h : AgreeTo xs ys xs.length) (hl : xs.length = ys.length) : xs = ys :=
  List.ext_getElem hl fun i a b => h i a b a
variable [DecidableEq α]
end
end Go.Proofs.Ytplabnjdhkmmkaa
end
section
set_option maxRecDepth 100000
set_option maxHeartbeats 1000000
set_option linter.unusedSimpArgs false
set_option linter.unusedVariables false
namespace Go.Proofs.Ytplabnjdhkmmkaa
open Go.ChangeShapes Go.WideShapes Go.ChangeAt Go.RowKit
end Go.Proofs.Ytplabnjdhkmmkaa
end
section
set_option maxRecDepth 100000
set_option maxHeartbeats 1000000
set_option linter.unusedSimpArgs false
set_option linter.unusedVariables false
set_option maxRecDepth 100000
set_option maxHeartbeats 2000000
namespace Go.Proofs.Ytplabnjdhkmmkaa
open Go.ChangeShapes Go.WideShapes Go.ChangeAt Go.RowKit
/-- 'out = append(out, list...)' -/
theorem wp_app_intsW {w : World} {ops : Array Oper} {rest : List Oper} {o : Oper} {a : Act} {Q : Exit → Act → World → Prop} (hgd : o.guard = none) (s x : Operand)
    (ho : o.op = .call { callee := .builtin .append, args := #[s, x], argTypes := #[23, 23] })
    (base : Nat) (v : Value) (xs : List Int) (hs : a.eval s = v) (hown : OwnI w base v xs)
    (S : Nat → Prop) (u : Value) (ys : List Int) (hx : a.eval x = u) (hsrc : Ints w S u ys) (hlen : xs.length + ys.length ≤ 1099511627776) (hbase : base ≤ w.heap.size)
    (h : ∀ v' w', OwnI w' base v' (xs ++ ys) → Chg (fun b => v.ownBlock = some b) w w' → (∀ b, v'.ownBlock = some b → v.ownBlock = some b ∨ w.heap.size ≤ b) → Chg (fun k => base ≤ k) w w' → wpList Try.prog ops Q rest (a.put o.dst v') w') : wpList Try.prog ops Q (o :: rest) a w := by
  obtain ⟨i0, hi, hz0, hz1, hz2⟩ := info_parts info2
  obtain ⟨A, c, rfl, hlc, hcm, hok, hr, hnn⟩ := hsrc
  have hok' : ∀ y ∈ xs ++ ys, I64 y := fun y hy => (List.mem_append.1 hy).elim (hown.2 y) (hok y)
  cases A with
  | none =>
    have hy : ys = [] := by
      rcases Nat.eq_zero_or_pos ys.length with h0 | h0
      · exact List.eq_nil_of_length_eq_zero h0
      · obtain ⟨b, oo, h1, _⟩ := hr h0
        cases h1
    subst hy
    obtain rfl := hnn rfl
    refine wpList_append_own_none hgd s x 23 ho base 2 i0 1 Try.underlying23 hi v xs.length _ hs hown.1 hx ?_
    exact h v w (by simpa using hown) (Chg.refl _ _) (fun b hb => .inl hb) (Chg.refl _ _)
  | some ad =>
    have hnews : ∀ j q, (ys.map (Value.int .i64))[j]? = some q → w.cell? (ad.add j) = some q := by
      intro j q hq
      obtain ⟨hj, he⟩ := List.getElem?_eq_some_iff.1 hq
      have hj' : j < ys.length := by simpa using hj
      obtain ⟨b, oo, h1, _, _, hc⟩ := hr (by omega)
      injection h1 with h1
      subst h1
      have := (hc j hj').1
      rw [← he, List.getElem_map, ← this]
      unfold Addr.add
      by_cases h0 : j = 0 <;> simp [h0]
    refine wpList_append_own2 (P := Try.prog) hgd s x 23 ho base 2 i0 (.int .i64 0) 1 8 Try.underlying23 hi hz0 hz1 hz2 rfl (by decide) v xs.length _ hs hown.1 ad ys.length c (ys.map (Value.int .i64)) hx (by simp) hnews ?_ ?_ ?_ hbase ?_
    · intro q hq
      obtain ⟨y, _, rfl⟩ := List.mem_map.1 hq
      rfl
    · unfold Go.maxLen; omega
    · omega
    · intro v' w' h2 h3 h4
      exact h v' w' ⟨by simpa using h2, hok'⟩ (Chg.of_grown h3) h4 ((Chg.refl _ _).grown h3 fun k hk => .inl (hown.1.lt k hk).1)
theorem l00Own_any (w : World) (S : Nat → Prop) (v : Value) (xs : List Int) (h : Ints w S v xs) (hl : xs.length ≤ 100000) :
    Calls Try.prog 27 #[v] w fun e w' => ∃ v', e = .returned v' ∧ Ints w' (New w.heap.size w'.heap.size) v' xs ∧ Up w w' := by
  obtain ⟨A, c, rfl, hlc, hcm, -⟩ := h.shape
  have H := Lib.hid h
  have M0 := Lib.hid (OwnI.made w w.heap.size (Nat.le_refl _))
  have HL := Lib.hid (show ([] : List Int).length + xs.length ≤ 1099511627776 by simp; omega)
  clear h
  go_enter Try.func27, Try.ntmps27
  go_wp2_with (first | (at_builtin; refine wp_app_intsW rfl _ _ rfl w.heap.size _ ([] : List Int) rfl M0.out _ _ xs rfl (H.out.up (by repeat (first | exact Chg.refl _ _ | apply Chg.drew | apply Chg.drewN | refine Chg.alloc ?_ _))) HL.out (by simp) ?_; intro v' w1 ho1 _ _ hg1; have HO := Lib.hid ho1; have HG := Lib.hid (Chg.new ((Chg.refl Nowhere w).alloc _) hg1 (fun i hi => by omega)); clear ho1 hg1))
  go_ret
  exact ⟨_, rfl, by have := HO.out.ints; rw [List.nil_append] at this; exact this, HG.out⟩
end Go.Proofs.Ytplabnjdhkmmkaa
end
section
set_option linter.unusedSimpArgs false
set_option linter.unusedVariables false
namespace Go.Proofs.Ytplabnjdhkmmkaa
open Go.ChangeShapes Go.WideShapes Go.ChangeAt Go.RowKit
def betB (f t x : Int) : Bool := decide ((f < x ∧ x ≤ t) ∨ (t < x ∧ x < f))
def mvTo (f t x : Int) : Int := if x = f then t else x
def appCode (xs : List Int) (f t : Int) : Int := if placesB false xs = true then (if isMoveP f t then (if f ∈ xs then (if xs.any (betB f t) = true then 12 else 0) else 7) else 1) else 1
def mvL (xs : List Int) (f t : Int) : List Int := xs.map (mvTo f t)
def appOut (xs : List Int) (f t : Int) : List Int := if appCode xs f t = 0 then onceL (mvL xs f t) (mvL xs f t) xs.length else []
theorem appCode_a {xs : List Int} {f t : Int} (h : placesB false xs = false) : appCode xs f t = 1 := if_neg (by rw [h]; simp)
theorem appCode_b {xs : List Int} {f t : Int} (h : placesB false xs = true) (h2 : ¬ isMoveP f t) : appCode xs f t = 1 := by unfold appCode; rw [if_pos h, if_neg h2]
theorem appCode_c {xs : List Int} {f t : Int} (h : placesB false xs = true) (h2 : isMoveP f t) (h3 : f ∉ xs) : appCode xs f t = 7 := by unfold appCode; rw [if_pos h, if_pos h2, if_neg h3]
theorem appCode_d {xs : List Int} {f t : Int} (h : placesB false xs = true) (h2 : isMoveP f t) (h3 : f ∈ xs) (h4 : xs.any (betB f t) = true) : appCode xs f t = 12 := by unfold appCode; rw [if_pos h, if_pos h2, if_pos h3, if_pos h4]
theorem appCode_e {xs : List Int} {f t : Int} (h : placesB false xs = true) (h2 : isMoveP f t) (h3 : f ∈ xs) (h4 : xs.any (betB f t) = false) : appCode xs f t = 0 := by unfold appCode; rw [if_pos h, if_pos h2, if_pos h3, if_neg (by rw [h4]; simp)]
theorem appOut_no {xs : List Int} {f t c : Int} (h : appCode xs f t = c) (hc : c ≠ 0) : appOut xs f t = [] := if_neg (by rw [h]; exact hc)
theorem appOut_yes {xs : List Int} {f t : Int} (h : appCode xs f t = 0) : appOut xs f t = onceL (mvL xs f t) (mvL xs f t) xs.length := if_pos h
theorem mvL_length (xs : List Int) (f t : Int) : (mvL xs f t).length = xs.length := by simp [mvL]
theorem mvL_ix {xs : List Int} {f t : Int} {j : Nat} (h : j < xs.length) : ix (mvL xs f t) j = mvTo f t xs[j] := by
  rw [ix_eq (by rw [mvL_length]; exact h)]; simp [mvL]
theorem any_bet {xs : List Int} {f t : Int} {j : Nat} (h : j < xs.length) (h2 : betB f t xs[j] = true) : xs.any (betB f t) = true := List.any_eq_true.2 ⟨_, List.getElem_mem h, h2⟩
theorem any_bet_take {xs : List Int} {f t : Int} {j : Nat} (h : j < xs.length) (h1 : (xs.take j).any (betB f t) = false) (h2 : betB f t xs[j] = false) : (xs.take (j + 1)).any (betB f t) = false := by
  rw [List.take_succ_eq_append_getElem h, List.any_append, h1]
  simp [h2]
theorem places_bd {xs : List Int} (h : placesB false xs = true) : xs.length ≤ 8 ∧ ∀ x ∈ xs, 0 ≤ x ∧ x ≤ 23 := by
  obtain ⟨h1, h2⟩ := of_decide_eq_true h
  refine ⟨h2, fun x hx => ?_⟩
  obtain ⟨i, hi, rfl⟩ := List.getElem_of_mem hx
  have := h1 i hi hi
  exact ⟨this.1, this.2.1⟩
end Go.Proofs.Ytplabnjdhkmmkaa
end
section
set_option linter.unusedSimpArgs false
set_option linter.unusedVariables false
namespace Go.Proofs.Ytplabnjdhkmmkaa
open Go.ChangeShapes Go.WideShapes Go.ChangeAt Go.RowKit
/-- moves that are valid one after the other -/
inductive Runs : List Int → List MoveM → List Int → Prop
  | nil (l : List Int) : Runs l [] l
  | cons {l e : List Int} {m : MoveM} {ms : List MoveM} (h : appCode l m.fr m.to = 0) (k : Runs (appOut l m.fr m.to) ms e) : Runs l (m :: ms) e
theorem Runs.append {a b c : List Int} {ms ns : List MoveM} (h : Runs a ms b) (k : Runs b ns c) : Runs a (ms ++ ns) c := by
  induction h with
  | nil => exact k
  | cons h _ ih => exact .cons h (ih k)
theorem sorted_ext : ∀ {a b : List Int}, a.Pairwise (· < ·) → b.Pairwise (· < ·) → (∀ x, x ∈ a ↔ x ∈ b) → a = b
  | [], [], _, _, _ => rfl
  | [], y :: b, _, _, h => by have := (h y).2 (by simp); simp at this
  | x :: a, [], _, _, h => by have := (h x).1 (by simp); simp at this
  | x :: a, y :: b, ha, hb, h => by
    have ha' := List.pairwise_cons.1 ha
    have hb' := List.pairwise_cons.1 hb
    have e : x = y := by
      rcases List.mem_cons.1 ((h x).1 (by simp)) with h1 | h1
      · exact h1
      · rcases List.mem_cons.1 ((h y).2 (by simp)) with h2 | h2
        · exact h2.symm
        · have := hb'.1 x h1
          have := ha'.1 y h2
          omega
    subst e
    rw [sorted_ext ha'.2 hb'.2 (fun z => ⟨fun hz => ?_, fun hz => ?_⟩)]
    · rcases List.mem_cons.1 ((h z).1 (by simp [hz])) with h1 | h1
      · have := ha'.1 z hz; omega
      · exact h1
    · rcases List.mem_cons.1 ((h z).2 (by simp [hz])) with h1 | h1
      · have := hb'.1 z hz; omega
      · exact h1
theorem ix_mem {xs : List Int} {y : Int} : y ∈ xs ↔ ∃ i, i < xs.length ∧ ix xs i = y := by
  constructor
  · intro h
    obtain ⟨i, hi, rfl⟩ := List.getElem_of_mem h
    exact ⟨i, hi, ix_eq hi⟩
  · rintro ⟨i, hi, rfl⟩
    rw [ix_eq hi]
    exact List.getElem_mem hi
/-- a list that does not fall, each value once -/
theorem once_sorted {zs : List Int} (hz : ∀ i j, i ≤ j → j < zs.length → ix zs i ≤ ix zs j) : ∀ j, j ≤ zs.length → (onceL zs zs j).Pairwise (· < ·) ∧ ∀ y, y ∈ onceL zs zs j ↔ ∃ i, i < j ∧ ix zs i = y
  | 0, _ => ⟨by simp [onceL, keepTo], fun y => by simp [onceL, keepTo]⟩
  | j + 1, hj => by
    obtain ⟨h1, h2⟩ := once_sorted hz j (by omega)
    cases hb : keepB zs j with
    | true =>
      rw [onceL_yes hb]
      refine ⟨List.pairwise_append.2 ⟨h1, by simp, fun a ha b hb2 => ?_⟩, fun y => ?_⟩
      · rw [List.mem_singleton.1 hb2]
        obtain ⟨i, hi, rfl⟩ := (h2 a).1 ha
        have h3 := hz i (j - 1) (by omega) (by omega)
        have h4 := hz (j - 1) j (by omega) (by omega)
        unfold keepB at hb
        simp only [Bool.or_eq_true, decide_eq_true_eq, bne_iff_ne] at hb
        rcases hb with hb | hb
        · omega
        · omega
      · rw [List.mem_append, List.mem_singleton, h2]
        constructor
        · rintro (⟨i, hi, e⟩ | e)
          · exact ⟨i, by omega, e⟩
          · exact ⟨j, by omega, e.symm⟩
        · rintro ⟨i, hi, e⟩
          by_cases h : i < j
          · exact .inl ⟨i, h, e⟩
          · obtain rfl : i = j := by omega
            exact .inr e.symm
    | false =>
      rw [onceL_no hb]
      refine ⟨h1, fun y => (h2 y).trans ⟨fun ⟨i, hi, e⟩ => ⟨i, by omega, e⟩, fun ⟨i, hi, e⟩ => ?_⟩⟩
      by_cases h : i < j
      · exact ⟨i, h, e⟩
      · obtain rfl : i = j := by omega
        unfold keepB at hb
        rw [Bool.or_eq_false_iff] at hb
        have h0 := of_decide_eq_false hb.1
        have h3 : ix zs i = ix zs (i - 1) := by simpa using hb.2
        exact ⟨i - 1, by omega, by rw [← h3]; exact e⟩
theorem places_rise {tw : Bool} {xs : List Int} (h : placesB tw xs = true) : xs.length ≤ 8 ∧ (∀ i, i < xs.length → 0 ≤ ix xs i ∧ ix xs i ≤ 23) ∧ (∀ i j, i < j → j < xs.length → ix xs i < ix xs j ∨ (tw = true ∧ ix xs i = ix xs j)) := by
  obtain ⟨h1, h2⟩ := of_decide_eq_true h
  refine ⟨h2, fun i hi => ?_, ?_⟩
  · have := h1 i hi hi
    rw [ix_eq hi]
    exact ⟨this.1, this.2.1⟩
  · intro i j hij
    induction j with
    | zero => omega
    | succ j ih =>
      intro hj
      have h3 := (h1 (j + 1) hj hj).2.2 (by omega)
      have e1 : xs[j + 1 - 1]'(by omega) = ix xs j := by rw [ix_eq (by omega)]; rfl
      have e2 : xs[j + 1] = ix xs (j + 1) := by rw [ix_eq hj]
      rw [e1, e2] at h3
      by_cases hl : i < j
      · have h4 := ih hl (by omega)
        rcases h3 with h3 | ⟨h3, h5⟩ <;> rcases h4 with h4 | ⟨h4, h6⟩
        · left; omega
        · left; omega
        · left; omega
        · exact .inr ⟨h3, by omega⟩
      · obtain rfl : i = j := by omega
        exact h3
theorem rise_all {xs : List Int} (h : placesB false xs = true) {i j : Nat} (hij : i < j) (hj : j < xs.length) : ix xs i < ix xs j := ((places_rise h).2.2 i j hij hj).elim id (fun h => by cases h.1)
theorem rise_le {xs : List Int} (h : placesB true xs = true) {i j : Nat} (hij : i ≤ j) (hj : j < xs.length) : ix xs i ≤ ix xs j := by
  rcases Nat.lt_or_ge i j with h1 | h1
  · rcases (places_rise h).2.2 i j h1 hj with h2 | h2 <;> omega
  · obtain rfl : i = j := by omega
    omega
theorem sorted_ix {xs : List Int} : xs.Pairwise (· < ·) ↔ ∀ i j, i < j → j < xs.length → ix xs i < ix xs j := by
  rw [List.pairwise_iff_getElem]
  constructor
  · intro h i j hij hj
    rw [ix_eq (by omega), ix_eq hj]
    exact h i j (by omega) hj hij
  · intro h i j hi hj hij
    have := h i j hij hj
    rwa [ix_eq hi, ix_eq hj] at this
theorem places_of {xs : List Int} (h1 : xs.Pairwise (· < ·)) (h2 : ∀ x ∈ xs, 0 ≤ x ∧ x ≤ 23) (h3 : xs.length ≤ 8) : placesB false xs = true := by
  refine decide_eq_true ⟨fun i hi _ => ?_, h3⟩
  have := h2 _ (List.getElem_mem hi)
  refine ⟨this.1, this.2, fun h0 => .inl ?_⟩
  exact List.pairwise_iff_getElem.1 h1 (i - 1) i (by omega) hi (by omega)
/-- the list's elements are where the columns are -/
structure At (n : Nat) (now : List Int) (p : Nat → Int) : Prop where
  so : now.Pairwise (· < ·)
  mem : ∀ y, y ∈ now ↔ ∃ i, i < n ∧ p i = y
  len : now.length ≤ 8
  bd : ∀ i, i < n → 0 ≤ p i ∧ p i ≤ 23
theorem At.congr {n : Nat} {now : List Int} {p q : Nat → Int} (h : At n now p) (e : ∀ i, i < n → p i = q i) : At n now q :=
  ⟨h.so, fun y => (h.mem y).trans ⟨fun ⟨i, hi, k⟩ => ⟨i, hi, (e i hi) ▸ k⟩, fun ⟨i, hi, k⟩ => ⟨i, hi, (e i hi).trans k⟩⟩, h.len, fun i hi => e i hi ▸ h.bd i hi⟩
theorem At.places {n : Nat} {now : List Int} {p : Nat → Int} (h : At n now p) : placesB false now = true :=
  places_of h.so (fun x hx => by obtain ⟨i, hi, rfl⟩ := (h.mem x).1 hx; exact h.bd i hi) h.len
theorem At.step {n : Nat} {now : List Int} {p : Nat → Int} (h : At n now p) {i : Nat} (hi : i < n) {b : Int} (hm : isMoveP (p i) b) (ho : ∀ j, j < n → j ≠ i → p j ≠ p i ∧ betB (p i) b (p j) = false) :
    appCode now (p i) b = 0 ∧ At n (appOut now (p i) b) (fun j => if j = i then b else p j) := by
  have hsf : betB (p i) b (p i) = false := by unfold betB; exact decide_eq_false (by omega)
  have hbe : ∀ x, x ∈ now → betB (p i) b x = false := fun x hx => by
    obtain ⟨j, hj, rfl⟩ := (h.mem x).1 hx
    by_cases e : j = i
    · rw [e]; exact hsf
    · exact (ho j hj e).2
  have hc : appCode now (p i) b = 0 := appCode_e h.places hm ((h.mem _).2 ⟨i, hi, rfl⟩) (by
    rw [List.any_eq_false]
    intro x hx
    rw [hbe x hx]
    simp)
  refine ⟨hc, ?_⟩
  rw [appOut_yes hc]
  have hml := mvL_length now (p i) b
  have hmono : ∀ k l, k ≤ l → l < (mvL now (p i) b).length → ix (mvL now (p i) b) k ≤ ix (mvL now (p i) b) l := fun k l hkl hl => by
    rw [hml] at hl
    rw [mvL_ix (by omega), mvL_ix hl]
    rcases Nat.lt_or_ge k l with h1 | h1
    · have h2 := List.pairwise_iff_getElem.1 h.so k l (by omega) hl h1
      have b1 := of_decide_eq_false (hbe _ (List.getElem_mem (show k < now.length by omega)))
      have b2 := of_decide_eq_false (hbe _ (List.getElem_mem hl))
      unfold mvTo
      obtain ⟨-, -, hne, -⟩ := hm
      split <;> split <;> omega
    · obtain rfl : k = l := by omega
      omega
  obtain ⟨s1, s2⟩ := once_sorted hmono now.length (by rw [hml]; exact Nat.le_refl _)
  refine ⟨s1, fun y => (s2 y).trans ?_, Nat.le_trans (onceL_length _ _ _) h.len, fun j hj => ?_⟩
  · constructor
    · rintro ⟨k, hk, rfl⟩
      rw [mvL_ix hk]
      obtain ⟨j, hj, e⟩ := (h.mem now[k]).1 (List.getElem_mem hk)
      refine ⟨j, hj, ?_⟩
      unfold mvTo
      by_cases ej : j = i
      · rw [if_pos ej, if_pos (by rw [← e, ej])]
      · rw [if_neg ej, if_neg (by rw [← e]; exact (ho j hj ej).1), e]
    · rintro ⟨j, hj, e⟩
      obtain ⟨k, hk, e2⟩ := ix_mem.1 ((h.mem (p j)).2 ⟨j, hj, rfl⟩)
      refine ⟨k, hk, ?_⟩
      rw [mvL_ix hk, ← ix_eq hk, e2]
      unfold mvTo
      by_cases ej : j = i
      · rw [if_pos ej] at e
        rw [if_pos (by rw [ej])]
        exact e
      · rw [if_neg ej] at e
        rw [if_neg (ho j hj ej).1]
        exact e
  · by_cases ej : j = i
    · simp only [if_pos ej]; exact hm.2.1
    · simp only [if_neg ej]; exact h.bd j hj
theorem At.steps {n : Nat} : ∀ (k : Nat) (now : List Int) (p : Nat → Int) (i : Nat) (t : Int), At n now p → i < n → (0 ≤ t ∧ t ≤ 23) → (t - p i ≤ k ∧ p i - t ≤ k) → (p i = t ∨ ∀ j, j < n → j ≠ i → p j ≠ p i ∧ betB (p i) t (p j) = false) →
    ∃ e, Runs now (stepsF k (p i) t) e ∧ At n e (fun j => if j = i then t else p j)
  | 0, now, p, i, t, h, hi, ht, hk, _ => ⟨now, .nil _, h.congr fun j hj => by
    by_cases e : j = i
    · rw [if_pos e, e]; omega
    · rw [if_neg e]⟩
  | k + 1, now, p, i, t, h, hi, ht, hk, ho => by
    by_cases e : p i = t
    · refine ⟨now, ?_, h.congr fun j hj => ?_⟩
      · unfold stepsF
        rw [if_pos e]
        exact .nil _
      · by_cases ej : j = i
        · rw [if_pos ej, ej]; exact e
        · rw [if_neg ej]
    · have ho' := ho.resolve_left e
      have hb := h.bd i hi
      have hn1 : nextOf (p i) t ≠ p i ∧ (p i < t → p i < nextOf (p i) t ∧ nextOf (p i) t ≤ t) ∧ (t < p i → t ≤ nextOf (p i) t ∧ nextOf (p i) t < p i) ∧ (-3 ≤ nextOf (p i) t - p i ∧ nextOf (p i) t - p i ≤ 3) ∧ (t - nextOf (p i) t ≤ k ∧ nextOf (p i) t - t ≤ k) := by
        unfold nextOf
        split
        · omega
        · split <;> omega
      obtain ⟨x, hx⟩ : ∃ x, x = nextOf (p i) t := ⟨_, rfl⟩
      rw [← hx] at hn1
      obtain ⟨hn1, hn2, hn3, hn4, hn5⟩ := hn1
      have hsub : ∀ j, j < n → j ≠ i → p j ≠ p i ∧ betB (p i) x (p j) = false := fun j hj hji => by
        obtain ⟨h1, h2⟩ := ho' j hj hji
        refine ⟨h1, decide_eq_false ?_⟩
        have h2 := of_decide_eq_false h2
        omega
      obtain ⟨c1, a1⟩ := h.step hi (b := x) ⟨hb, by omega, by omega, by omega⟩ hsub
      obtain ⟨q, hq⟩ : ∃ q : Nat → Int, q = fun j => if j = i then x else p j := ⟨_, rfl⟩
      rw [← hq] at a1
      have hpi : q i = x := by rw [hq]; exact if_pos rfl
      have hqj : ∀ j, j ≠ i → q j = p j := fun j hj => by rw [hq]; exact if_neg hj
      obtain ⟨e', r, a2⟩ := At.steps k _ _ i t a1 hi ht (by rw [hpi]; exact hn5) (by
        rw [hpi]
        by_cases ex : x = t
        · exact .inl ex
        · refine .inr fun j hj hji => ?_
          rw [hqj j hji]
          obtain ⟨h1, h2⟩ := ho' j hj hji
          have h2 := of_decide_eq_false h2
          refine ⟨by omega, decide_eq_false ?_⟩
          omega)
      refine ⟨e', ?_, a2.congr fun j hj => ?_⟩
      · rw [stepsF_go e, ← hx]
        rw [hpi] at r
        exact .cons c1 r
      · by_cases ej : j = i
        · simp only [if_pos ej]
        · simp only [if_neg ej]
          exact hqj j ej
theorem groups_at {xs ys : List Int} (h : groupsB xs ys = true) {i : Nat} (h0 : 0 < i) (hi : i < ys.length) : ¬ (ix ys i = ix ys (i - 1) ∧ ix xs i ≤ ix ys i) := (of_decide_eq_true h) i hi h0 hi
def upP (xs ys : List Int) (n r i : Nat) : Int := if n - r ≤ i ∧ ix xs i < ix ys i then ix ys i else ix xs i
def dnP (xs ys : List Int) (r i : Nat) : Int := if i < r ∨ ix xs i < ix ys i then ix ys i else ix xs i
/-- the plan's moves are valid one after the other, and lead where they should -/
theorem plan_runs {xs ys : List Int} (h : planCode xs ys = 0) : Runs xs (planM xs ys) (onceL ys ys ys.length) := by
  obtain ⟨hx, hy, hl, hg⟩ : placesB false xs = true ∧ placesB true ys = true ∧ xs.length = ys.length ∧ groupsB xs ys = true := by
    unfold planCode at h
    split at h
    · rename_i hh
      split at h
      · rename_i hg; exact ⟨hh.1, hh.2.1, hh.2.2, hg⟩
      · omega
    · omega
  obtain ⟨n, hn⟩ : ∃ n, n = xs.length := ⟨_, rfl⟩
  have hyn : ys.length = n := by omega
  have px := places_rise hx
  have py := places_rise hy
  have a0 : At n xs (ix xs) := ⟨sorted_ix.2 fun i j hij hj => rise_all hx hij hj, fun y => by rw [ix_mem, hn], px.1, fun i hi => px.2.1 i (by omega)⟩
  -- no column of a greater number is met on the way to the right
  have far : ∀ i j, i < j → j < n → ix ys i < ix xs j ∨ ix ys i < ix ys j := fun i j hij hj => by
    by_cases e : ix ys (i + 1) = ix ys i
    · have h1 := groups_at hg (i := i + 1) (by omega) (by omega)
      rw [Nat.add_sub_cancel] at h1
      left
      rcases Nat.lt_or_ge (i + 1) j with h2 | h2
      · have := rise_all hx h2 (by omega); omega
      · obtain rfl : i + 1 = j := by omega
        omega
    · right
      have h1 := rise_le hy (show i ≤ i + 1 by omega) (by omega)
      have h2 := rise_le hy (show i + 1 ≤ j by omega) (by omega)
      omega
  have up : ∀ r, r ≤ n → ∃ e, Runs xs (upTo xs ys r) e ∧ At n e (upP xs ys n r) := by
    intro r
    induction r with
    | zero => exact fun _ => ⟨xs, .nil _, a0.congr fun i hi => by unfold upP; rw [if_neg (by omega)]⟩
    | succ r ih =>
      intro hr
      obtain ⟨e, r1, a1⟩ := ih (by omega)
      rw [upTo_succ]
      have hi : xs.length - 1 - r < n := by omega
      obtain ⟨i, hie⟩ : ∃ i, i = xs.length - 1 - r := ⟨_, rfl⟩
      rw [← hie] at hi ⊢
      have hin : i = n - 1 - r := by omega
      by_cases hup : ix xs i < ix ys i
      · have hpi : upP xs ys n r i = ix xs i := if_neg (by omega)
        have b1 := px.2.1 i (by omega)
        have b2 := py.2.1 i (by omega)
        obtain ⟨e', r2, a2⟩ := At.steps 24 e _ i (ix ys i) a1 hi b2 (by rw [hpi]; omega) (.inr fun j hj hji => by
          rw [hpi]
          have key : upP xs ys n r j < ix xs i ∨ ix ys i < upP xs ys n r j := by
            unfold upP
            rcases Nat.lt_or_ge j i with h1 | h1
            · left
              rw [if_neg (by omega)]
              exact rise_all hx h1 (by omega)
            · right
              have h2 := far i j (by omega) hj
              by_cases h3 : ix xs j < ix ys j
              · rw [if_pos ⟨by omega, h3⟩]; omega
              · rw [if_neg (fun h => h3 h.2)]; omega
          exact ⟨by omega, decide_eq_false (by omega)⟩)
        rw [hpi] at r2
        refine ⟨e', r1.append ?_, a2.congr fun j hj => ?_⟩
        · unfold upAt
          rw [if_pos hup]
          exact r2
        · by_cases ej : j = i
          · simp only [if_pos ej]
            unfold upP
            rw [ej, if_pos ⟨by omega, hup⟩]
          · simp only [if_neg ej]
            unfold upP
            by_cases h1 : n - r ≤ j ∧ ix xs j < ix ys j
            · rw [if_pos h1, if_pos ⟨by omega, h1.2⟩]
            · rw [if_neg h1, if_neg (by omega)]
      · refine ⟨e, ?_, a1.congr fun j hj => ?_⟩
        · unfold upAt
          rw [if_neg hup, List.append_nil]
          exact r1
        · unfold upP
          by_cases h1 : n - r ≤ j ∧ ix xs j < ix ys j
          · rw [if_pos h1, if_pos ⟨by omega, h1.2⟩]
          · rw [if_neg h1, if_neg]
            rintro ⟨h2, h3⟩
            have : j = i := by omega
            subst this
            exact hup h3
  have down : ∀ (e0 : List Int), At n e0 (dnP xs ys 0) → ∀ r, r ≤ n → ∃ e, Runs e0 (downTo xs ys r) e ∧ At n e (dnP xs ys r) := by
    intro e0 h0 r
    induction r with
    | zero => exact fun _ => ⟨e0, .nil _, h0⟩
    | succ r ih =>
      intro hr
      obtain ⟨e, r1, a1⟩ := ih (by omega)
      rw [downTo_succ]
      by_cases hdn : ix ys r < ix xs r
      · have hpi : dnP xs ys r r = ix xs r := if_neg (by omega)
        have b1 := px.2.1 r (by omega)
        have b2 := py.2.1 r (by omega)
        obtain ⟨e', r2, a2⟩ := At.steps 24 e _ r (ix ys r) a1 (by omega) b2 (by rw [hpi]; omega) (.inr fun j hj hji => by
          rw [hpi]
          have key : dnP xs ys r j ≤ ix ys r ∨ ix xs r < dnP xs ys r j := by
            unfold dnP
            rcases Nat.lt_or_ge j r with h1 | h1
            · left
              rw [if_pos (.inl h1)]
              exact rise_le hy (by omega) (by omega)
            · right
              have h2 := rise_all hx (show r < j by omega) (by omega)
              split <;> omega
          exact ⟨by omega, decide_eq_false (by omega)⟩)
        rw [hpi] at r2
        refine ⟨e', r1.append ?_, a2.congr fun j hj => ?_⟩
        · unfold downAt
          rw [if_pos hdn]
          exact r2
        · by_cases ej : j = r
          · simp only [if_pos ej]
            unfold dnP
            rw [ej, if_pos (.inl (by omega))]
          · simp only [if_neg ej]
            unfold dnP
            by_cases h1 : j < r ∨ ix xs j < ix ys j
            · rw [if_pos h1, if_pos (h1.imp (by omega) id)]
            · rw [if_neg h1, if_neg (by omega)]
      · refine ⟨e, ?_, a1.congr fun j hj => ?_⟩
        · unfold downAt
          rw [if_neg hdn, List.append_nil]
          exact r1
        · unfold dnP
          by_cases h1 : j < r ∨ ix xs j < ix ys j
          · rw [if_pos h1, if_pos (h1.imp (by omega) id)]
          · rw [if_neg h1]
            by_cases h2 : j = r
            · rw [if_pos (.inl (by omega))]
              subst h2
              omega
            · rw [if_neg (by omega)]
  obtain ⟨e1, r1, a1⟩ := up n (Nat.le_refl _)
  obtain ⟨e2, r2, a2⟩ := down e1 (a1.congr fun i hi => by
    unfold upP dnP
    by_cases h1 : ix xs i < ix ys i
    · rw [if_pos ⟨by omega, h1⟩, if_pos (.inr h1)]
    · rw [if_neg (fun h => h1 h.2), if_neg (by omega)]) n (Nat.le_refl _)
  have hmono : ∀ k l, k ≤ l → l < ys.length → ix ys k ≤ ix ys l := fun k l hkl hl => rise_le hy hkl hl
  obtain ⟨s1, s2⟩ := once_sorted hmono ys.length (Nat.le_refl _)
  have he : e2 = onceL ys ys ys.length := sorted_ext a2.so s1 fun y => by
    rw [a2.mem, s2, hyn]
    constructor
    · rintro ⟨i, hi, e⟩
      unfold dnP at e
      rw [if_pos (.inl hi)] at e
      exact ⟨i, hi, e⟩
    · rintro ⟨i, hi, e⟩
      exact ⟨i, hi, by unfold dnP; rw [if_pos (.inl hi)]; exact e⟩
  rw [← he]
  unfold planM
  rw [← hn]
  exact r1.append r2
end Go.Proofs.Ytplabnjdhkmmkaa
end
section
set_option maxRecDepth 100000
set_option linter.unusedSimpArgs false
set_option linter.unusedVariables false
namespace Go.Proofs.Ytplabnjdhkmmkaa
open Go.ChangeShapes Go.WideShapes Go.ChangeAt Go.RowKit
theorem wp_app_intsL {w : World} {ops : Array Oper} {rest : List Oper} {o : Oper} {a : Act} {Q : Exit → Act → World → Prop} (hgd : o.guard = none) (s x : Operand)
    (ho : o.op = .call { callee := .builtin .append, args := #[s, x], argTypes := #[23, 23] })
    (base : Nat) (v : Value) (xs : List Int) (hs : a.eval s = v) (hown : OwnI w base v xs)
    (S : Nat → Prop) (u : Value) (ys : List Int) (hx : a.eval x = u) (hsrc : Ints w S u ys) (hlen : xs.length + ys.length ≤ 1099511627776) (hbase : base ≤ w.heap.size)
    (h : ∀ v' w', OwnI w' base v' (xs ++ ys) → Chg (fun b => v.ownBlock = some b) w w' → (∀ b, v'.ownBlock = some b → v.ownBlock = some b ∨ w.heap.size ≤ b) → Chg (fun k => base ≤ k) w w' → wpList Try.prog ops Q rest (a.put o.dst v') w') : wpList Try.prog ops Q (o :: rest) a w := by
  obtain ⟨i0, hi, hz0, hz1, hz2⟩ := info_parts info2
  obtain ⟨A, c, rfl, hlc, hcm, hok, hr, hnn⟩ := hsrc
  have hok' : ∀ y ∈ xs ++ ys, I64 y := fun y hy => (List.mem_append.1 hy).elim (hown.2 y) (hok y)
  cases A with
  | none =>
    have hy : ys = [] := by
      rcases Nat.eq_zero_or_pos ys.length with h0 | h0
      · exact List.eq_nil_of_length_eq_zero h0
      · obtain ⟨b, oo, h1, _⟩ := hr h0
        cases h1
    subst hy
    obtain rfl := hnn rfl
    refine wpList_append_own_none hgd s x 23 ho base 2 i0 1 Try.underlying23 hi v xs.length _ hs hown.1 hx ?_
    exact h v w (by simpa using hown) (Chg.refl _ _) (fun b hb => .inl hb) (Chg.refl _ _)
  | some ad =>
    have hnews : ∀ j q, (ys.map (Value.int .i64))[j]? = some q → w.cell? (ad.add j) = some q := by
      intro j q hq
      obtain ⟨hj, he⟩ := List.getElem?_eq_some_iff.1 hq
      have hj' : j < ys.length := by simpa using hj
      obtain ⟨b, oo, h1, _, _, hc⟩ := hr (by omega)
      injection h1 with h1
      subst h1
      have := (hc j hj').1
      rw [← he, List.getElem_map, ← this]
      unfold Addr.add
      by_cases h0 : j = 0 <;> simp [h0]
    refine wpList_append_own2 (P := Try.prog) hgd s x 23 ho base 2 i0 (.int .i64 0) 1 8 Try.underlying23 hi hz0 hz1 hz2 rfl (by decide) v xs.length _ hs hown.1 ad ys.length c (ys.map (Value.int .i64)) hx (by simp) hnews ?_ ?_ ?_ hbase ?_
    · intro q hq
      obtain ⟨y, _, rfl⟩ := List.mem_map.1 hq
      rfl
    · unfold Go.maxLen; omega
    · omega
    · intro v' w' h2 h3 h4
      exact h v' w' ⟨by simpa using h2, hok'⟩ (Chg.of_grown h3) h4 ((Chg.refl _ _).grown h3 fun k hk => .inl (hown.1.lt k hk).1)
end Go.Proofs.Ytplabnjdhkmmkaa
end
section
set_option maxRecDepth 100000
set_option maxHeartbeats 2000000
set_option linter.unusedSimpArgs false
set_option linter.unusedVariables false
namespace Go.Proofs.Ytplabnjdhkmmkaa
open Go.ChangeShapes Go.WideShapes Go.ChangeAt Go.RowKit
theorem Ints.one (w : World) (n : Int) (hn : I64 n) : Ints (w.alloc (.cells #[.int .i64 n] 2)) (fun x => x = w.heap.size) (.slice (some ⟨w.heap.size, 0, none⟩) 1 1) [n] :=
  ⟨_, 1, rfl, by simp, by omega, by intro x hx; simp at hx; rw [hx]; exact hn, fun _ => ⟨w.heap.size, 0, rfl, rfl, by simp, fun j hj => by
    have hj : j < 1 := hj
    obtain rfl : j = 0 := by omega
    exact ⟨cell_new w _ _ 0, frozen_new _ _ _ _⟩⟩, by simp⟩
theorem l00Min_any (a b : Int) (w : World) : Calls Try.prog 57 #[.int .i64 a, .int .i64 b] w fun e w' => e = .returned (.int .i64 (if a < b then a else b)) ∧ w = w' := by
  by_cases h : a < b
  · rw [if_pos h]; exact l00Min_l a b w h
  · rw [if_neg h]; exact l00Min_r a b w (by omega)
theorem minN (z : Int) (h : 0 ≤ z) : ∃ a : Nat, (if z < 22 then z else 22) = (a : Int) ∧ a ≤ 22 := by
  by_cases h1 : z < 22
  · exact ⟨z.toNat, by rw [if_pos h1]; omega, by omega⟩
  · exact ⟨22, by rw [if_neg h1]; rfl, by omega⟩
theorem l00Min_22 (z : Int) (w : World) (h : 0 ≤ z) : Calls Try.prog 57 #[.int .i64 z, .int .i64 22] w fun e w' => ∃ a : Nat, e = .returned (.int .i64 (a : Int)) ∧ a ≤ 22 ∧ w = w' := by
  refine (l00Min_any z 22 w).mono ?_
  rintro e w' ⟨rfl, rfl⟩
  obtain ⟨a, ha, hb⟩ := minN z h
  exact ⟨a, by rw [ha], hb, rfl⟩
theorem SrcAt.off {w : World} {b : Nat} {A : Option Addr} {cp : Nat} {bs : List Nat} {t seed : Nat} (h : SrcAt w b A cp bs t seed) : 0 < bs.length → ∀ x o, w.heap.size ≤ x → A ≠ some ⟨x, o, none⟩ := fun hp x o hx e => by
  obtain ⟨gb, go, rfl, -, hc⟩ := h.rd hp
  have := World.block_lt_of_cell? _ _ (hc 0 hp).1
  injection e with e
  injection e with e1
  simp only [] at this
  omega
theorem drw_step {w w2 wy wz : World} {b : Nat} {u u' : Value} {A : Option Addr} {cp : Nat} {bs : List Nat} {t sd : Nat} (hob : ∀ g, u.ownBlock = some g → g = w.heap.size + 1 ∨ w2.heap.size ≤ g) (hz : w.heap.size + 2 ≤ w2.heap.size)
    (hg : Chg (fun k => k = b ∨ k = w.heap.size + 1) w2 wy) (go : Chg (fun g => u.ownBlock = some g) wy wz) (hb9 : ∀ g, u'.ownBlock = some g → u.ownBlock = some g ∨ wy.heap.size ≤ g) (hs : SrcAt wy b A cp bs t sd) (hab : 0 < bs.length → ∀ x o, w.heap.size ≤ x → A ≠ some ⟨x, o, none⟩) (hbw : b < w.heap.size) :
    (∀ g, u'.ownBlock = some g → g = w.heap.size + 1 ∨ w2.heap.size ≤ g) ∧ SrcAt wz b A cp bs t sd ∧ Chg (fun k => k = b ∨ k = w.heap.size + 1) w2 wz := by
  have hlo : ∀ g, u.ownBlock = some g → w.heap.size ≤ g := fun g e => by have := hob g e; omega
  refine ⟨fun g e => (hb9 g e).elim (hob g) (fun h => .inr (Nat.le_trans hg.size h)), hs.keep go (fun e => by have := hlo b e; omega) (fun hp x _ e o => hab hp x o (hlo x e)), ?_⟩
  refine ⟨go.os.trans hg.os, go.tape.trans hg.tape, go.output.trans hg.output, Nat.le_trans hg.size go.size, fun i hi hn => (go.block i (Nat.lt_of_lt_of_le hi hg.size) (fun e => ?_)).trans (hg.block i hi hn)⟩
  rcases hob i e with h1 | h1
  · exact hn (.inr h1)
  · omega
theorem chg_tb {w w1 w2 wy : World} {b : Nat} (h : Chg (fun k => k = b) w w1) (k : Chg (fun k => k = b) w1 w2) (l : Chg (fun k => k = b ∨ k = w.heap.size + 1) w2 wy) (hb : b < w.heap.size) : Chg (fun k => k = b) w wy := by
  have h2 := Chg.trans h k
  exact ⟨l.os.trans h2.os, l.tape.trans h2.tape, l.output.trans h2.output, Nat.le_trans h2.size l.size, fun i hi hn => (l.block i (Nat.lt_of_lt_of_le hi h2.size) (fun e => by rcases e with e | e; exact hn e; omega)).trans (h2.block i hi hn)⟩
/-- places that are drawn: rising, few -/
structure Plcs (xs : List Int) (n : Nat) : Prop where
  up : xs.Pairwise (· < ·)
  bd : ∀ x ∈ xs, 0 ≤ x ∧ x ≤ 23
  len : xs.length ≤ n
theorem Plcs.nil : Plcs [] 0 := ⟨List.Pairwise.nil, by simp, by simp⟩
theorem Plcs.put {xs : List Int} {n : Nat} (h : Plcs xs n) {x : Int} (hx : 0 ≤ x ∧ x ≤ 23) : Plcs (insM x xs) (n + 1) :=
  ⟨insM_sorted x h.up, fun y hy => by rcases (insM_mem x y xs).1 hy with rfl | h1; exact hx; exact h.bd y h1, Nat.le_trans (insM_len x xs) (by have := h.len; omega)⟩
theorem Plcs.ok {xs : List Int} {n : Nat} (h : Plcs xs n) (hn : n ≤ 8) : placesB false xs = true := places_of h.up h.bd (Nat.le_trans h.len hn)
theorem places_twice {xs : List Int} (h : placesB false xs = true) : placesB true xs = true := by
  obtain ⟨h1, h2⟩ := of_decide_eq_true h
  refine decide_eq_true ⟨fun i hi hij => ?_, h2⟩
  obtain ⟨a, b, c⟩ := h1 i hi hij
  exact ⟨a, b, fun h0 => .inl ((c h0).resolve_right (by simp))⟩
theorem plan_self {xs : List Int} (h : placesB false xs = true) : planCode xs xs = 0 := by
  have hr := places_rise h
  refine planCode_ok h (places_twice h) rfl (decide_eq_true ?_)
  intro i hi h0 hl e
  have := rise_all h (show i - 1 < i by omega) hl
  omega
theorem l21Draw_any (w : World) (b : Nat) (A : Option Addr) (cp : Nat) (bs : List Nat) (t seed : Nat) (h : SrcAt w b A cp bs t seed) (ht : t ≤ 1000) :
    Calls Try.prog 25 #[.pointer (some ⟨b, 0, none⟩)] w fun e w' => ∃ v u xs ys, e = .returned (.tuple #[v, u]) ∧ Ints w' (New w.heap.size w'.heap.size) v xs ∧ Ints w' (New w.heap.size w'.heap.size) u ys ∧ Plcs xs 6 ∧ Chg (fun k => k = b) w w' := by
  have HS := Lib.hid h
  have hbw := h.lt
  have HT := Lib.hid ht
  clear h ht
  go_enter Try.func25, Try.ntmps25
  go_wp2_with fail
  refine (pickS_any _ b A cp bs t seed 7 (HS.out.up (by repeat (first | exact Chg.refl _ _ | apply Chg.drew | apply Chg.drewN | refine Chg.alloc ?_ _))) (by have := HT.out; omega) (by omega) (by omega)).mono ?_
  rintro e w1 ⟨k1, t1, sd1, rfl, hk1, ht1, s1, g1⟩
  have hz1 := g1.size
  simp only [World.size_alloc] at hz1
  have G1 := Lib.hid (show Chg (fun k => k = b) w w1 from Chg.trans (Chg.of_up (by repeat (first | exact Chg.refl _ _ | apply Chg.drew | apply Chg.drewN | refine Chg.alloc ?_ _))) g1)
  have HAB := Lib.hid (HS.out.off)
  have M1 := Lib.hid (show OwnI w1 w.heap.size (.slice (some ⟨w.heap.size, 0, none⟩) 0 0) [] from ((OwnI.made w w.heap.size (Nat.le_refl _)).alloc _).kept g1 (fun g e => by have e : w.heap.size = g := (by simpa [Value.ownBlock] using e); omega))
  have M2 := Lib.hid (show OwnI w1 w.heap.size (.slice (some ⟨w.heap.size + 1, 0, none⟩) 0 0) [] from by have h9 := (OwnI.made (w.alloc (.cells #[] 2)) w.heap.size (by simp)).kept (w' := w1) (S := fun k => k = b) (by simpa using g1) (fun g e => by have e : w.heap.size + 1 = g := (by simpa [Value.ownBlock] using e); omega); simpa using h9)
  have S1 := Lib.hid s1
  have HT1 := Lib.hid (show t1 ≤ 1001 by have := HT.out; omega)
  clear g1 s1 ht1
  have HSZ := Lib.hid (show w.heap.size + 2 ≤ w1.heap.size by omega)
  clear hz1
  have hz1 := HSZ.out
  go_wp2
  go_loopw [4, 6] (fun v kv wr => ∃ (k : Nat) (xs : List Int) (t' : Nat), kv = .int .i64 (k : Int) ∧ k ≤ 6 ∧ Hid (Plcs xs (6 - k)) ∧ Hid (t' + k ≤ 1010) ∧ Hid (Ints wr (fun g => w.heap.size ≤ g ∧ g ≠ w.heap.size + 1 ∧ g < wr.heap.size) v xs) ∧ Hid (∃ sd, SrcAt wr b A cp bs t' sd) ∧ Hid (Chg (fun k => k = b) w1 wr)) (fun _ kv _ => (intOf kv).toNat)
  case atStart => exact ⟨k1, [], t1, rfl, by omega, Lib.hid ⟨List.Pairwise.nil, by simp, by simp⟩, Lib.hid (by have := HT1.out; omega), Lib.hid (Ints.nil _ _ 0 _ (by omega)), Lib.hid ⟨_, S1.out⟩, Lib.hid (Chg.refl _ _)⟩
  case round =>
    obtain ⟨k, xs, t', rfl, hk, hp, ht', hx, hs, hg⟩ := hrel
    have hzr := hg.out.size
    by_cases hlt : 0 < k
    · have d0 : decide ((k : Int) > 0) = true := decide_eq_true (by omega)
      obtain ⟨Av, cv, rfl, -⟩ := hx.out.shape
      obtain ⟨sd, hs1⟩ := hs.out
      have HS1 := Lib.hid hs1
      clear hs1
      have HXL := Lib.hid (show xs.length ≤ 1000000 by have := hp.out.len; omega)
      have HTT := Lib.hid (show t' < 4611686018427387904 by have := ht'.out; omega)
      go_wp2_with (first | (go_at_call 54; refine (pickS_any _ b A cp bs t' sd 20 HS1.out HTT.out (by omega) (by omega)).mono ?_; rintro e w2 ⟨x, t2, sd2, rfl, hx2, ht2, s2, g2⟩; have S2 := Lib.hid s2; have G2 := Lib.hid g2; have HX2 := Lib.hid (And.intro hx2 ht2); have hz2 := g2.size; clear s2 g2 ht2) | (go_at_call 55; refine (l00Put_any _ _ _ xs (x : Int) (hx.out.keep G2.out (fun g _ hg e => by have h9 := hg.1; have e : g = b := e; omega)) (by unfold I64; omega) HXL.out).mono ?_; rintro e w3 ⟨v3, rfl, k3, g3⟩; have K3 := Lib.hid k3; have G3 := Lib.hid g3; have hz3 := g3.size; obtain ⟨A3, c3, rfl, -⟩ := k3.shape; clear k3 g3))
      go_roundw
      case rel => exact ⟨k - 1, insM x xs, t2, by go_num, by omega, Lib.hid (by have h9 := hp.out.put (x := (x : Int)) (by have := HX2.out.1; omega); rw [show 6 - k + 1 = 6 - (k - 1) by omega] at h9; exact h9), Lib.hid (by have := ht'.out; have := HX2.out.2; omega), Lib.hid (K3.out.mono (fun g _ h => ⟨by have := h.1; have := HSZ.out; omega, by have := h.1; have := HSZ.out; omega, h.2⟩)), Lib.hid ⟨sd2, S2.out.up G3.out⟩, Lib.hid (Chg.trans (Chg.trans hg.out G2.out) (G3.out.mono (fun _ _ h => h.elim)))⟩
      case measure => first | (simp [intOf]; done) | (simp [intOf]; omega)
    · obtain rfl : k = 0 := by omega
      have d0 : decide (((0 : Nat) : Int) > 0) = false := rfl
      obtain ⟨Av, cv, rfl, -⟩ := hx.out.shape
      obtain ⟨sd, hs1⟩ := hs.out
      have HS1 := Lib.hid hs1
      clear hs1
      have HTT := Lib.hid (show t' < 4611686018427387904 by have := ht'.out; omega)
      have M3 := Lib.hid (M2.out.kept hg.out (fun g e => by have e : w.heap.size + 1 = g := (by simpa [Value.ownBlock] using e); omega))
      go_wp2_with fail
      refine (pickS_any _ b A cp bs t' sd 5 HS1.out HTT.out (by omega) (by omega)).mono ?_
      rintro e w2 ⟨a2, t2, sd2, rfl, ha2, ht2, s2, g2⟩
      have S2 := Lib.hid s2
      have HT2 := Lib.hid (show t2 ≤ 1011 by have := ht'.out; omega)
      have hz2 := g2.size
      have HX := Lib.hid (hx.out.keep g2 (fun g _ hg e => by have h9 := hg.1; have e : g = b := e; omega))
      have M4 := Lib.hid (M3.out.kept g2 (fun g e => by have e : w.heap.size + 1 = g := (by simpa [Value.ownBlock] using e); omega))
      have G2 := Lib.hid (Chg.trans hg.out g2)
      have HSZ2 := Lib.hid (show w.heap.size + 2 ≤ w2.heap.size by omega)
      clear s2 g2 ht2
      go_wp2
      go_loopw [5, 7, 8] (fun u av iv wy => ∃ (i a : Nat) (ys : List Int) (t3 : Nat), iv = .int .i64 (i : Int) ∧ av = .int .i64 (a : Int) ∧ i ≤ xs.length ∧ a ≤ 22 ∧ Hid (ys.length = i) ∧ Hid (t3 ≤ 1011 + 2 * i) ∧ Hid (OwnI wy w.heap.size u ys) ∧ Hid (∀ g, u.ownBlock = some g → g = w.heap.size + 1 ∨ w2.heap.size ≤ g) ∧ Hid (∃ sd, SrcAt wy b A cp bs t3 sd) ∧ Hid (Chg (fun k => k = b ∨ k = w.heap.size + 1) w2 wy)) (fun _ _ iv _ => xs.length - (intOf iv).toNat)
      case atStart => exact ⟨0, a2, [], t2, rfl, rfl, by omega, by omega, Lib.hid rfl, Lib.hid (by have := HT2.out; omega), M4, Lib.hid (fun g e => .inl (by have e : w.heap.size + 1 = g := (by simpa [Value.ownBlock] using e); omega)), Lib.hid ⟨_, S2.out⟩, Lib.hid (Chg.refl _ _)⟩
      case round =>
        obtain ⟨i, a, ys, t3, rfl, rfl, hi, ha, hyl, ht3, ho, hob, hs3, hg3⟩ := hrel
        have hzy := hg3.out.size
        have hxl6 := hp.out.len
        by_cases hlt : i < xs.length
        · obtain ⟨sdy, hsy⟩ := hs3.out
          have HSY := Lib.hid hsy
          have HT3 := Lib.hid (show t3 ≤ 1023 by have := ht3.out; omega)
          have HYL := Lib.hid (show ys.length + 1 ≤ 1099511627776 by have := hyl.out; omega)
          have HXY := Lib.hid (HX.out.keep hg3.out (fun g _ h9 e => by rcases e with e | e; (have := h9.1; omega); exact h9.2.1 e))
          clear hsy
          obtain ⟨Ax, cx, hev, -, -, -, hrx, -⟩ := HXY.out
          obtain ⟨gx, ox, rfl, -, -, hcx⟩ := hrx (by omega)
          obtain ⟨rfl, rfl⟩ : Av = some ⟨gx, ox, none⟩ ∧ cv = cx := by simpa using hev
          have cxi := (hcx i hlt).1
          have CXI := Lib.hid cxi
          clear hcx hrx hev cxi
          obtain ⟨y, hy⟩ : ∃ y, y = xs[i] := ⟨_, rfl⟩
          rw [← hy] at CXI
          clear hy
          obtain ⟨Au, cu, rfl, -⟩ := ho.out.ints.shape
          by_cases h0 : i = 0
          · subst h0
            go_wp2_with (first | (go_at_call 57; refine (l00Min_22 _ _ (by omega)).mono ?_; rintro e w' ⟨a9, rfl, hb9, rfl⟩) | (at_builtin; refine wp_app_intsL rfl _ _ rfl w.heap.size _ ys rfl (ho.out.up (by repeat (first | exact Chg.refl _ _ | apply Chg.drew | apply Chg.drewN | refine Chg.alloc ?_ _))) _ _ [(a9 : Int)] rfl (Ints.one _ (a9 : Int) (by unfold I64; omega)) (by simpa using HYL.out) (by have h8 := HSZ2.out; have h9 := hg3.out.size; simp [World.size_alloc]; omega) ?_; intro v9 w9 h1 h2 h3 _; have HO9 := Lib.hid h1; have HD9 := Lib.hid (drw_step hob.out HSZ2.out (show Chg (fun k => k = b ∨ k = w.heap.size + 1) w2 _ from (by repeat (first | exact hg3.out | apply Chg.drew | apply Chg.drewN | refine Chg.alloc ?_ _))) h2 h3 (HSY.out.up (by repeat (first | exact Chg.refl _ _ | apply Chg.drew | apply Chg.drewN | refine Chg.alloc ?_ _))) HAB.out hbw); clear h1 h2 h3))
            go_roundw
            case rel => exact ⟨0 + 1, a9, ys ++ [(a9 : Int)], t3, by go_num, rfl, by omega, by omega, Lib.hid (by simp [hyl.out]), Lib.hid (by have h9 := ht3.out; omega), HO9, Lib.hid HD9.out.1, Lib.hid ⟨_, HD9.out.2.1⟩, Lib.hid HD9.out.2.2⟩
            case measure => first | (simp [intOf]; done) | (simp [intOf]; omega)
          · have d1 : decide ((i : Int) > 0) = true := decide_eq_true (by omega)
            by_cases hgt : y > (a : Int)
            · have d2 : decide ((a : Int) < y) = true := decide_eq_true hgt
              have cxi := CXI.out
              go_wp2_with fail
              refine (one_any _ b A cp bs t3 sdy 4 HSY.out (by have := HT3.out; omega) (by omega) (by omega)).mono ?_
              rintro e w3 ⟨r, sd3, rfl, s3, g3⟩
              have S3 := Lib.hid s3
              have G3 := Lib.hid (Chg.trans hg3.out (g3.mono (T := fun k => k = b ∨ k = w.heap.size + 1) (fun _ _ e => .inl e)))
              have O3 := Lib.hid (ho.out.kept g3 (fun g e he => by have h9 := hob.out g e; have h8 := HSZ2.out; omega))
              clear s3 g3
              cases r
              · skip
                go_wp2_with (first | (go_at_call 54; refine (pickS_any _ b A cp bs (t3 + 1) _ 3 S3.out (by have := HT3.out; omega) (by omega) (by omega)).mono ?_; rintro e w5 ⟨x5, t5, sd5, rfl, hx5, ht5, s5, g5⟩; have S5 := Lib.hid s5; have G5 := Lib.hid (Chg.trans G3.out (g5.mono (T := fun k => k = b ∨ k = w.heap.size + 1) (fun _ _ e => .inl e))); have O5 := Lib.hid (O3.out.kept g5 (fun g e he => by have h9 := hob.out g e; have h8 := HSZ2.out; omega)); have HT5 := Lib.hid ht5; clear s5 g5 ht5) | (go_at_call 57; refine (l00Min_22 _ _ (by omega)).mono ?_; rintro e w' ⟨a9, rfl, hb9, rfl⟩) | (at_builtin; refine wp_app_intsL rfl _ _ rfl w.heap.size _ ys rfl (O5.out.up (by repeat (first | exact Chg.refl _ _ | apply Chg.drew | apply Chg.drewN | refine Chg.alloc ?_ _))) _ _ [(a9 : Int)] rfl (Ints.one _ (a9 : Int) (by unfold I64; omega)) (by simpa using HYL.out) (by have h8 := HSZ2.out; have h9 := G5.out.size; simp [World.size_alloc]; omega) ?_; intro v9 w9 h1 h2 h3 _; have HO9 := Lib.hid h1; have HD9 := Lib.hid (drw_step hob.out HSZ2.out (show Chg (fun k => k = b ∨ k = w.heap.size + 1) w2 _ from (by repeat (first | exact G5.out | apply Chg.drew | apply Chg.drewN | refine Chg.alloc ?_ _))) h2 h3 (S5.out.up (by repeat (first | exact Chg.refl _ _ | apply Chg.drew | apply Chg.drewN | refine Chg.alloc ?_ _))) HAB.out hbw); clear h1 h2 h3))
                go_roundw
                case rel => exact ⟨i + 1, a9, ys ++ [(a9 : Int)], t5, by go_num, rfl, by omega, by omega, Lib.hid (by simp [hyl.out]), Lib.hid (by have h9 := ht3.out; have h8 := HT5.out; omega), HO9, Lib.hid HD9.out.1, Lib.hid ⟨_, HD9.out.2.1⟩, Lib.hid HD9.out.2.2⟩
                case measure => first | (simp [intOf]; done) | (simp [intOf]; omega)
              · go_wp2_with (first | (at_builtin; refine wp_app_intsL rfl _ _ rfl w.heap.size _ ys rfl (O3.out.up (by repeat (first | exact Chg.refl _ _ | apply Chg.drew | apply Chg.drewN | refine Chg.alloc ?_ _))) _ _ [(a : Int)] rfl (Ints.one _ (a : Int) (by unfold I64; omega)) (by simpa using HYL.out) (by have h8 := HSZ2.out; have h9 := G3.out.size; simp [World.size_alloc]; omega) ?_; intro v9 w9 h1 h2 h3 _; have HO9 := Lib.hid h1; have HD9 := Lib.hid (drw_step hob.out HSZ2.out (show Chg (fun k => k = b ∨ k = w.heap.size + 1) w2 _ from (by repeat (first | exact G3.out | apply Chg.drew | apply Chg.drewN | refine Chg.alloc ?_ _))) h2 h3 (S3.out.up (by repeat (first | exact Chg.refl _ _ | apply Chg.drew | apply Chg.drewN | refine Chg.alloc ?_ _))) HAB.out hbw); clear h1 h2 h3))
                go_roundw
                case rel => exact ⟨i + 1, a, ys ++ [(a : Int)], t3 + 1, by go_num, rfl, by omega, by omega, Lib.hid (by simp [hyl.out]), Lib.hid (by have h9 := ht3.out; omega), HO9, Lib.hid HD9.out.1, Lib.hid ⟨_, HD9.out.2.1⟩, Lib.hid HD9.out.2.2⟩
                case measure => first | (simp [intOf]; done) | (simp [intOf]; omega)
            · have d2 : decide ((a : Int) < y) = false := decide_eq_false hgt
              have cxi := CXI.out
              go_wp2_with (first | (go_at_call 54; refine (pickS_any _ b A cp bs t3 _ 3 HSY.out (by have := HT3.out; omega) (by omega) (by omega)).mono ?_; rintro e w5 ⟨x5, t5, sd5, rfl, hx5, ht5, s5, g5⟩; have S5 := Lib.hid s5; have G5 := Lib.hid (Chg.trans hg3.out (g5.mono (T := fun k => k = b ∨ k = w.heap.size + 1) (fun _ _ e => .inl e))); have O5 := Lib.hid (ho.out.kept g5 (fun g e he => by have h9 := hob.out g e; have h8 := HSZ2.out; omega)); have HT5 := Lib.hid ht5; clear s5 g5 ht5) | (go_at_call 57; refine (l00Min_22 _ _ (by omega)).mono ?_; rintro e w' ⟨a9, rfl, hb9, rfl⟩) | (at_builtin; refine wp_app_intsL rfl _ _ rfl w.heap.size _ ys rfl (O5.out.up (by repeat (first | exact Chg.refl _ _ | apply Chg.drew | apply Chg.drewN | refine Chg.alloc ?_ _))) _ _ [(a9 : Int)] rfl (Ints.one _ (a9 : Int) (by unfold I64; omega)) (by simpa using HYL.out) (by have h8 := HSZ2.out; have h9 := G5.out.size; simp [World.size_alloc]; omega) ?_; intro v9 w9 h1 h2 h3 _; have HO9 := Lib.hid h1; have HD9 := Lib.hid (drw_step hob.out HSZ2.out (show Chg (fun k => k = b ∨ k = w.heap.size + 1) w2 _ from (by repeat (first | exact G5.out | apply Chg.drew | apply Chg.drewN | refine Chg.alloc ?_ _))) h2 h3 (S5.out.up (by repeat (first | exact Chg.refl _ _ | apply Chg.drew | apply Chg.drewN | refine Chg.alloc ?_ _))) HAB.out hbw); clear h1 h2 h3))
              go_roundw
              case rel => exact ⟨i + 1, a9, ys ++ [(a9 : Int)], t5, by go_num, rfl, by omega, by omega, Lib.hid (by simp [hyl.out]), Lib.hid (by have h9 := ht3.out; have h8 := HT5.out; omega), HO9, Lib.hid HD9.out.1, Lib.hid ⟨_, HD9.out.2.1⟩, Lib.hid HD9.out.2.2⟩
              case measure => first | (simp [intOf]; done) | (simp [intOf]; omega)
        · obtain rfl : i = xs.length := by omega
          have d1 : decide ((xs.length : Int) < (xs.length : Int)) = false := decide_eq_false (by omega)
          obtain ⟨Au, cu, rfl, -⟩ := ho.out.ints.shape
          have HXF := Lib.hid (HX.out.keep hg3.out (fun g _ h9 e => by rcases e with e | e; (have := h9.1; omega); exact h9.2.1 e))
          have hsz2 := HSZ2.out
          clear d0
          go_wp2
          go_ret2
          exact ⟨_, _, xs, ys, rfl, HXF.out.mono (fun g h8 h9 => ⟨h9.1, h8⟩), ho.out.ints, ⟨hp.out.up, hp.out.bd, by have := hp.out.len; omega⟩, chg_tb G1.out G2.out hg3.out (by omega)⟩
theorem E8Moves_any (w : World) (A : Option Addr) (cp : Nat) (bs : List Nat) (h : Byts w A cp bs) :
    Calls Try.prog 5 #[.slice A bs.length cp] w fun e w' => ∃ v u xs ys, e = .returned (.tuple #[v, u]) ∧ Ints w' (New w.heap.size w'.heap.size) v xs ∧ Ints w' (New w.heap.size w'.heap.size) u ys ∧ planCode xs ys = 0 ∧ Up w w' := by
  have HB := Lib.hid h
  clear h
  go_enter Try.func5, Try.ntmps5
  go_wp2_with fail
  refine (l00From_any _ A cp bs (HB.out.up (by repeat (first | exact Chg.refl _ _ | apply Chg.drew | apply Chg.drewN | refine Chg.alloc ?_ _)))).mono ?_
  rintro e w1 ⟨rfl, s1, g1⟩
  have S1 := Lib.hid s1
  have G1 := Lib.hid g1
  clear s1 g1
  go_wp2_with fail
  refine (l21Draw_any _ _ A cp bs 0 0 S1.out (by omega)).mono ?_
  rintro e w2 ⟨v, u, xs, ys, rfl, k1, k2, hp, g2⟩
  have U2 := Lib.hid (Chg.new G1.out g2 (fun i hi e => by omega))
  have hz1 := G1.out.size
  have hz2 := g2.size
  have K1 := Lib.hid (k1.mono (T := New w.heap.size w2.heap.size) (fun g _ hg => ⟨by have := hg.1; omega, hg.2⟩))
  have K2 := Lib.hid (k2.mono (T := New w.heap.size w2.heap.size) (fun g _ hg => ⟨by have := hg.1; omega, hg.2⟩))
  have HP := Lib.hid hp
  obtain ⟨Av, cv, rfl, -⟩ := k1.shape
  obtain ⟨Au, cu, rfl, -⟩ := k2.shape
  clear k1 k2 g2 hp
  go_wp2_with fail
  refine (l21Ask_any _ _ _ _ _ xs ys (K1.out.up (by repeat (first | exact Chg.refl _ _ | apply Chg.drew | apply Chg.drewN | refine Chg.alloc ?_ _))) (K2.out.up (by repeat (first | exact Chg.refl _ _ | apply Chg.drew | apply Chg.drewN | refine Chg.alloc ?_ _)))).mono ?_
  rintro e w3 ⟨rfl, d3⟩
  have D3 := Lib.hid d3.up
  obtain ⟨z, hz⟩ : ∃ z, z = planCode xs ys := ⟨_, rfl⟩
  rw [← hz]
  have HZ := Lib.hid hz
  clear hz d3
  have hz3 := D3.out.size
  by_cases h0 : z = 0
  · subst h0
    go_wp2
    go_ret2
    exact ⟨_, _, xs, ys, rfl, (K1.out.up D3.out).mono (fun g _ hg => ⟨hg.1, by have := hg.2; omega⟩), (K2.out.up D3.out).mono (fun g _ hg => ⟨hg.1, by have := hg.2; omega⟩), HZ.out.symm, Chg.trans U2.out D3.out⟩
  · have en : (z != 0) = true := by simpa using h0
    go_wp2_with fail
    refine (l00Own_any _ _ _ xs (K1.out.up (Chg.trans D3.out (by repeat (first | exact Chg.refl _ _ | apply Chg.drew | apply Chg.drewN | refine Chg.alloc ?_ _)))) (by have := HP.out.len; omega)).mono ?_
    rintro e w4 ⟨v4, rfl, k4, g4⟩
    have K4 := Lib.hid k4
    have G4 := Lib.hid g4
    have hz4 := g4.size
    obtain ⟨A4, c4, rfl, -⟩ := k4.shape
    clear k4 g4
    go_wp2
    go_ret2
    exact ⟨_, _, xs, xs, rfl, (K1.out.up (Chg.trans D3.out G4.out)).mono (fun g _ hg => ⟨hg.1, by have := hg.2; omega⟩), K4.out.mono (fun g _ hg => ⟨by have := hg.1; omega, hg.2⟩), plan_self (HP.out.ok (by omega)), Chg.trans U2.out (Chg.trans D3.out G4.out)⟩
end Go.Proofs.Ytplabnjdhkmmkaa
end
