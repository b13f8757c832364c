/- slices.Grow of nil and slices.Concat at slices of operations. Condition: room. -/
import Derived.Test.YtmimbnpcokfnlaaOwnO
import Derived.Lib.AppendZerosOnto
import Derived.Lib.SliceRun
namespace Go.Proofs.Ytmimbnpcokfnlaa
open Go.ChangeShapes Go.WideShapes Go.ChangeAt Go.RowKit
set_option maxRecDepth 100000 in
set_option maxHeartbeats 4000000 in
theorem growOps_nil (w : World) (n : Nat) (hn : n ≤ 1073741824) :
    Calls Try.prog 226 #[.slice none 0 0, .int .i64 n] w fun e w' => ∃ v, e = .returned v ∧ OwnO w' w.heap.size v [] ∧ Up w w' := by
  have h1 : ¬ ((n : Int) < 0) := by omega
  by_cases h0 : 0 < n
  · obtain ⟨i0, hi, hz0, hz1, hz2⟩ := info_parts infoOp
    have hrz : ∀ ty, (Builtin.append_ #[36, 3] ty #[.slice none 0 0, .int .i64 (n : Int)]).run Try.prog w =
        .ok (.slice (some ⟨w.heap.size, 0, none⟩) n (grownCap w n 0 109))
          (w.drew.alloc (.cells (Builtin.zeroCells (OpM.mk 0 0 0 0 0 0 0 0).val.cells n ++ Builtin.zeroCells (OpM.mk 0 0 0 0 0 0 0 0).val.cells (grownCap w n 0 109 - n)) 109)) := fun ty => by
      have h := Lib.run_append_grow_zeros (P := Try.prog) w 36 3 ty 109 i0 _ .i64 .i64 Try.underlying36 Try.underlying3 hi hz0 none 0 0 [] (run_firstCells_none w.drew i0.size 0 0 0) n h0 (by omega) (by omega) (by omega) (by rw [hz2]; omega)
        (by rw [hz2]; exact growslice_fits (by omega) (by omega))
      simpa using h
    have hGn : n ≤ grownCap w n 0 109 := grownCap_ge w _ _ _
    have hG63 := grownCap_le_maxLen w n 0 109 (by unfold Go.maxLen; omega)
    obtain ⟨G, hG⟩ : ∃ G, G = grownCap w n 0 109 := ⟨_, rfl⟩
    rw [← hG] at hrz hGn hG63
    clear hG hi hz0 hz1 hz2
    unfold Go.maxLen at hG63
    go_enter Try.func226, Try.ntmps226
    go_wp2_with (at_builtin; refine Lib.wpList_append_run _ rfl _ _ _ _ rfl _ _ rfl rfl _ _ (hrz _) ?_)
    go_ret
    refine ⟨_, rfl, ⟨⟨by simp, .inr ⟨w.heap.size, G, _, rfl, Nat.le_refl _, heap_alloc_new w _, Nat.zero_le _, by unfold Go.maxLen; omega, ?_, by simp⟩⟩, by simp⟩, ((Chg.refl _ _).alloc _).drew⟩
    simp [Builtin.zeroCells]
    omega
  · obtain rfl : n = 0 := by omega
    go_enter Try.func226, Try.ntmps226
    go_wp2
    go_ret
    exact ⟨_, rfl, OwnO.nil _ _, Chg.refl _ _⟩

def sumLen {α : Type} (l : List (List α)) (i : Nat) : Nat := ((l.take i).map List.length).sum
theorem sumLen_succ {α : Type} (l : List (List α)) (i : Nat) (h : i < l.length) : sumLen l (i + 1) = sumLen l i + l[i].length := by
  unfold sumLen
  rw [List.take_succ_eq_append_getElem h, List.map_append, List.sum_append]
  simp only [List.map_cons, List.map_nil, List.sum_cons, List.sum_nil, Nat.add_zero]
theorem sumLen_le {α : Type} (l : List (List α)) : ∀ i, sumLen l i ≤ sumLen l l.length := by
  intro i
  unfold sumLen
  rw [List.take_length]
  induction l generalizing i with
  | nil => simp
  | cons x xs ih =>
    cases i with
    | zero => simp
    | succ i => have := ih i; simp at this ⊢; omega
theorem flat_take {α : Type} (l : List (List α)) (i : Nat) (h : i < l.length) : (l.take (i + 1)).flatten = (l.take i).flatten ++ l[i] := by
  rw [List.take_succ_eq_append_getElem h, List.flatten_append]
  simp only [List.flatten_cons, List.flatten_nil, List.append_nil]
theorem flat_take_length {α : Type} (l : List (List α)) (i : Nat) : (l.take i).flatten.length = sumLen l i := by simp [sumLen, List.length_flatten]
set_option maxRecDepth 100000 in
set_option maxHeartbeats 4000000 in
theorem concatOps_any (w : World) (S1 S : Nat → Prop) (arg : Value) (vs : List Value) (yss : List (List OpM)) (hvl : vs.length = yss.length) (harg : Raw w S1 1 arg yss.length vs)
    (hys : ∀ (i : Nat) (u : Value) (y : List OpM), vs[i]? = some u → yss[i]? = some y → Ops w S u y) (hsum : sumLen yss yss.length ≤ 1073741824) :
    Calls Try.prog 188 #[arg] w fun e w' => ∃ v, e = .returned v ∧ Ops w' (New w.heap.size w'.heap.size) v yss.flatten ∧ Up w w' := by
  obtain ⟨A, c, rfl, hlc, hcm, -⟩ := harg.shape
  have HA := Lib.hid harg
  have HY := Lib.hid hys
  have HM := Lib.hid hsum
  have HV := Lib.hid hvl
  clear harg hys hsum hvl
  go_enter Try.func188, Try.ntmps188
  go_wp2
  go_loop [3, 5, 11] (fun q _ i => ∃ j : Nat, j ≤ yss.length ∧ i = .int .i64 j ∧ q = .int .i64 (sumLen yss j)) (fun _ _ i => yss.length - (intOf i).toNat)
  case atStart => exact ⟨0, by omega, rfl, by simp [sumLen]⟩
  case round =>
    obtain ⟨j, hj, rfl, rfl⟩ := hrel
    by_cases hlt : j < yss.length
    · obtain ⟨h0, A', c', he, -, -, hr, -⟩ := HA.out
      obtain ⟨b, o, hAb, -, -, hc⟩ := hr (by omega)
      obtain ⟨rfl, rfl⟩ : A = A' ∧ c = c' := by simpa using he
      subst hAb
      have hcj := (hc j (by rw [HV.out]; exact hlt)).1
      obtain ⟨A1, c1, hv1, hl1, hc1, -⟩ := (HY.out j _ _ (List.getElem?_eq_getElem (by rw [HV.out]; exact hlt)) (List.getElem?_eq_getElem hlt)).shape
      rw [hv1] at hcj
      have hs1 := sumLen_succ yss j hlt
      have hs2 := sumLen_le yss (j + 1)
      have hs3 : (sumLen yss j : Int) + yss[j].length ≤ 1073741824 := by have := HM.out; omega
      have HS1 := Lib.hid hs1
      have hng : ¬ ((sumLen yss j : Int) + yss[j].length < 0) := by omega
      clear hc hr he h0 hv1 hs1 hs2
      go_wp2
      go_round
      case rel => exact ⟨j + 1, by omega, by go_num, by rw [HS1.out]; go_num⟩
      case measure => simp [intOf]; omega
    · obtain rfl : j = yss.length := by omega
      go_wp2_with fail
      refine (growOps_nil _ _ HM.out).mono ?_
      rintro e w1 ⟨v, rfl, k1, g1⟩
      have K1 := Lib.hid k1
      have G1 := Lib.hid g1
      clear k1 g1
      go_wp2
      go_loopw [6, 8, 27] (fun v _ i wr => ∃ j : Nat, j ≤ yss.length ∧ i = .int .i64 j ∧ Hid (OwnO wr w.heap.size v (yss.take j).flatten) ∧ Hid (Up w wr)) (fun _ _ i _ => yss.length - (intOf i).toNat)
      case atStart => exact ⟨0, by omega, rfl, by simpa [Hid] using K1.out, G1.out⟩
      case round =>
        obtain ⟨j, hj2, rfl, ho, hg⟩ := hrel
        by_cases hlt2 : j < yss.length
        · obtain ⟨h0, A', c', he, -, -, hr, -⟩ := HA.out.up hg.out
          obtain ⟨b, o, hAb, -, -, hc⟩ := hr (by omega)
          obtain ⟨rfl, rfl⟩ : A = A' ∧ c = c' := by simpa using he
          subst hAb
          have hcj := (hc j (by rw [HV.out]; exact hlt2)).1
          have hsrc := (HY.out j _ _ (List.getElem?_eq_getElem (by rw [HV.out]; exact hlt2)) (List.getElem?_eq_getElem hlt2)).up hg.out
          obtain ⟨A1, c1, hv1, hl1, hc1, -⟩ := hsrc.shape
          rw [hv1] at hcj hsrc
          have HSR := Lib.hid hsrc
          have HL := Lib.hid (show (yss.take j).flatten.length + yss[j].length ≤ 1099511627776 by
            rw [flat_take_length]
            have h1 := sumLen_succ yss j hlt2
            have h2 := sumLen_le yss (j + 1)
            have := HM.out
            omega)
          have hsz := hg.out.size
          clear hc hr he h0 hv1 hsrc
          go_wp2_with (first | (at_builtin; refine wp_append_ops rfl _ _ rfl w.heap.size _ (yss.take j).flatten rfl ho.out S _ yss[j] rfl HSR.out HL.out ?_ ?_; (first | omega | (simp; omega)); intro v' w3 ho1 _ hg1; have HO := Lib.hid ho1; have HG := Lib.hid hg1; clear ho1 hg1))
          go_roundw
          case rel => exact ⟨j + 1, by omega, by go_num, by rw [flat_take _ _ hlt2]; exact HO.out, Chg.new hg.out HG.out (fun i hi => by omega)⟩
          case measure => simp [intOf]; omega
        · obtain rfl : j = yss.length := by omega
          go_wp2
          go_ret
          refine ⟨_, rfl, ?_, hg.out⟩
          have := ho.out.ops
          rwa [List.take_length] at this
end Go.Proofs.Ytmimbnpcokfnlaa
