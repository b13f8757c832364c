/- Copies and joins of slices of numbers, as rows of one's own: both sides. Condition: room. -/
import Derived.Test.YtiiodfcbpmkodaaGreatOwnS
import Derived.Laws.AppendOwnNone
import Derived.Lib.AppendZerosOnto
import Derived.Lib.SliceRun
set_option linter.unusedSimpArgs false
set_option linter.unusedVariables false
set_option maxRecDepth 100000
set_option maxHeartbeats 4000000
namespace Go.Proofs.YtiiodfcbpmkodaaGreat
open Go.ChangeShapes Go.WideShapes Go.ChangeAt Go.RowKit
/-- 'out = append(out, list...)' -/
theorem wp_app_ints {w : World} {ops : Array Oper} {rest : List Oper} {o : Oper} {a : Act} {Q : Exit → Act → World → Prop} (hgd : o.guard = none) (s x : Operand)
    (ho : o.op = .call { callee := .builtin .append, args := #[s, x], argTypes := #[34, 34] })
    (base : Nat) (v : Value) (xs : List Int) (hs : a.eval s = v) (hown : OwnI w base v xs)
    (S : Nat → Prop) (u : Value) (ys : List Int) (hx : a.eval x = u) (hsrc : Ints w S u ys) (hlen : xs.length + ys.length ≤ 1099511627776) (hbase : base ≤ w.heap.size)
    (h : ∀ v' w', OwnI w' base v' (xs ++ ys) → Chg (fun b => v.ownBlock = some b) w w' → (∀ b, v'.ownBlock = some b → v.ownBlock = some b ∨ w.heap.size ≤ b) → Chg (fun k => base ≤ k) w w' → wpList Tryz.prog ops Q rest (a.put o.dst v') w') : wpList Tryz.prog ops Q (o :: rest) a w := by
  obtain ⟨i0, hi, hz0, hz1, hz2⟩ := info_parts info2
  obtain ⟨A, c, rfl, hlc, hcm, hok, hr, hnn⟩ := hsrc
  have hok' : ∀ y ∈ xs ++ ys, I64 y := fun y hy => (List.mem_append.1 hy).elim (hown.2 y) (hok y)
  cases A with
  | none =>
    have hy : ys = [] := by
      rcases Nat.eq_zero_or_pos ys.length with h0 | h0
      · exact List.eq_nil_of_length_eq_zero h0
      · obtain ⟨b, oo, h1, _⟩ := hr h0
        cases h1
    subst hy
    obtain rfl := hnn rfl
    refine wpList_append_own_none hgd s x 34 ho base 2 i0 1 Tryz.underlying34 hi v xs.length _ hs hown.1 hx ?_
    exact h v w (by simpa using hown) (Chg.refl _ _) (fun b hb => .inl hb) (Chg.refl _ _)
  | some ad =>
    have hnews : ∀ j q, (ys.map (Value.int .i64))[j]? = some q → w.cell? (ad.add j) = some q := by
      intro j q hq
      obtain ⟨hj, he⟩ := List.getElem?_eq_some_iff.1 hq
      have hj' : j < ys.length := by simpa using hj
      obtain ⟨b, oo, h1, _, _, hc⟩ := hr (by omega)
      injection h1 with h1
      subst h1
      have := (hc j hj').1
      rw [← he, List.getElem_map, ← this]
      unfold Addr.add
      by_cases h0 : j = 0 <;> simp [h0]
    refine wpList_append_own2 (P := Tryz.prog) hgd s x 34 ho base 2 i0 (.int .i64 0) 1 8 Tryz.underlying34 hi hz0 hz1 hz2 rfl (by decide) v xs.length _ hs hown.1 ad ys.length c (ys.map (Value.int .i64)) hx (by simp) hnews ?_ ?_ ?_ hbase ?_
    · intro q hq
      obtain ⟨y, _, rfl⟩ := List.mem_map.1 hq
      rfl
    · unfold Go.maxLen; omega
    · omega
    · intro v' w' h2 h3 h4
      exact h v' w' ⟨by simpa using h2, hok'⟩ (Chg.of_grown h3) h4 ((Chg.refl _ _).grown h3 fun k hk => .inl (hown.1.lt k hk).1)
theorem eqlIn_nil {P : Program} (w : World) (d : Nat) (t e : TypeId) (a : Option Addr) (l c : Nat) (h : P.underlying t = some (.slice e)) : (Op.equalIn (d + 1) t (.slice a l c) (.slice none 0 0)).run P w = .ok a.isNone w := by
  cases a <;> simp [Op.equalIn, run_underlying h]
theorem eql_nil {P : Program} (w : World) (t e : TypeId) (a : Option Addr) (l c : Nat) (h : P.underlying t = some (.slice e)) : (binOp .eql t (.slice a l c) (.slice none 0 0)).run P w = .ok (.bool a.isNone) w := by
  have h1 : (Op.equal t (.slice a l c) (.slice none 0 0)).run P w = .ok a.isNone w := eqlIn_nil w 9999 t e a l c h
  simp only [binOp]
  simp [h1]
theorem ownI_any (w : World) (S : Nat → Prop) (v : Value) (xs : List Int) (h : Ints w S v xs) (hl : xs.length ≤ 100000) :
    Calls Tryz.prog 66 #[v] w fun e w' => ∃ v', e = .returned v' ∧ OwnI w' w.heap.size v' xs ∧ Up w w' := by
  obtain ⟨A, c, rfl, hlc, hcm, -⟩ := h.shape
  have H := Lib.hid h
  have M0 := Lib.hid (OwnI.made w w.heap.size (Nat.le_refl _))
  have HL := Lib.hid (show ([] : List Int).length + xs.length ≤ 1099511627776 by simp; omega)
  clear h
  go_enter Tryz.func66, Tryz.ntmps66
  go_wp2_with (first | (at_builtin; refine wp_app_ints rfl _ _ rfl w.heap.size _ ([] : List Int) rfl M0.out _ _ xs rfl (H.out.up (by repeat (first | exact Chg.refl _ _ | apply Chg.drew | apply Chg.drewN | refine Chg.alloc ?_ _))) HL.out (by simp) ?_; intro v' w1 ho1 _ _ hg1; have HO := Lib.hid ho1; have HG := Lib.hid (Chg.new ((Chg.refl Nowhere w).alloc _) hg1 (fun i hi => by omega)); clear ho1 hg1))
  go_ret
  exact ⟨_, rfl, by have := HO.out; rw [List.nil_append] at this; exact this, HG.out⟩
theorem cloneI_any (w : World) (S : Nat → Prop) (v : Value) (xs : List Int) (h : Ints w S v xs) (hl : xs.length ≤ 100000) :
    Calls Tryz.prog 90 #[v] w fun e w' => ∃ v', e = .returned v' ∧ OwnI w' w.heap.size v' xs ∧ Up w w' := by
  obtain ⟨A, c, rfl, hlc, hcm, -⟩ := h.shape
  have H := Lib.hid h
  have M0 := Lib.hid (OwnI.made w w.heap.size (Nat.le_refl _))
  have HL := Lib.hid (show ([] : List Int).length + xs.length ≤ 1099511627776 by simp; omega)
  clear h
  have hq := fun u : World => eql_nil (P := Tryz.prog) u 34 2 A xs.length c Tryz.underlying34
  cases A with
  | none =>
    obtain ⟨_, _, he, _, _, _, _, hnn⟩ := H.out
    have hz : xs = [] := by
      rcases Nat.eq_zero_or_pos xs.length with h0 | h0
      · exact List.eq_nil_of_length_eq_zero h0
      · obtain ⟨_, _, h1, _⟩ := H.out.ixm h0; cases h1
    subst hz
    go_enter Tryz.func90, Tryz.ntmps90
    have hq2 := fun u : World => eql_nil (P := Tryz.prog) u 34 2 none 0 0 Tryz.underlying34
    go_wp2
    go_ret
    exact ⟨_, rfl, OwnI.nil _ _, Chg.refl _ _⟩
  | some a =>
    go_enter Tryz.func90, Tryz.ntmps90
    go_wp2_with (first | (at_builtin; refine wp_app_ints rfl _ _ rfl w.heap.size _ ([] : List Int) rfl M0.out _ _ xs rfl (H.out.up (by repeat (first | exact Chg.refl _ _ | apply Chg.drew | apply Chg.drewN | refine Chg.alloc ?_ _))) HL.out (by simp) ?_; intro v' w1 ho1 _ _ hg1; have HO := Lib.hid ho1; have HG := Lib.hid (Chg.new ((Chg.refl Nowhere w).alloc _) hg1 (fun i hi => by omega)); clear ho1 hg1))
    go_ret
    exact ⟨_, rfl, by have := HO.out; rw [List.nil_append] at this; exact this, HG.out⟩
theorem growI_nil (w : World) (n : Nat) (hn : n ≤ 1073741824) :
    Calls Tryz.prog 95 #[.slice none 0 0, .int .i64 n] w fun e w' => ∃ v, e = .returned v ∧ OwnI w' w.heap.size v [] ∧ Up w w' := by
  have h1 : ¬ ((n : Int) < 0) := by omega
  by_cases h0 : 0 < n
  · obtain ⟨i0, hi, hz0, hz1, hz2⟩ := info_parts info2
    have hrz : ∀ ty, (Builtin.append_ #[34, 3] ty #[.slice none 0 0, .int .i64 (n : Int)]).run Tryz.prog w =
        .ok (.slice (some ⟨w.heap.size, 0, none⟩) n (grownCap w n 0 2))
          (w.drew.alloc (.cells (Builtin.zeroCells (Value.int .i64 0).cells n ++ Builtin.zeroCells (Value.int .i64 0).cells (grownCap w n 0 2 - n)) 2)) := fun ty => by
      have h := Lib.run_append_grow_zeros (P := Tryz.prog) w 34 3 ty 2 i0 _ .i64 .i64 Tryz.underlying34 Tryz.underlying3 hi hz0 none 0 0 [] (run_firstCells_none w.drew i0.size 0 0 0) n h0 (by omega) (by omega) (by omega) (by rw [hz2]; omega)
        (by rw [hz2]; exact growslice_fits (by omega) (by omega))
      simpa using h
    have hGn : n ≤ grownCap w n 0 2 := grownCap_ge w _ _ _
    have hG63 := grownCap_le_maxLen w n 0 2 (by unfold Go.maxLen; omega)
    obtain ⟨G, hG⟩ : ∃ G, G = grownCap w n 0 2 := ⟨_, rfl⟩
    rw [← hG] at hrz hGn hG63
    clear hG hi hz0 hz1 hz2
    unfold Go.maxLen at hG63
    go_enter Tryz.func95, Tryz.ntmps95
    go_wp2_with (at_builtin; refine Lib.wpList_append_run _ rfl _ _ _ _ rfl _ _ rfl rfl _ _ (hrz _) ?_)
    go_ret
    refine ⟨_, rfl, ⟨⟨by simp, .inr ⟨w.heap.size, G, _, rfl, Nat.le_refl _, heap_alloc_new w _, Nat.zero_le _, by unfold Go.maxLen; omega, ?_, by simp⟩⟩, by simp⟩, ((Chg.refl _ _).alloc _).drew⟩
    simp [Builtin.zeroCells]
    omega
  · obtain rfl : n = 0 := by omega
    go_enter Tryz.func95, Tryz.ntmps95
    go_wp2
    go_ret
    exact ⟨_, rfl, OwnI.nil _ _, Chg.refl _ _⟩
def sumLen {α : Type} (l : List (List α)) (i : Nat) : Nat := ((l.take i).map List.length).sum
theorem sumLen_succ {α : Type} (l : List (List α)) (i : Nat) (h : i < l.length) : sumLen l (i + 1) = sumLen l i + l[i].length := by
  unfold sumLen
  rw [List.take_succ_eq_append_getElem h, List.map_append, List.sum_append]
  simp only [List.map_cons, List.map_nil, List.sum_cons, List.sum_nil, Nat.add_zero]
theorem sumLen_le {α : Type} (l : List (List α)) : ∀ i, sumLen l i ≤ sumLen l l.length := by
  intro i
  unfold sumLen
  rw [List.take_length]
  induction l generalizing i with
  | nil => simp
  | cons x xs ih =>
    cases i with
    | zero => simp
    | succ i => have := ih i; simp at this ⊢; omega
theorem flat_take {α : Type} (l : List (List α)) (i : Nat) (h : i < l.length) : (l.take (i + 1)).flatten = (l.take i).flatten ++ l[i] := by
  rw [List.take_succ_eq_append_getElem h, List.flatten_append]
  simp only [List.flatten_cons, List.flatten_nil, List.append_nil]
theorem flat_take_length {α : Type} (l : List (List α)) (i : Nat) : (l.take i).flatten.length = sumLen l i := by simp [sumLen, List.length_flatten]
theorem concatI_any (w : World) (S1 S : Nat → Prop) (arg : Value) (vs : List Value) (yss : List (List Int)) (hvl : vs.length = yss.length) (harg : Raw w S1 1 arg yss.length vs)
    (hys : ∀ (i : Nat) (u : Value) (y : List Int), vs[i]? = some u → yss[i]? = some y → Ints w S u y) (hsum : sumLen yss yss.length ≤ 1073741824) :
    Calls Tryz.prog 91 #[arg] w fun e w' => ∃ v, e = .returned v ∧ OwnI w' w.heap.size v yss.flatten ∧ Up w w' := by
  obtain ⟨A, c, rfl, hlc, hcm, -⟩ := harg.shape
  have HA := Lib.hid harg
  have HY := Lib.hid hys
  have HM := Lib.hid hsum
  have HV := Lib.hid hvl
  clear harg hys hsum hvl
  go_enter Tryz.func91, Tryz.ntmps91
  go_wp2
  go_loop [3, 5, 11] (fun q _ i => ∃ j : Nat, j ≤ yss.length ∧ i = .int .i64 j ∧ q = .int .i64 (sumLen yss j)) (fun _ _ i => yss.length - (intOf i).toNat)
  case atStart => exact ⟨0, by omega, rfl, by simp [sumLen]⟩
  case round =>
    obtain ⟨j, hj, rfl, rfl⟩ := hrel
    by_cases hlt : j < yss.length
    · obtain ⟨h0, A', c', he, -, -, hr, -⟩ := HA.out
      obtain ⟨b, o, hAb, -, -, hc⟩ := hr (by omega)
      obtain ⟨rfl, rfl⟩ : A = A' ∧ c = c' := by simpa using he
      subst hAb
      have hcj := (hc j (by rw [HV.out]; exact hlt)).1
      obtain ⟨A1, c1, hv1, hl1, hc1, -⟩ := (HY.out j _ _ (List.getElem?_eq_getElem (by rw [HV.out]; exact hlt)) (List.getElem?_eq_getElem hlt)).shape
      rw [hv1] at hcj
      have hs1 := sumLen_succ yss j hlt
      have hs2 := sumLen_le yss (j + 1)
      have hs3 : (sumLen yss j : Int) + yss[j].length ≤ 1073741824 := by have := HM.out; omega
      have HS1 := Lib.hid hs1
      have hng : ¬ ((sumLen yss j : Int) + yss[j].length < 0) := by omega
      clear hc hr he h0 hv1 hs1 hs2
      go_wp2
      go_round
      case rel => exact ⟨j + 1, by omega, by go_num, by rw [HS1.out]; go_num⟩
      case measure => simp [intOf]; omega
    · obtain rfl : j = yss.length := by omega
      go_wp2_with fail
      refine (growI_nil _ _ HM.out).mono ?_
      rintro e w1 ⟨v, rfl, k1, g1⟩
      have K1 := Lib.hid k1
      have G1 := Lib.hid g1
      clear k1 g1
      go_wp2
      go_loopw [6, 8, 27] (fun v _ i wr => ∃ j : Nat, j ≤ yss.length ∧ i = .int .i64 j ∧ Hid (OwnI wr w.heap.size v (yss.take j).flatten) ∧ Hid (Up w wr)) (fun _ _ i _ => yss.length - (intOf i).toNat)
      case atStart => exact ⟨0, by omega, rfl, by simpa [Hid] using K1.out, G1.out⟩
      case round =>
        obtain ⟨j, hj2, rfl, ho, hg⟩ := hrel
        by_cases hlt2 : j < yss.length
        · obtain ⟨h0, A', c', he, -, -, hr, -⟩ := HA.out.up hg.out
          obtain ⟨b, o, hAb, -, -, hc⟩ := hr (by omega)
          obtain ⟨rfl, rfl⟩ : A = A' ∧ c = c' := by simpa using he
          subst hAb
          have hcj := (hc j (by rw [HV.out]; exact hlt2)).1
          have hsrc := (HY.out j _ _ (List.getElem?_eq_getElem (by rw [HV.out]; exact hlt2)) (List.getElem?_eq_getElem hlt2)).up hg.out
          obtain ⟨A1, c1, hv1, hl1, hc1, -⟩ := hsrc.shape
          rw [hv1] at hcj hsrc
          have HSR := Lib.hid hsrc
          have HL := Lib.hid (show (yss.take j).flatten.length + yss[j].length ≤ 1099511627776 by
            rw [flat_take_length]
            have h1 := sumLen_succ yss j hlt2
            have h2 := sumLen_le yss (j + 1)
            have := HM.out
            omega)
          have hsz := hg.out.size
          clear hc hr he h0 hv1 hsrc
          go_wp2_with (first | (at_builtin; refine wp_app_ints rfl _ _ rfl w.heap.size _ (yss.take j).flatten rfl ho.out S _ yss[j] rfl HSR.out HL.out ?_ ?_; (first | omega | (simp; omega)); intro v' w3 ho1 _ _ hg1; have HO := Lib.hid ho1; have HG := Lib.hid hg1; clear ho1 hg1))
          go_roundw
          case rel => exact ⟨j + 1, by omega, by go_num, by rw [flat_take _ _ hlt2]; exact HO.out, Chg.new hg.out HG.out (fun i hi => by omega)⟩
          case measure => simp [intOf]; omega
        · obtain rfl : j = yss.length := by omega
          go_wp2
          go_ret
          refine ⟨_, rfl, ?_, hg.out⟩
          have := ho.out
          rwa [List.take_length] at this
theorem concatI2_any (w : World) (S1 S2 S3 : Nat → Prop) (arg v1 v2 : Value) (xs ys : List Int) (harg : Raw w S1 1 arg 2 [v1, v2]) (h1 : Ints w S2 v1 xs) (h2 : Ints w S3 v2 ys) (hl : xs.length + ys.length ≤ 1073741824) :
    Calls Tryz.prog 91 #[arg] w fun e w' => ∃ v, e = .returned v ∧ OwnI w' w.heap.size v (xs ++ ys) ∧ Up w w' := by
  have := concatI_any w S1 (fun _ => True) arg [v1, v2] [xs, ys] rfl harg (fun i u y hu hy => by
    match i with
    | 0 => simp at hu hy; subst hu; subst hy; exact h1.mono fun _ _ _ => trivial
    | 1 => simp at hu hy; subst hu; subst hy; exact h2.mono fun _ _ _ => trivial
    | i + 2 => simp at hu) (by simp [sumLen]; omega)
  simpa using this
end Go.Proofs.YtiiodfcbpmkodaaGreat
