/- The program's ColumnBraid answers as the reference's, for every braid and sizes; what it is given stays as it was; its memory is its own. No condition. -/
import Derived.Test.YtmimbnpcokfnlaaRowOps
import Derived.Test.YtmimbnpcokfnlaaSwap
import Derived.Test.YtmimbnpcokfnlaaBrd2
import Derived.Test.YtmimbnpcokfnlaaOrd
import Derived.Test.YtmimbnpcokfnlaaBrd
import Derived.Test.YtmimbnpcokfnlaaRowLaw
namespace Go.Proofs.Ytmimbnpcokfnlaa
open Go.ChangeShapes Go.WideShapes Go.ChangeAt Go.RowKit
theorem eqlIn_nil {P : Program} (w : World) (d : Nat) (t e : TypeId) (a : Option Addr) (l c : Nat) (h : P.underlying t = some (.slice e)) : (Op.equalIn (d + 1) t (.slice a l c) (.slice none 0 0)).run P w = .ok a.isNone w := by
  cases a <;> simp [Op.equalIn, run_underlying h]
theorem eql_nil {P : Program} (w : World) (t e : TypeId) (a : Option Addr) (l c : Nat) (h : P.underlying t = some (.slice e)) : (binOp .eql t (.slice a l c) (.slice none 0 0)).run P w = .ok (.bool a.isNone) w := by
  have h1 : (Op.equal t (.slice a l c) (.slice none 0 0)).run P w = .ok a.isNone w := eqlIn_nil w 9999 t e a l c h
  simp only [binOp]
  simp [h1]
def badSize (x : Int) : Bool := !inB x 1 4
theorem areSizes1_any (x : Int) (w : World) : Calls Try.prog 143 #[.int .i64 x] w fun e w' => e = .returned (.bool (badSize x)) ∧ w = w' := by
  by_cases h : 1 ≤ x ∧ x ≤ 4
  · have HB := Lib.hid (show badSize x = false by unfold badSize inB; rw [decide_eq_true h]; rfl)
    have HH := Lib.hid h
    go_enter Try.func143, Try.ntmps143
    go_wp2_with fail
    refine (within_yes _ _ _ _ HH.out).mono ?_
    rintro e w' ⟨rfl, rfl⟩
    go_wp2
    go_ret
    exact ⟨ret_bool HB.out.symm, rfl⟩
  · have HB := Lib.hid (show badSize x = true by unfold badSize inB; rw [decide_eq_false h]; rfl)
    have HH := Lib.hid h
    go_enter Try.func143, Try.ntmps143
    go_wp2_with fail
    refine (within_no _ _ _ _ (by have := HH.out; omega)).mono ?_
    rintro e w' ⟨rfl, rfl⟩
    go_wp2
    go_ret
    exact ⟨ret_bool HB.out.symm, rfl⟩
set_option maxHeartbeats 1000000 in
theorem areSizesIdx_any (w : World) (S : Nat → Prop) (v : Value) (xs : List Int) (h : Ints w S v xs) :
    Calls Try.prog 197 #[v, .func (.func 143) #[] #[]] w fun e w' => e = .returned (.int .i64 (idxM badSize xs)) ∧ w = w' := by
  obtain ⟨A, c, rfl, hlc, hcm, -⟩ := h.shape
  have H := Lib.hid h
  clear h
  go_enter Try.func197, Try.ntmps197
  go_wp2
  go_loop [5, 8] (fun _ i => ∃ j : Nat, j ≤ xs.length ∧ i = .int .i64 j ∧ Hid (∀ i (hi : i < xs.length), i < j → badSize xs[i] = false)) (fun _ i => xs.length - (intOf i).toNat)
  case atStart => exact ⟨0, by omega, rfl, fun i hi h => by omega⟩
  case round =>
    obtain ⟨j, hj, rfl, hp⟩ := hrel
    by_cases hlt : j < xs.length
    · obtain ⟨b, o, rfl, -, hc⟩ := H.out.ix hlt
      have f1 := hc j hlt
      rw [ix_eq hlt] at f1
      clear hc
      cases hk : badSize xs[j] with
      | true =>
        have HB := Lib.hid (idxM_at hlt hk hp.out)
        have HK := Lib.hid hk
        clear hk
        go_wp2_with fail
        refine (areSizes1_any _ _).mono ?_
        rintro e w' ⟨rfl, rfl⟩
        rw [HK.out]
        go_wp2
        go_ret
        exact ⟨ret_int HB.out.symm, rfl⟩
      | false =>
        have HK := Lib.hid hk
        clear hk
        go_wp2_with fail
        refine (areSizes1_any _ _).mono ?_
        rintro e w' ⟨rfl, rfl⟩
        rw [HK.out]
        go_wp2
        go_round
        case rel => exact ⟨j + 1, by omega, by go_num, fun i hi h => by
          by_cases e : i = j
          · subst e; exact HK.out
          · exact hp.out i hi (by omega)⟩
        case measure => simp [intOf]; omega
    · have HB := Lib.hid (idxM_none (p := badSize) (xs := xs) (fun i hi => hp.out i hi (by omega)))
      go_wp2
      go_ret
      exact ⟨ret_int HB.out.symm, rfl⟩
theorem areSizesHas_any (w : World) (S : Nat → Prop) (v : Value) (xs : List Int) (h : Ints w S v xs) :
    Calls Try.prog 142 #[v, .func (.func 143) #[] #[]] w fun e w' => e = .returned (.bool (xs.any badSize)) ∧ w = w' := by
  obtain ⟨A, c, rfl, hlc, hcm, -⟩ := h.shape
  have H := Lib.hid h
  have HA := Lib.hid (idxM_any badSize xs)
  have hb := idxM_bd badSize xs
  clear h
  go_enter Try.func142, Try.ntmps142
  go_wp2_with fail
  refine (areSizesIdx_any _ S _ xs H.out).mono ?_
  rintro e w' ⟨rfl, rfl⟩
  go_wp2
  go_ret
  exact ⟨ret_bool (by rw [← HA.out]), rfl⟩
theorem areSizes_any (w : World) (S : Nat → Prop) (v : Value) (xs : List Int) (h : Ints w S v xs) :
    Calls Try.prog 78 #[v] w fun e w' => e = .returned (.bool (!xs.any badSize)) ∧ w = w' := by
  obtain ⟨A, c, rfl, hlc, hcm, -⟩ := h.shape
  have H := Lib.hid h
  clear h
  go_enter Try.func78, Try.ntmps78
  go_wp2_with fail
  refine (areSizesHas_any _ S _ xs H.out).mono ?_
  rintro e w' ⟨rfl, rfl⟩
  go_wp2
  go_ret
  exact ⟨rfl, rfl⟩
theorem sum_bd {xs : List Int} (hb : ∀ x ∈ xs, 0 ≤ x ∧ x ≤ 1000) : 0 ≤ sumL xs ∧ sumL xs ≤ 1000 * xs.length := by
  induction xs with
  | nil => simp [sumL, sumF]
  | cons x xs ih =>
    have h1 := ih (fun y hy => hb y (List.mem_cons_of_mem _ hy))
    have h2 := hb x List.mem_cons_self
    simp only [sumL, sumF, id_eq, List.length_cons] at *
    omega
theorem sumOf_any (w : World) (S : Nat → Prop) (v : Value) (xs : List Int) (h : Ints w S v xs) (hl : xs.length ≤ 100000) (hb : ∀ x ∈ xs, 0 ≤ x ∧ x ≤ 1000) :
    Calls Try.prog 81 #[v] w fun e w' => e = .returned (.int .i64 (sumL xs)) ∧ w = w' := by
  obtain ⟨A, c, rfl, hlc, hcm, -⟩ := h.shape
  have H := Lib.hid h
  have HB := Lib.hid hb
  clear h hb
  go_enter Try.func81, Try.ntmps81
  go_wp2
  go_loop [3, 5, 8] (fun s _ i => ∃ j : Nat, j ≤ xs.length ∧ i = .int .i64 j ∧ s = .int .i64 (sumL (xs.take j))) (fun _ _ i => xs.length - (intOf i).toNat)
  case atStart => exact ⟨0, by omega, rfl, rfl⟩
  case round =>
    obtain ⟨j, hj, rfl, rfl⟩ := hrel
    by_cases hlt : j < xs.length
    · obtain ⟨b, o, rfl, -, hc⟩ := H.out.ix hlt
      have f1 := hc j hlt
      rw [ix_eq hlt] at f1
      have hx := HB.out xs[j] (List.getElem_mem hlt)
      have hs := sum_bd (xs := xs.take j) (fun x hx => HB.out x (List.mem_of_mem_take hx))
      have hq : (xs.take j).length ≤ 100000 := by rw [List.length_take]; omega
      have HT := Lib.hid (show sumL (xs.take (j + 1)) = sumL (xs.take j) + xs[j] by rw [List.take_succ_eq_append_getElem hlt, sumL_append]; simp [sumL, sumF])
      clear hc
      go_wp2
      go_round
      case rel => exact ⟨j + 1, by omega, by go_num, by rw [HT.out]⟩
      case measure => simp [intOf]; omega
    · obtain rfl : j = xs.length := by omega
      have HX := Lib.hid (show xs.take xs.length = xs by rw [List.take_length])
      go_wp2
      go_ret
      exact ⟨ret_int (by simp), rfl⟩
set_option maxRecDepth 100000 in
set_option maxHeartbeats 2000000 in
theorem l00Own_any (w : World) (S : Nat → Prop) (v : Value) (xs : List Int) (h : Ints w S v xs) (hl : xs.length ≤ 100000) :
    Calls Try.prog 137 #[v] w fun e w' => ∃ v', e = .returned v' ∧ Ints w' (New w.heap.size w'.heap.size) v' xs ∧ Up w w' := by
  obtain ⟨A, c, rfl, hlc, hcm, -⟩ := h.shape
  have H := Lib.hid h
  have M0 := Lib.hid (OwnI.made w w.heap.size (Nat.le_refl _))
  have HL := Lib.hid (show ([] : List Int).length + xs.length ≤ 1099511627776 by simp; omega)
  clear h
  go_enter Try.func137, Try.ntmps137
  go_wp2_with (first | (at_builtin; refine wp_append_ints rfl _ _ rfl w.heap.size _ ([] : List Int) rfl M0.out _ _ xs rfl (H.out.up (by repeat (first | exact Chg.refl _ _ | apply Chg.drew | apply Chg.drewN | refine Chg.alloc ?_ _))) HL.out (by simp) ?_; intro v' w1 ho1 _ _ hg1; have HO := Lib.hid ho1; have HG := Lib.hid (Chg.new ((Chg.refl Nowhere w).alloc _) hg1 (fun i hi => by omega)); clear ho1 hg1))
  go_ret
  exact ⟨_, rfl, by have := HO.out.ints; rw [List.nil_append] at this; exact this, HG.out⟩
set_option maxRecDepth 100000 in
set_option maxHeartbeats 2000000 in
theorem clone_any (w : World) (S : Nat → Prop) (v : Value) (xs : List Int) (h : Ints w S v xs) (hl : xs.length ≤ 100000) :
    Calls Try.prog 144 #[v] w fun e w' => ∃ v', e = .returned v' ∧ Ints w' (New w.heap.size w'.heap.size) v' xs ∧ Up w w' := by
  obtain ⟨A, c, rfl, hlc, hcm, -⟩ := h.shape
  have H := Lib.hid h
  have M0 := Lib.hid (OwnI.made w w.heap.size (Nat.le_refl _))
  have HL := Lib.hid (show ([] : List Int).length + xs.length ≤ 1099511627776 by simp; omega)
  clear h
  have hq := fun u : World => eql_nil (P := Try.prog) u 22 2 A xs.length c Try.underlying22
  cases A with
  | none =>
    obtain ⟨_, _, he, _, _, _, _, hnn⟩ := H.out
    have hz : xs = [] := by
      rcases Nat.eq_zero_or_pos xs.length with h0 | h0
      · exact List.eq_nil_of_length_eq_zero h0
      · obtain ⟨_, _, h1, _⟩ := H.out.ix h0; cases h1
    subst hz
    go_enter Try.func144, Try.ntmps144
    have hq2 := fun u : World => eql_nil (P := Try.prog) u 22 2 none 0 0 Try.underlying22
    go_wp2
    go_ret
    exact ⟨_, rfl, Ints.nil _ _ _ _ (by omega), Chg.refl _ _⟩
  | some a =>
    go_enter Try.func144, Try.ntmps144
    go_wp2_with (first | (at_builtin; refine wp_append_ints rfl _ _ rfl w.heap.size _ ([] : List Int) rfl M0.out _ _ xs rfl (H.out.up (by repeat (first | exact Chg.refl _ _ | apply Chg.drew | apply Chg.drewN | refine Chg.alloc ?_ _))) HL.out (by simp) ?_; intro v' w1 ho1 _ _ hg1; have HO := Lib.hid ho1; have HG := Lib.hid (Chg.new ((Chg.refl Nowhere w).alloc _) hg1 (fun i hi => by omega)); clear ho1 hg1))
    go_ret
    exact ⟨_, rfl, by have := HO.out.ints; rw [List.nil_append] at this; exact this, HG.out⟩
end Go.Proofs.Ytmimbnpcokfnlaa
namespace Go.Proofs.Ytmimbnpcokfnlaa
open Go.ChangeShapes Go.WideShapes Go.ChangeAt Go.RowKit
set_option maxRecDepth 100000 in
set_option maxHeartbeats 4000000 in
theorem step_appendInts {w : World} {ops : Array Oper} {o : Oper} {a : Act} {K : Act → World → Prop} {E : Prop} {Q : Exit → Act → World → Prop} (hgd : o.guard = none) (s x : Operand)
    (ho : o.op = .call { callee := .builtin .append, args := #[s, x], argTypes := #[22, 22] })
    (base : Nat) (v : Value) (xs : List Int) (hs : a.eval s = v) (hown : OwnI w base v xs)
    (S : Nat → Prop) (u : Value) (ys : List Int) (hx : a.eval x = u) (hsrc : Ints w S u ys) (hlen : xs.length + ys.length ≤ 1099511627776) (hbase : base ≤ w.heap.size)
    (h : ∀ v' w', OwnI w' base v' (xs ++ ys) → Chg (fun b => v.ownBlock = some b) w w' → (∀ b, v'.ownBlock = some b → v.ownBlock = some b ∨ w.heap.size ≤ b) → Chg (fun k => base ≤ k) w w' → K (a.put o.dst v') w') :
    if Region.wanted o (yielded ops a.tmps) = true then Oper.wp Try.prog o a w K Q else E := by
  have hw : Region.wanted o (yielded ops a.tmps) = true := by simp [Region.wanted, hgd]
  rw [if_pos hw]
  obtain ⟨i0, hi, hz0, hz1, hz2⟩ := info_parts info2
  obtain ⟨A, c, rfl, hlc, hcm, hok, hr, hnn⟩ := hsrc
  have hok' : ∀ y ∈ xs ++ ys, I64 y := fun y hy => (List.mem_append.1 hy).elim (hown.2 y) (hok y)
  cases A with
  | none =>
    have hy : ys = [] := by
      rcases Nat.eq_zero_or_pos ys.length with h0 | h0
      · exact List.eq_nil_of_length_eq_zero h0
      · obtain ⟨b, oo, h1, _⟩ := hr h0
        cases h1
    subst hy
    obtain rfl := hnn rfl
    have hrun := run_append_owned_none (P := Try.prog) (w := w) base 22 o.type 2 i0 1 Try.underlying22 hi v xs.length _ hown.1
    have hK := h v w (by simpa using hown) (Chg.refl _ _) (fun b hb => .inl hb) (Chg.refl _ _)
    unfold Oper.wp
    simp [execOp, ho, resolve, invoke, builtin, hs, hx, hrun, Result.andThen]
    exact hK
  | some ad =>
    have hnews : ∀ j q, (ys.map (Value.int .i64))[j]? = some q → w.cell? (ad.add j) = some q := by
      intro j q hq
      obtain ⟨hj, he⟩ := List.getElem?_eq_some_iff.1 hq
      have hj' : j < ys.length := by simpa using hj
      obtain ⟨b, oo, h1, _, _, hc⟩ := hr (by omega)
      injection h1 with h1
      subst h1
      have := (hc j hj').1
      rw [← he, List.getElem_map, ← this]
      unfold Addr.add
      by_cases h0 : j = 0 <;> simp [h0]
    refine wp_append_own2 (P := Try.prog) s x 22 ho base 2 i0 (.int .i64 0) 1 8 Try.underlying22 hi hz0 hz1 hz2 rfl (by decide) v xs.length _ hs hown.1 ad ys.length c (ys.map (Value.int .i64)) hx (by simp) hnews ?_ ?_ ?_ hbase ?_
    · intro q hq
      obtain ⟨y, _, rfl⟩ := List.mem_map.1 hq
      rfl
    · unfold Go.maxLen; omega
    · omega
    · intro v' w' h2 h3 h4
      exact h v' w' ⟨by simpa using h2, hok'⟩ (Chg.of_grown h3) h4 ((Chg.refl _ _).grown h3 fun k hk => .inl (hown.1.lt k hk).1)
theorem Ints.front {w : World} {S : Nat → Prop} {A : Option Addr} {n c : Nat} {xs : List Int} (h : Ints w S (.slice A n c) xs) {i : Nat} (hi : i ≤ xs.length) : Ints w S (.slice A i c) (xs.take i) := by
  obtain ⟨A', c', he, h1, h2, h3, h4, h5⟩ := h
  obtain ⟨rfl, rfl, rfl⟩ : A = A' ∧ n = xs.length ∧ c = c' := by simpa using he
  have hl : (xs.take i).length = i := by rw [List.length_take]; omega
  refine ⟨A, c, by rw [hl], by omega, h2, fun x hx => h3 x (List.mem_of_mem_take hx), fun hp => ?_, h5⟩
  obtain ⟨b, o, hA, hS, hb, hc⟩ := h4 (by omega)
  refine ⟨b, o, hA, hS, hb, fun t ht => ?_⟩
  have := hc t (by omega)
  rw [List.getElem_take]
  exact this
theorem Ints.cells {w : World} {S : Nat → Prop} {A : Option Addr} {n c : Nat} {xs : List Int} (h : Ints w S (.slice A n c) xs) (hp : 0 < xs.length) : ∃ b o, A = some ⟨b, o, none⟩ ∧ S b ∧ b < w.heap.size ∧ ∀ t, t < xs.length → w.cell? ⟨b, o + t, none⟩ = some (.int .i64 (xs.getD t 0)) ∧ w.frozen? ⟨b, o + t, none⟩ = false := by
  obtain ⟨A', c', he, h1, h2, h3, h4, h5⟩ := h
  obtain ⟨rfl, rfl, rfl⟩ : A = A' ∧ n = xs.length ∧ c = c' := by simpa using he
  obtain ⟨b, o, hA, hS, hb, hc⟩ := h4 hp
  refine ⟨b, o, hA, hS, hb, fun t ht => ?_⟩
  have := hc t ht
  rw [List.getD_eq_getElem?_getD, List.getElem?_eq_getElem ht, Option.getD_some]
  exact this
theorem Ints.swap {w : World} {S : Nat → Prop} {nb no n c : Nat} {xs : List Int} {i : Nat} {a b : Int} (h : Ints w S (.slice (some ⟨nb, no, none⟩) n c) xs) (hi : i + 1 < xs.length) (ha : I64 a) (hb : I64 b) :
    Ints ((w.setCell ⟨nb, no + i, none⟩ (.int .i64 b)).setCell ⟨nb, no + (i + 1), none⟩ (.int .i64 a)).drew S (.slice (some ⟨nb, no, none⟩) n c) ((xs.set i b).set (i + 1) a) := by
  obtain ⟨A', c', he, h1, h2, h3, h4, h5⟩ := h
  obtain ⟨rfl, rfl, rfl⟩ : some ⟨nb, no, none⟩ = A' ∧ n = xs.length ∧ c = c' := by simpa using he
  have hl : ((xs.set i b).set (i + 1) a).length = xs.length := by simp
  have hg : Chg (fun x => x = nb) w ((w.setCell ⟨nb, no + i, none⟩ (.int .i64 b)).setCell ⟨nb, no + (i + 1), none⟩ (.int .i64 a)).drew := Chg.drew (Chg.setCell (Chg.setCell (Chg.refl (fun x => x = nb) _) (.inl (show nb = nb from rfl)) _) (.inl (show nb = nb from rfl)) _)
  refine ⟨_, c, by rw [hl], by omega, h2, fun x hx => ?_, fun hp => ?_, by simp⟩
  · rcases List.mem_or_eq_of_mem_set hx with hx | rfl
    · rcases List.mem_or_eq_of_mem_set hx with hx | rfl
      · exact h3 x hx
      · exact hb
    · exact ha
  · obtain ⟨b1, o1, hA, hS, hb1, hc⟩ := h4 (by omega)
    obtain ⟨rfl, rfl⟩ : nb = b1 ∧ no = o1 := by simpa using hA
    refine ⟨nb, no, rfl, hS, Nat.lt_of_lt_of_le hb1 hg.size, fun t ht => ?_⟩
    have ht' : t < xs.length := by rw [hl] at ht; exact ht
    obtain ⟨p1, p2⟩ := hc i (by omega)
    obtain ⟨p3, p4⟩ := hc (i + 1) hi
    obtain ⟨q1, q2⟩ := hc t ht'
    have hk1 : (w.setCell ⟨nb, no + i, none⟩ (.int .i64 b)).cell? ⟨nb, no + (i + 1), none⟩ = some (.int .i64 xs[i + 1]) := by
      rw [World.cell?_setCell_other _ _ _ _ (fun h => by have := (Addr.mk.inj h).2.1; omega)]
      exact p3
    refine ⟨?_, by simpa using q2⟩
    show (World.setCell _ _ _).cell? _ = _
    by_cases e1 : t = i + 1
    · subst e1
      rw [World.cell?_setCell_same _ _ _ hk1, List.getElem_set_self]
    · rw [World.cell?_setCell_other _ _ _ _ (fun h => e1 (by have := (Addr.mk.inj h).2.1; omega)), List.getElem_set_ne (by omega)]
      by_cases e2 : t = i
      · subst e2
        rw [World.cell?_setCell_same _ _ _ p1, List.getElem_set_self]
      · rw [World.cell?_setCell_other _ _ _ _ (fun h => e2 (by have := (Addr.mk.inj h).2.1; omega)), List.getElem_set_ne (by omega)]
        exact q1
theorem quo_self {k : Int} (h : k ≠ 0) : Int.tdiv k (absI k) = sgnI k := by
  unfold absI sgnI
  split
  · rw [Int.tdiv_neg, Int.tdiv_self (by omega)]
  · exact Int.tdiv_self h
set_option maxRecDepth 100000 in
set_option maxHeartbeats 16000000 in
theorem doubled_any (w : World) (S S2 : Nat → Prop) (v u : Value) (ws sizes : List Int) (m : Nat) (h : Ints w S v ws) (h2 : Ints w S2 u sizes) (hs : SizesOk m sizes) (hk : ∀ k ∈ ws, k ≠ 0 ∧ 1 - (m : Int) ≤ k ∧ k ≤ m - 1) (hl : ws.length ≤ 1000) (hm : m ≤ 100) :
    Calls Try.prog 79 #[v, u] w fun e w' => ∃ v1 v2, e = .returned (.tuple #[v1, v2]) ∧ Ints w' (New w.heap.size w'.heap.size) v1 (dblM ws sizes) ∧ Up w w' := by
  obtain ⟨A, c, rfl, hlc, hcm, -⟩ := h.shape
  obtain ⟨A2, c2, rfl, hlc2, hcm2, -⟩ := h2.shape
  have H := Lib.hid h
  have H2 := Lib.hid h2
  obtain rfl := hs.len
  have HS := Lib.hid hs
  have HK := Lib.hid hk
  clear h h2 hs hk
  go_enter Try.func79, Try.ntmps79
  go_wp2_with fail
  refine (clone_any _ S2 _ sizes (H2.out.up (by repeat (first | exact Chg.refl _ _ | apply Chg.drew | apply Chg.drewN | refine Chg.alloc ?_ _))) (by omega)).mono ?_
  rintro e w1 ⟨v1, rfl, k1, g1⟩
  obtain ⟨A1, c1, rfl, hl1, hc1, -⟩ := k1.shape
  have K1 := Lib.hid k1
  have G1 := Lib.hid g1
  have hz1 := G1.out.size
  clear k1 g1
  have M0 := Lib.hid (OwnI.made w1 w1.heap.size (Nat.le_refl _))
  go_wp2
  go_loopw [7, 9, 10, 16] (fun v _ _ i wr => ∃ j : Nat, j ≤ ws.length ∧ i = .int .i64 j ∧ Hid (OwnI wr w1.heap.size v (dblF (ws.take j) sizes).2) ∧ Hid (Ints wr (New w.heap.size w1.heap.size) (.slice A1 sizes.length c1) (dblF (ws.take j) sizes).1) ∧ Hid (Up w wr) ∧ w1.heap.size ≤ wr.heap.size) (fun _ _ _ i _ => ws.length - (intOf i).toNat)
  case atStart => exact ⟨0, by omega, rfl, M0.out, K1.out.up ((Chg.refl _ _).alloc _), Chg.trans G1.out ((Chg.refl _ _).alloc _), by simp⟩
  clear M0 K1
  case round =>
    obtain ⟨j, hj, rfl, ho, hn, hg, hsz⟩ := hrel
    by_cases hlt : j < ws.length
    rotate_left
    · obtain rfl : j = ws.length := by omega
      go_wp2
      go_ret2
      exact ⟨_, _, rfl, by have := ho.out.ints; rw [List.take_length] at this; exact this.mono (fun b _ hb => ⟨by have := hb.1; omega, hb.2⟩), hg.out⟩
    have HT := Lib.hid (dblF_take sizes hlt)
    have HD := Lib.hid (show DblOk sizes.length (sumL sizes) (dblF (ws.take j) sizes) from dbl_ok HS.out (fun k hk => HK.out k (List.mem_of_mem_take hk)))
    have HDL := Lib.hid (show ((dblF (ws.take j) sizes).2).length ≤ 16 * (ws.take j).length by have := dbl_len HS.out (ws.take j) (sizes, []) HS.out (fun k hk => HK.out k (List.mem_of_mem_take hk)); simpa [dblF] using this)
    obtain ⟨b1, o1, rfl, -, hc⟩ := H.out.ix hlt
    have f1 := Chg.cell hg.out (hc j hlt) id
    rw [ix_eq hlt] at f1
    have hkk := HK.out ws[j] (List.getElem_mem hlt)
    obtain ⟨k, hkd⟩ : ∃ k, ws[j] = k := ⟨_, rfl⟩
    rw [hkd] at f1 hkk HT
    obtain ⟨i, hid⟩ : ∃ i, (absI k - 1).toNat = i := ⟨_, rfl⟩
    have hla := letter_at hkk
    rw [hid] at hla
    obtain ⟨hi1, hia⟩ := hla
    generalize hP : dblF (ws.take j) sizes = P at *
    obtain ⟨N, R⟩ := P
    dsimp only at ho hn HDL
    have hNl : N.length = sizes.length := HD.out.now.len
    obtain ⟨nb, no, rfl, hSn, hnb, hcs⟩ := hn.out.cells (by omega)
    obtain ⟨p1, p2⟩ := hcs i (by omega)
    obtain ⟨p3, p4⟩ := hcs (i + 1) (by omega)
    have ha := HD.out.now.at_ (show i < sizes.length by omega)
    have hb := HD.out.now.at_ hi1
    dsimp only at ha hb
    obtain ⟨an, han⟩ : ∃ an : Nat, N.getD i 0 = an := ⟨(N.getD i 0).toNat, by omega⟩
    obtain ⟨bn, hbn⟩ : ∃ bn : Nat, N.getD (i + 1) 0 = bn := ⟨(N.getD (i + 1) 0).toNat, by omega⟩
    have hsp := sum_split HD.out.now hi1
    have hsl := sumL_nonneg sizes HS.out.each
    have hsum : sumL N = sumL sizes := HD.out.sum
    dsimp only at hsp
    rw [han, hbn] at hsp
    rw [han] at p1 ha
    rw [hbn] at p3 hb
    have HCS := Lib.hid hcs
    have HE := Lib.hid (fun x (hx : x ∈ N.take i) => (show 0 ≤ x ∧ x ≤ 1000 by have := HD.out.now.each x (List.mem_of_mem_take hx); omega))
    have HONE := Lib.hid (show dblOne N k = swapTo (sumL (N.take i)) (sgnI k) an bn by unfold dblOne; rw [hid, han, hbn]; rfl)
    have HSW := Lib.hid (show swapAt N i = (N.set i bn).set (i + 1) an by unfold swapAt; rw [han, hbn])
    have HID := Lib.hid hid
    have hne : absI k ≠ 0 := by omega
    have hquo := quo_self hkk.1
    have hsg := sgnI_cases k
    have hkb : -1000000 ≤ k ∧ k ≤ 1000000 := by omega
    have HLL := Lib.hid (show R.length + (swapTo (sumL (N.take i)) (sgnI k) an bn).length ≤ 1099511627776 by
      have h1 := HDL.out
      rw [List.length_take] at h1
      rw [swapTo_len]
      have : bn * an ≤ 4 * 4 := Nat.mul_le_mul (by omega) (by omega)
      omega)
    clear hc hcs hid hP hkd han hbn
    go_wp2_with fail
    refine (size_any k _ hkb).mono ?_
    rintro e w' ⟨rfl, rfl⟩
    rw [hia]
    have hwi : IntKind.i64.wrap ((i : Int) + 1 - 1) = i := by rw [Int.add_sub_cancel]; exact IntWalk.i64_in _ (by omega)
    go_wp2
    have wi1 : IntKind.i64.wrap ((i : Int) + 1) = (i : Int) + 1 := IntWalk.i64_in _ (by omega)
    have b0 : (0 : Int) ≤ (i : Int) := by omega
    have b1' : (i : Int) ≤ (c1 : Int) := by omega
    have b2' : (i : Int) < (sizes.length : Int) := by omega
    have b3' : (i : Int) + 1 < (sizes.length : Int) := by omega
    have b4' : (0 : Int) ≤ (i : Int) + 1 := by omega
    have b5' : ((i : Int) + 1).toNat = i + 1 := by omega
    have hne0 : (absI k == 0) = false := by simpa using hne
    have wq : IntKind.i64.wrap (sgnI k) = sgnI k := IntWalk.i64_in _ (by omega)
    have hnb2 : nb < w1.heap.size := hSn.2
    have hnbw : w.heap.size ≤ nb := hSn.1
    have hq2 : Int.tdiv k ((i : Int) + 1) = sgnI k := by rw [← hia]; exact hquo
    have hn1 : ¬ ((i : Int) + 1 = 0) := by omega
    have hn2 : (((i : Int) + 1) == 0) = false := by simpa using hn1
    have HIA := Lib.hid hia
    clear hia hquo hne hne0
    go_region_held3 (fun w' => w'.cell? ⟨nb, no + i, none⟩ = some (.int .i64 (an : Int)) ∧ w'.cell? ⟨nb, no + (i + 1), none⟩ = some (.int .i64 (bn : Int)))
      (first | (exact ⟨p1, p3⟩) | (obtain ⟨q0, q1⟩ : (World.cell? _ _ = _ ∧ World.cell? _ _ = _) := (by assumption); exact ⟨Chg.cell g1 q0 id, Chg.cell g1 q1 id⟩) | (obtain ⟨q0, q1⟩ : (World.cell? _ _ = _ ∧ World.cell? _ _ = _) := (by assumption); exact ⟨Chg.cell hg1 q0 (by simp only []; omega), Chg.cell hg1 q1 (by simp only []; omega)⟩))
      (first | (go_at_call 145; refine (size_any k _ hkb).mono ?_; rintro e w' ⟨rfl, rfl⟩; rw [HIA.out]) | (go_at_call 81; refine (sumOf_any _ (New w.heap.size w1.heap.size) _ (N.take i) (Ints.front (hn.out.up (by repeat (first | exact Chg.refl _ _ | apply Chg.drew | apply Chg.drewN | refine Chg.alloc ?_ _))) (by omega)) (by rw [List.length_take]; omega) HE.out).mono ?_; rintro e w' ⟨rfl, rfl⟩) | (go_at_call 146; refine (blockLetters_any _ (sumL (N.take i)) (sgnI k) an bn (by omega) hsg (by omega) (by omega)).mono ?_; rintro e w5 ⟨v5, rfl, k1, g1⟩; obtain ⟨A5, c5, rfl, hl5, hc5, -⟩ := k1.shape; have K5 := Lib.hid k1; have G5 := Lib.hid (Chg.trans (show Up wr _ from (by repeat (first | exact Chg.refl _ _ | apply Chg.drew | apply Chg.drewN | refine Chg.alloc ?_ _))) g1); have HO5 := Lib.hid (ho.out.up G5.out); have HN5 := Lib.hid (hn.out.up G5.out); have HG5 := Lib.hid (Chg.trans hg.out G5.out); have hsz5 := G5.out.size; clear k1) | (refine step_appendInts (by rfl) _ _ (by rfl) w1.heap.size _ R (by rfl) HO5.out _ _ (swapTo (sumL (N.take i)) (sgnI k) an bn) (by rfl) K5.out HLL.out ?_ ?_; (first | omega | (simp; omega)); intro v6 w6 ho1 ho2 ho3 hg1; have HO6 := Lib.hid ho1; have HN6 := Lib.hid (HN5.out.keep hg1 (fun x _ hx hv => by simp only [New] at hx; omega)); have HG6 := Lib.hid (Chg.new HG5.out hg1 (fun i hi => by omega)); have hsz6 := hg1.size; clear ho1 ho2 ho3))
    have r1 := Chg.cell hg1 (Chg.cell G5.out p1 id) (by simp only []; omega)
    have r3 := Chg.cell hg1 (Chg.cell G5.out p3 id) (by simp only []; omega)
    have r2 := (Chg.frozen hg1 (Chg.cell G5.out p1 id) (by simp only []; omega)).trans ((Chg.frozen G5.out p1 id).trans p2)
    have r4 := (Chg.frozen hg1 (Chg.cell G5.out p3 id) (by simp only []; omega)).trans ((Chg.frozen G5.out p3 id).trans p4)
    clear p1 p2 p3 p4 g1 hg1
    have hnn : ¬ no + i = no + (i + 1) := by omega
    have hnn2 : ¬ no + (i + 1) = no + i := by omega
    go_wp2
    go_region
    all_goals go_wp2
    all_goals
      have hgx : Chg (fun x => x = nb) w6 ((w6.setCell ⟨nb, no + i, none⟩ (.int .i64 (bn : Int))).setCell ⟨nb, no + (i + 1), none⟩ (.int .i64 (an : Int))).drew := Chg.drew (Chg.setCell (Chg.setCell (Chg.refl (fun x => x = nb) _) (.inl (show nb = nb from rfl)) _) (.inl (show nb = nb from rfl)) _)
      refine ⟨⟨j + 1, by omega, by go_num, ?_, ?_, ?_, ?_⟩, ?_⟩
      · rw [HT.out]
        simp only [dblStep]
        rw [HONE.out]
        exact HO6.out.kept hgx (fun g hg he => by have := (HO6.out.lt hg).1; omega)
      · rw [HT.out]
        simp only [dblStep]
        rw [HID.out, HSW.out]
        exact Ints.swap HN6.out (by omega) (by unfold I64; omega) (by unfold I64; omega)
      · exact Chg.new HG6.out hgx (fun x hx hxx => by omega)
      · have := hgx.size; omega
      · simp [intOf]; omega
end Go.Proofs.Ytmimbnpcokfnlaa
namespace Go.Proofs.Ytmimbnpcokfnlaa
open Go.ChangeShapes Go.WideShapes Go.ChangeAt Go.RowKit
theorem sum_take_le {xs : List Int} (h : ∀ x ∈ xs, 1 ≤ x ∧ x ≤ 4) (t : Nat) : 0 ≤ sumL (xs.take t) ∧ sumL (xs.take t) ≤ 4 * xs.length := by
  have h1 := sumL_nonneg (xs.take t) (fun x hx => h x (List.mem_of_mem_take hx))
  have h2 : (xs.take t).length ≤ xs.length := List.length_take_le' t xs
  omega
theorem sum_take_succ {xs : List Int} {t : Nat} (h : t < xs.length) : sumL (xs.take (t + 1)) = sumL (xs.take t) + xs.getD t 0 := by
  unfold sumL
  rw [sumF_take id h, List.getD_eq_getElem?_getD, List.getElem?_eq_getElem h, Option.getD_some]
  rfl
set_option linter.unusedVariables false in
set_option maxRecDepth 100000 in
set_option maxHeartbeats 16000000 in
theorem l03Double_any (w : World) (S S2 : Nat → Prop) (v u : Value) (ws sizes : List Int) (m : Nat) (h : Ints w S v ws) (h2 : Ints w S2 u sizes) (hs : SizesOk m sizes) (hk : ∀ k ∈ ws, k ≠ 0 ∧ 1 - (m : Int) ≤ k ∧ k ≤ m - 1) (hl : ws.length ≤ 1000) (hm : m ≤ 100) :
    Calls Try.prog 76 #[v, u] w fun e w' => ∃ v1, e = .returned v1 ∧ Ints w' (New w.heap.size w'.heap.size) v1 (dblM ws sizes) ∧ Up w w' := by
  obtain ⟨A, c, rfl, hlc, hcm, -⟩ := h.shape
  obtain ⟨A2, c2, rfl, hlc2, hcm2, -⟩ := h2.shape
  have H := Lib.hid h
  have H2 := Lib.hid h2
  obtain rfl := hs.len
  have HS := Lib.hid hs
  have HK := Lib.hid hk
  clear h h2 hs hk
  go_enter Try.func76, Try.ntmps76
  go_wp2_with fail
  refine (l00Own_any _ S2 _ sizes (H2.out.up (by repeat (first | exact Chg.refl _ _ | apply Chg.drew | apply Chg.drewN | refine Chg.alloc ?_ _))) (by omega)).mono ?_
  rintro e w1 ⟨v1, rfl, k1, g1⟩
  obtain ⟨A1, c1, rfl, hl1, hc1, -⟩ := k1.shape
  have K1 := Lib.hid k1
  have G1 := Lib.hid g1
  have hz1 := G1.out.size
  clear k1 g1
  have M0 := Lib.hid (OwnI.made w1 w1.heap.size (Nat.le_refl _))
  go_wp2
  go_loopw [6, 7] (fun v i wr => ∃ j : Nat, j ≤ ws.length ∧ i = .int .i64 j ∧ Hid (OwnI wr w1.heap.size v (dblF (ws.take j) sizes).2) ∧ Hid (Ints wr (New w.heap.size w1.heap.size) (.slice A1 sizes.length c1) (dblF (ws.take j) sizes).1) ∧ Hid (Up w wr) ∧ w1.heap.size ≤ wr.heap.size) (fun _ i _ => ws.length - (intOf i).toNat)
  case atStart => exact ⟨0, by omega, rfl, M0.out, K1.out.up ((Chg.refl _ _).alloc _), Chg.trans G1.out ((Chg.refl _ _).alloc _), by simp⟩
  clear M0 K1
  case round =>
    obtain ⟨j, hj, rfl, ho, hn, hg, hsz⟩ := hrel
    by_cases hlt : j < ws.length
    rotate_left
    · obtain rfl : j = ws.length := by omega
      go_wp2
      go_ret
      exact ⟨_, rfl, by have := ho.out.ints; rw [List.take_length] at this; exact this.mono (fun b _ hb => ⟨by have := hb.1; omega, hb.2⟩), hg.out⟩
    have HT := Lib.hid (dblF_take sizes hlt)
    have HD := Lib.hid (show DblOk sizes.length (sumL sizes) (dblF (ws.take j) sizes) from dbl_ok HS.out (fun k hk => HK.out k (List.mem_of_mem_take hk)))
    have HDL := Lib.hid (show ((dblF (ws.take j) sizes).2).length ≤ 16 * (ws.take j).length by have := dbl_len HS.out (ws.take j) (sizes, []) HS.out (fun k hk => HK.out k (List.mem_of_mem_take hk)); simpa [dblF] using this)
    obtain ⟨b1, o1, rfl, -, hc⟩ := H.out.ix hlt
    have f1 := Chg.cell hg.out (hc j hlt) id
    rw [ix_eq hlt] at f1
    have hkk := HK.out ws[j] (List.getElem_mem hlt)
    obtain ⟨k, hkd⟩ : ∃ k, ws[j] = k := ⟨_, rfl⟩
    rw [hkd] at f1 hkk HT
    obtain ⟨i, hid⟩ : ∃ i, (absI k - 1).toNat = i := ⟨_, rfl⟩
    have hla := letter_at hkk
    rw [hid] at hla
    obtain ⟨hi1, hia⟩ := hla
    generalize hP : dblF (ws.take j) sizes = P at *
    obtain ⟨N, R⟩ := P
    dsimp only at ho hn HDL
    have hNl : N.length = sizes.length := HD.out.now.len
    obtain ⟨nb, no, rfl, hSn, hnb, hcs⟩ := hn.out.cells (by omega)
    obtain ⟨p1, p2⟩ := hcs i (by omega)
    obtain ⟨p3, p4⟩ := hcs (i + 1) (by omega)
    have ha := HD.out.now.at_ (show i < sizes.length by omega)
    have hb := HD.out.now.at_ hi1
    dsimp only at ha hb
    obtain ⟨an, han⟩ : ∃ an : Nat, N.getD i 0 = an := ⟨(N.getD i 0).toNat, by omega⟩
    obtain ⟨bn, hbn⟩ : ∃ bn : Nat, N.getD (i + 1) 0 = bn := ⟨(N.getD (i + 1) 0).toNat, by omega⟩
    have hsp := sum_split HD.out.now hi1
    have hsl := sumL_nonneg sizes HS.out.each
    have hsum : sumL N = sumL sizes := HD.out.sum
    dsimp only at hsp
    rw [han, hbn] at hsp
    rw [han] at p1 ha
    rw [hbn] at p3 hb
    have HCS := Lib.hid hcs
    have HE := Lib.hid (fun x (hx : x ∈ N.take i) => (show 0 ≤ x ∧ x ≤ 1000 by have := HD.out.now.each x (List.mem_of_mem_take hx); omega))
    have HONE := Lib.hid (show dblOne N k = swapTo (sumL (N.take i)) (sgnI k) an bn by unfold dblOne; rw [hid, han, hbn]; rfl)
    have HSW := Lib.hid (show swapAt N i = (N.set i bn).set (i + 1) an by unfold swapAt; rw [han, hbn])
    have HID := Lib.hid hid
    have hne : absI k ≠ 0 := by omega
    have hquo := quo_self hkk.1
    have hsg := sgnI_cases k
    have hkb : -1000000 ≤ k ∧ k ≤ 1000000 := by omega
    have HLL := Lib.hid (show R.length + (swapTo (sumL (N.take i)) (sgnI k) an bn).length ≤ 1099511627776 by
      have h1 := HDL.out
      rw [List.length_take] at h1
      rw [swapTo_len]
      have : bn * an ≤ 4 * 4 := Nat.mul_le_mul (by omega) (by omega)
      omega)
    clear hc hcs hid hP hkd han hbn
    obtain ⟨wo, rfl⟩ : ∃ wo : World, wo = wr := ⟨_, rfl⟩
    have HC0 := Lib.hid (show ∀ t, t < N.length → wo.cell? ⟨nb, no + t, none⟩ = some (.int .i64 (N.getD t 0)) from fun t ht => (HCS.out t ht).1)
    have HN9 := Lib.hid (show ∀ t, t < N.length → 1 ≤ N.getD t 0 ∧ N.getD t 0 ≤ 4 from fun t ht => HD.out.now.at_ (by rw [hNl] at ht; exact ht))
    have HNL := Lib.hid hNl
    have hNl2 : i + 1 < N.length ∧ N.length ≤ sizes.length := by omega
    have hwi : IntKind.i64.wrap ((i : Int) + 1 - 1) = i := by rw [Int.add_sub_cancel]; exact IntWalk.i64_in _ (by omega)
    have HSP := Lib.hid (fun t => sum_take_le (HD.out.now.each) t)
    clear hNl
    go_wp2_with fail
    refine (sAbs_any k _ hkb).mono ?_
    rintro e w' ⟨rfl, rfl⟩
    rw [hia]
    have HIA := Lib.hid hia
    have HQ := Lib.hid hquo
    have HW2 := Lib.hid hwi
    clear hia hquo hne hwi
    go_wp2
    go_loop [9, 10] (fun p t => ∃ q : Nat, q ≤ i ∧ t = .int .i64 q ∧ p = .int .i64 (sumL (N.take q))) (fun _ t => i - (intOf t).toNat)
    case atStart => exact ⟨0, by omega, rfl, rfl⟩
    case round =>
    obtain ⟨q, hq, rfl, rfl⟩ := hrel
    by_cases hql : q < i
    · have fq := HC0.out q (by omega)
      have hq9 := HN9.out q (by omega)
      have hsb := HSP.out q
      have hsb1 := HSP.out (q + 1)
      have HSS := Lib.hid (sum_take_succ (show q < N.length by omega))
      have hlen := List.length_take_le q N
      obtain ⟨y, hy⟩ : ∃ y, N.getD q 0 = y := ⟨_, rfl⟩
      rw [hy] at fq hq9 HSS
      clear hy
      go_wp2
      go_round
      case rel => exact ⟨q + 1, by omega, by go_num, by rw [HSS.out]⟩
      case measure => first | (simp [intOf]; done) | (simp [intOf]; omega)
    obtain rfl : q = i := by omega
    have hsb := HSP.out q
    have hlenq := List.length_take_le q N
    have hcase : (decide (k < 0) = true ∧ sgnI k = -1) ∨ (decide (k < 0) = false ∧ sgnI k = 1) := by
      unfold sgnI
      by_cases h : k < 0
      · exact .inl ⟨decide_eq_true h, if_pos h⟩
      · exact .inr ⟨decide_eq_false h, if_neg h⟩
    clear hsg
    have wi1 : IntKind.i64.wrap ((q : Int) + 1) = (q : Int) + 1 := IntWalk.i64_in _ (by omega)
    have wi0 := HW2.out
    have wi2 : IntKind.i64.wrap (q : Int) = (q : Int) := IntWalk.i64_in _ (by omega)
    have b0 : (0 : Int) ≤ (q : Int) := by omega
    have b2' : (q : Int) < (sizes.length : Int) := by omega
    have b3' : (q : Int) + 1 < (sizes.length : Int) := by omega
    have b4' : (0 : Int) ≤ (q : Int) + 1 := by omega
    have b5' : ((q : Int) + 1).toNat = q + 1 := by omega
    have hnb2 : nb < w1.heap.size := hSn.2
    have hnbw : w.heap.size ≤ nb := hSn.1
    rcases hcase with ⟨hneg, hsg⟩ | ⟨hneg, hsg⟩
    all_goals
      rw [hsg] at HONE HLL
      clear hsg
      go_wp2
      go_region_held3 (fun w' => w'.cell? ⟨nb, no + q, none⟩ = some (.int .i64 (an : Int)) ∧ w'.cell? ⟨nb, no + (q + 1), none⟩ = some (.int .i64 (bn : Int)))
        (first | (exact ⟨p1, p3⟩) | (obtain ⟨q0, q1⟩ : (World.cell? _ _ = _ ∧ World.cell? _ _ = _) := (by assumption); exact ⟨Chg.cell g1 q0 id, Chg.cell g1 q1 id⟩) | (obtain ⟨q0, q1⟩ : (World.cell? _ _ = _ ∧ World.cell? _ _ = _) := (by assumption); exact ⟨Chg.cell hg1 q0 (by simp only []; omega), Chg.cell hg1 q1 (by simp only []; omega)⟩))
        (first | (go_at_call 139; refine (l03Swap_any _ (sumL (N.take q)) _ an bn (by omega) (by first | exact .inl rfl | exact .inr rfl) (by omega) (by omega)).mono ?_; rintro e w5 ⟨v5, rfl, k1, g1⟩; obtain ⟨A5, c5, rfl, hl5, hc5, -⟩ := k1.shape; have K5 := Lib.hid k1; have G5 := Lib.hid (Chg.trans (show Up wo _ from (by repeat (first | exact Chg.refl _ _ | apply Chg.drew | apply Chg.drewN | refine Chg.alloc ?_ _))) g1); have HO5 := Lib.hid (ho.out.up G5.out); have HN5 := Lib.hid (hn.out.up G5.out); have HG5 := Lib.hid (Chg.trans hg.out G5.out); have hsz5 := G5.out.size; clear k1) | (refine step_appendInts (by rfl) _ _ (by rfl) w1.heap.size _ R (by rfl) HO5.out _ _ (swapTo (sumL (N.take q)) _ an bn) (by rfl) K5.out HLL.out ?_ ?_; (first | omega | (simp; omega)); intro v6 w6 ho1 ho2 ho3 hg1; have HO6 := Lib.hid ho1; have HN6 := Lib.hid (HN5.out.keep hg1 (fun x _ hx hv => by simp only [New] at hx; omega)); have HG6 := Lib.hid (Chg.new HG5.out hg1 (fun i hi => by omega)); have hsz6 := hg1.size; clear ho1 ho2 ho3))
      have r1 := Chg.cell hg1 (Chg.cell G5.out p1 id) (by simp only []; omega)
      have r3 := Chg.cell hg1 (Chg.cell G5.out p3 id) (by simp only []; omega)
      have r2 := (Chg.frozen hg1 (Chg.cell G5.out p1 id) (by simp only []; omega)).trans ((Chg.frozen G5.out p1 id).trans p2)
      have r4 := (Chg.frozen hg1 (Chg.cell G5.out p3 id) (by simp only []; omega)).trans ((Chg.frozen G5.out p3 id).trans p4)
      clear p1 p2 p3 p4 g1 hg1
      have hnn : ¬ no + q = no + (q + 1) := by omega
      have hnn2 : ¬ no + (q + 1) = no + q := by omega
      go_wp2
      have hgx : Chg (fun x => x = nb) w6 ((w6.setCell ⟨nb, no + q, none⟩ (.int .i64 (bn : Int))).setCell ⟨nb, no + (q + 1), none⟩ (.int .i64 (an : Int))) := (Chg.setCell (Chg.setCell (Chg.refl (fun x => x = nb) _) (.inl (show nb = nb from rfl)) _) (.inl (show nb = nb from rfl)) _)
      refine ⟨⟨j + 1, by omega, by go_num, ?_, ?_, ?_, ?_⟩, ?_⟩
      · rw [HT.out]
        simp only [dblStep]
        rw [HONE.out]
        exact HO6.out.kept hgx (fun g hg he => by have := (HO6.out.lt hg).1; omega)
      · rw [HT.out]
        simp only [dblStep]
        rw [HID.out, HSW.out]
        exact (show Ints _ _ _ _ from Ints.swap HN6.out (by omega) (by unfold I64; omega) (by unfold I64; omega))
      · exact Chg.new HG6.out hgx (fun x hx hxx => by omega)
      · have := hgx.size; omega
      · simp [intOf]; omega
end Go.Proofs.Ytmimbnpcokfnlaa
namespace Go.Proofs.Ytmimbnpcokfnlaa
open Go.ChangeShapes Go.WideShapes Go.ChangeAt Go.RowKit
theorem take_drop {α β : Type} (f : α → β) (xs : List α) (l : List β) (h : l.take xs.length = xs.map f) (hl : xs.length ≤ l.length) : l.take (xs.length - 1) = (xs.dropLast).map f := by
  rw [List.map_dropLast, ← h, List.dropLast_eq_take, List.take_take, List.length_take]
  congr 1
  omega
theorem OwnI.open_ {w : World} {base : Nat} {v : Value} {xs : List Int} (h : OwnI w base v xs) (hp : 0 < xs.length) : ∃ g cap, v = .slice (some ⟨g, 0, none⟩) xs.length cap ∧ xs.length ≤ cap ∧ cap ≤ 9223372036854775807 ∧ (∀ j, (hj : j < xs.length) → w.cell? ⟨g, j, none⟩ = some (.int .i64 xs[j])) ∧ OwnI w base (.slice (some ⟨g, 0, none⟩) (xs.length - 1) cap) xs.dropLast := by
  have hi := h.ints
  obtain ⟨⟨h1, h2⟩, h3⟩ := h
  rcases h2 with h2 | ⟨g, cap, cur, rfl, hg, hh, hc, hm, hs, ht⟩
  · omega
  · have hm' : cap ≤ 9223372036854775807 := by unfold Go.maxLen at hm; omega
    obtain ⟨b, o, he, -, hcs⟩ := Ints.ix hi hp
    obtain ⟨rfl, rfl⟩ : g = b ∧ 0 = o := by simpa using he
    have hsz : cur.toList.length = cap := by simpa using hs
    refine ⟨g, cap, rfl, hc, hm', fun j hj => ?_, ⟨⟨by simp, .inr ⟨g, cap, cur, by rw [List.length_dropLast], hg, hh, by rw [List.length_dropLast]; omega, hm, hs, ?_⟩⟩, fun x hx => h3 x ((List.dropLast_sublist xs).subset hx)⟩⟩
    · have := hcs j hj
      rw [ix_eq hj, Nat.zero_add] at this
      exact this
    · rw [Nat.mul_one] at ht ⊢
      rw [List.length_dropLast]
      exact take_drop _ xs _ ht (by rw [hsz]; exact hc)
theorem redStep_yes {out : List Int} {k : Int} (hp : 0 < out.length) (h : out[out.length - 1] = -k) : redStep out k = out.dropLast := by
  unfold redStep
  rw [if_pos]
  rw [List.getLast?_eq_getElem?, List.getElem?_eq_getElem (by omega), h]
theorem redStep_no {out : List Int} {k : Int} (hp : 0 < out.length) (h : ¬ out[out.length - 1] = -k) : redStep out k = out ++ [k] := by
  unfold redStep
  rw [if_neg]
  rw [List.getLast?_eq_getElem?, List.getElem?_eq_getElem (by omega)]
  simpa using h
theorem redStep_nil {out : List Int} {k : Int} (hp : out.length = 0) : redStep out k = out ++ [k] := by
  obtain rfl := List.eq_nil_of_length_eq_zero hp
  rfl
set_option maxHeartbeats 4000000 in
theorem reduced_any (w : World) (S : Nat → Prop) (v : Value) (ws : List Int) (h : Ints w S v ws) (hl : ws.length ≤ 100000) (hb : ∀ x ∈ ws, -1000 ≤ x ∧ x ≤ 1000) :
    Calls Try.prog 80 #[v] w fun e w' => ∃ v', e = .returned v' ∧ Ints w' (New w.heap.size w'.heap.size) v' (redM ws) ∧ Up w w' := by
  obtain ⟨A, c, rfl, hlc, hcm, -⟩ := h.shape
  have H := Lib.hid h
  have HX := Lib.hid (fun j (hj : j < ws.length) => (show I64 ws[j] from (by have := hb ws[j] (List.getElem_mem hj); unfold I64; omega)))
  clear h
  obtain ⟨i0, hi, hz0, hz1, hz2⟩ := info_parts info22
  have hmk : ∀ u : World, (Instr.makeSlice 22 (.int .i64 0) (.int .i64 (ws.length : Int))).run Try.prog u =
      .ok (.slice (some ⟨u.heap.size, 0, none⟩) 0 ws.length) (u.alloc (.cells (madeCells #[.int .i64 0] ws.length) 2)) := fun u => by
    have h := run_make (P := Try.prog) u 22 2 i0 (.int .i64 0) Try.underlying22 hi hz0 .i64 .i64 (0 : Int) (ws.length : Int) (by omega) (by omega) (by rw [hz2]; omega) (by omega)
    simpa [hz1, Value.cells] using h
  have M0 := Lib.hid (show OwnI (w.alloc (.cells (madeCells #[.int .i64 0] ws.length) 2)) w.heap.size (.slice (some ⟨w.heap.size, 0, none⟩) 0 ws.length) [] from ⟨⟨rfl, .inr ⟨w.heap.size, ws.length, madeCells #[.int .i64 0] ws.length, rfl, Nat.le_refl _, heap_new_at rfl, Nat.zero_le _, by unfold Go.maxLen; omega, (size_madeCells _ _).trans (Nat.mul_one _).symm, by simp⟩⟩, by simp⟩)
  go_enter Try.func80, Try.ntmps80
  go_wp2
  have Hi := Lib.hid hmk
  clear hmk hi hz0 hz1 hz2
  go_loopw [3, 5, 11] (fun v _ i wr => ∃ j : Nat, j ≤ ws.length ∧ i = .int .i64 j ∧ Hid (OwnI wr w.heap.size v (redM (ws.take j))) ∧ Hid (Up w wr)) (fun _ _ i _ => ws.length - (intOf i).toNat)
  case atStart => exact ⟨0, by omega, rfl, M0.out, (Chg.refl _ _).alloc _⟩
  clear M0
  case round =>
    obtain ⟨j, hj, rfl, ho, hg⟩ := hrel
    by_cases hlt : j < ws.length
    rotate_left
    · obtain rfl : j = ws.length := by omega
      go_wp2
      go_ret
      exact ⟨_, rfl, by have := ho.out.ints; rw [List.take_length] at this; exact this, hg.out⟩
    obtain ⟨b1, o1, rfl, -, hc⟩ := H.out.ix hlt
    have f1 := Chg.cell hg.out (hc j hlt) id
    rw [ix_eq hlt] at f1
    have HI := Lib.hid (HX.out j hlt)
    have HT := Lib.hid (redM_take hlt)
    have hrl := redM_len (ws.take j)
    rw [List.length_take] at hrl
    clear hc
    obtain ⟨R, hR⟩ : ∃ R, redM (ws.take j) = R := ⟨_, rfl⟩
    rw [hR] at ho hrl HT
    obtain ⟨k, hk⟩ : ∃ k, ws[j] = k := ⟨_, rfl⟩
    have hkb : -1000 ≤ k ∧ k ≤ 1000 := by rw [← hk]; exact hb ws[j] (List.getElem_mem hlt)
    rw [hk] at f1 HT HI
    clear hR hk
    have HL := Lib.hid (show R.length ≤ 1099511627776 by omega)
    have hsz := hg.out.size
    skip
    by_cases hp : 0 < R.length
    rotate_left
    · have hp0 : R.length = 0 := by omega
      obtain ⟨Av, cv, rfl, -, -, -⟩ := ho.out.ints.shape
      have hdp : decide ((0 : Int) < (R.length : Int)) = false := decide_eq_false (by omega)
      have HS := Lib.hid (show redM (ws.take (j + 1)) = R ++ [k] by rw [HT.out]; exact redStep_nil hp0)
      go_wp2_with (first | (at_builtin; refine wp_append_int rfl _ _ rfl w.heap.size _ R rfl (OwnI.alloc (ho.out.up (by repeat (first | exact Chg.refl _ _ | apply Chg.drew | apply Chg.drewN | refine Chg.alloc ?_ _))) _) _ k rfl (cell_new _ _ _ _) HI.out HL.out ?_ ?_; (simp; omega); intro v' w1 ho1 _ hg1; have HO := Lib.hid ho1; have HG := Lib.hid (Chg.new (Chg.alloc (Chg.trans hg.out (by repeat (first | exact Chg.refl _ _ | apply Chg.drew | apply Chg.drewN | refine Chg.alloc ?_ _))) _) hg1 (fun i hi => by omega)); clear ho1 hg1))
      go_roundw
      case rel => exact ⟨j + 1, by omega, by go_num, by rw [HS.out]; exact HO.out, HG.out⟩
      case measure => simp [intOf]; omega
    obtain ⟨g, cap, rfl, hcap, hcap2, hcs, hdrop⟩ := ho.out.open_ hp
    have hdp : decide ((0 : Int) < (R.length : Int)) = true := decide_eq_true (by omega)
    have hll : R.length - 1 < R.length := by omega
    have fl := hcs (R.length - 1) hll
    have hcast : ((R.length - 1 : Nat) : Int) = (R.length : Int) - 1 := by omega
    have HD := Lib.hid hdrop
    clear hcs hdrop
    obtain ⟨z, hz⟩ : ∃ z, R[R.length - 1] = z := ⟨_, rfl⟩
    rw [hz] at fl
    skip
    by_cases he : z = -k
    · have hed : (z == -k) = true := by simpa using he
      have HS := Lib.hid (show redM (ws.take (j + 1)) = R.dropLast by rw [HT.out]; exact redStep_yes hp (hz.trans he))
      clear hz he
      go_wp2
      go_roundw
      case rel => exact ⟨j + 1, by omega, by go_num, by rw [HS.out]; exact HD.out.up (by repeat (first | exact Chg.refl _ _ | apply Chg.drew | apply Chg.drewN | refine Chg.alloc ?_ _)), Chg.trans hg.out (by repeat (first | exact Chg.refl _ _ | apply Chg.drew | apply Chg.drewN | refine Chg.alloc ?_ _))⟩
      case measure => simp [intOf]; omega
    have hed : (z == -k) = false := by simpa using he
    have HE := Lib.hid (show redStep R k = R ++ [k] from redStep_no hp (by rw [hz]; exact he))
    clear hz he HD
    have HS := Lib.hid (show redM (ws.take (j + 1)) = R ++ [k] by rw [HT.out]; exact HE.out)
    go_wp2_with (first | (at_builtin; refine wp_append_int rfl _ _ rfl w.heap.size _ R rfl (OwnI.alloc (ho.out.up (by repeat (first | exact Chg.refl _ _ | apply Chg.drew | apply Chg.drewN | refine Chg.alloc ?_ _))) _) _ k rfl (cell_new _ _ _ _) HI.out HL.out ?_ ?_; (simp; omega); intro v' w1 ho1 _ hg1; have HO := Lib.hid ho1; have HG := Lib.hid (Chg.new (Chg.alloc (Chg.trans hg.out (by repeat (first | exact Chg.refl _ _ | apply Chg.drew | apply Chg.drewN | refine Chg.alloc ?_ _))) _) hg1 (fun i hi => by omega)); clear ho1 hg1))
    go_roundw
    case rel => exact ⟨j + 1, by omega, by go_num, by rw [HS.out]; exact HO.out, HG.out⟩
    case measure => simp [intOf]; omega
set_option maxHeartbeats 4000000 in
theorem l03Reduce_any (w : World) (S : Nat → Prop) (v : Value) (ws : List Int) (h : Ints w S v ws) (hl : ws.length ≤ 100000) (hb : ∀ x ∈ ws, -1000 ≤ x ∧ x ≤ 1000) :
    Calls Try.prog 75 #[v] w fun e w' => ∃ v', e = .returned v' ∧ Ints w' (New w.heap.size w'.heap.size) v' (redM ws) ∧ Up w w' := by
  obtain ⟨A, c, rfl, hlc, hcm, -⟩ := h.shape
  have H := Lib.hid h
  have HX := Lib.hid (fun j (hj : j < ws.length) => (show I64 ws[j] from (by have := hb ws[j] (List.getElem_mem hj); unfold I64; omega)))
  clear h
  have M0 := Lib.hid (OwnI.made w w.heap.size (Nat.le_refl _))
  go_enter Try.func75, Try.ntmps75
  go_wp2
  go_loopw [3, 4] (fun v i wr => ∃ j : Nat, j ≤ ws.length ∧ i = .int .i64 j ∧ Hid (OwnI wr w.heap.size v (redM (ws.take j))) ∧ Hid (Up w wr)) (fun _ i _ => ws.length - (intOf i).toNat)
  case atStart => exact ⟨0, by omega, rfl, M0.out, (Chg.refl _ _).alloc _⟩
  clear M0
  case round =>
    obtain ⟨j, hj, rfl, ho, hg⟩ := hrel
    by_cases hlt : j < ws.length
    rotate_left
    · obtain rfl : j = ws.length := by omega
      go_wp2
      go_ret
      exact ⟨_, rfl, by have := ho.out.ints; rw [List.take_length] at this; exact this, hg.out⟩
    obtain ⟨b1, o1, rfl, -, hc⟩ := H.out.ix hlt
    have f1 := Chg.cell hg.out (hc j hlt) id
    rw [ix_eq hlt] at f1
    have HI := Lib.hid (HX.out j hlt)
    have HT := Lib.hid (redM_take hlt)
    have hrl := redM_len (ws.take j)
    rw [List.length_take] at hrl
    clear hc
    obtain ⟨R, hR⟩ : ∃ R, redM (ws.take j) = R := ⟨_, rfl⟩
    rw [hR] at ho hrl HT
    obtain ⟨k, hk⟩ : ∃ k, ws[j] = k := ⟨_, rfl⟩
    have hkb : -1000 ≤ k ∧ k ≤ 1000 := by rw [← hk]; exact hb ws[j] (List.getElem_mem hlt)
    rw [hk] at f1 HT HI
    clear hR hk
    have HL := Lib.hid (show R.length ≤ 1099511627776 by omega)
    have hsz := hg.out.size
    skip
    by_cases hp : 0 < R.length
    rotate_left
    · have hp0 : R.length = 0 := by omega
      obtain ⟨Av, cv, rfl, -, -, -⟩ := ho.out.ints.shape
      have hdp : decide ((0 : Int) < (R.length : Int)) = false := decide_eq_false (by omega)
      have HS := Lib.hid (show redM (ws.take (j + 1)) = R ++ [k] by rw [HT.out]; exact redStep_nil hp0)
      go_wp2
      go_quiet (fail)
      go_wp2_with (first | (at_builtin; refine wp_append_int rfl _ _ rfl w.heap.size _ R rfl (OwnI.alloc (ho.out.up (by repeat (first | exact Chg.refl _ _ | apply Chg.drew | apply Chg.drewN | refine Chg.alloc ?_ _))) _) _ k rfl (cell_new _ _ _ _) HI.out HL.out ?_ ?_; (simp; omega); intro v' w1 ho1 _ hg1; have HO := Lib.hid ho1; have HG := Lib.hid (Chg.new (Chg.alloc (Chg.trans hg.out (by repeat (first | exact Chg.refl _ _ | apply Chg.drew | apply Chg.drewN | refine Chg.alloc ?_ _))) _) hg1 (fun i hi => by omega)); clear ho1 hg1))
      go_roundw
      case rel => exact ⟨j + 1, by omega, by go_num, by rw [HS.out]; exact HO.out, HG.out⟩
      case measure => simp [intOf]; omega
    obtain ⟨g, cap, rfl, hcap, hcap2, hcs, hdrop⟩ := ho.out.open_ hp
    have hdp : decide ((0 : Int) < (R.length : Int)) = true := decide_eq_true (by omega)
    have hll : R.length - 1 < R.length := by omega
    have fl := hcs (R.length - 1) hll
    have hcast : ((R.length - 1 : Nat) : Int) = (R.length : Int) - 1 := by omega
    have HD := Lib.hid hdrop
    clear hcs hdrop
    obtain ⟨z, hz⟩ : ∃ z, R[R.length - 1] = z := ⟨_, rfl⟩
    rw [hz] at fl
    skip
    by_cases he : z = -k
    · have hed : (z == -k) = true := by simpa using he
      have HS := Lib.hid (show redM (ws.take (j + 1)) = R.dropLast by rw [HT.out]; exact redStep_yes hp (hz.trans he))
      clear hz he
      go_wp2
      go_quiet (fail)
      go_wp2
      go_roundw
      case rel => exact ⟨j + 1, by omega, by go_num, by rw [HS.out]; exact HD.out.up (by repeat (first | exact Chg.refl _ _ | apply Chg.drew | apply Chg.drewN | refine Chg.alloc ?_ _)), Chg.trans hg.out (by repeat (first | exact Chg.refl _ _ | apply Chg.drew | apply Chg.drewN | refine Chg.alloc ?_ _))⟩
      case measure => simp [intOf]; omega
    have hed : (z == -k) = false := by simpa using he
    have HE := Lib.hid (show redStep R k = R ++ [k] from redStep_no hp (by rw [hz]; exact he))
    clear hz he HD
    have HS := Lib.hid (show redM (ws.take (j + 1)) = R ++ [k] by rw [HT.out]; exact HE.out)
    go_wp2
    go_quiet (fail)
    go_wp2_with (first | (at_builtin; refine wp_append_int rfl _ _ rfl w.heap.size _ R rfl (OwnI.alloc (ho.out.up (by repeat (first | exact Chg.refl _ _ | apply Chg.drew | apply Chg.drewN | refine Chg.alloc ?_ _))) _) _ k rfl (cell_new _ _ _ _) HI.out HL.out ?_ ?_; (simp; omega); intro v' w1 ho1 _ hg1; have HO := Lib.hid ho1; have HG := Lib.hid (Chg.new (Chg.alloc (Chg.trans hg.out (by repeat (first | exact Chg.refl _ _ | apply Chg.drew | apply Chg.drewN | refine Chg.alloc ?_ _))) _) hg1 (fun i hi => by omega)); clear ho1 hg1))
    go_roundw
    case rel => exact ⟨j + 1, by omega, by go_num, by rw [HS.out]; exact HO.out, HG.out⟩
    case measure => simp [intOf]; omega
end Go.Proofs.Ytmimbnpcokfnlaa
namespace Go.Proofs.Ytmimbnpcokfnlaa
open Go.ChangeShapes Go.WideShapes Go.ChangeAt Go.RowKit
def colWord (b : BraidM) (sz : List Int) : List Int := redM (dblM (redM b.ws) sz)
def colCode (b : BraidM) (sz : List Int) : Int :=
  if braidB b.n b.ws = false then 1 else if (sz.length : Int) ≠ b.n then 1 else if sz.any badSize = true then 2 else if 12 < sumL sz then 5 else if 40 < (colWord b sz).length then 5 else 0
def colOut (b : BraidM) (sz : List Int) : BraidM := if colCode b sz = 0 then ⟨sumL sz, colWord b sz⟩ else ⟨0, []⟩
theorem colOut_no {b : BraidM} {sz : List Int} {c : Int} (h : colCode b sz = c) (hc : c ≠ 0) : colOut b sz = ⟨0, []⟩ := if_neg (by rw [h]; exact hc)
theorem colOut_yes {b : BraidM} {sz : List Int} (h : colCode b sz = 0) : colOut b sz = ⟨sumL sz, colWord b sz⟩ := if_pos h
theorem colCode_a {b : BraidM} {sz : List Int} (h : braidB b.n b.ws = false) : colCode b sz = 1 := by unfold colCode; rw [if_pos h]
theorem colCode_b {b : BraidM} {sz : List Int} (h : braidB b.n b.ws = true) (h2 : (sz.length : Int) ≠ b.n) : colCode b sz = 1 := by unfold colCode; rw [if_neg (by rw [h]; simp), if_pos h2]
theorem colCode_c {b : BraidM} {sz : List Int} (h : braidB b.n b.ws = true) (h2 : (sz.length : Int) = b.n) (h3 : sz.any badSize = true) : colCode b sz = 2 := by
  unfold colCode; rw [if_neg (by rw [h]; simp), if_neg (by rw [h2]; simp), if_pos h3]
theorem colCode_d {b : BraidM} {sz : List Int} (h : braidB b.n b.ws = true) (h2 : (sz.length : Int) = b.n) (h3 : sz.any badSize = false) (h4 : 12 < sumL sz) : colCode b sz = 5 := by
  unfold colCode; rw [if_neg (by rw [h]; simp), if_neg (by rw [h2]; simp), if_neg (by rw [h3]; simp), if_pos h4]
theorem colCode_e {b : BraidM} {sz : List Int} (h : braidB b.n b.ws = true) (h2 : (sz.length : Int) = b.n) (h3 : sz.any badSize = false) (h4 : ¬ 12 < sumL sz) (h5 : 40 < (colWord b sz).length) : colCode b sz = 5 := by
  unfold colCode; rw [if_neg (by rw [h]; simp), if_neg (by rw [h2]; simp), if_neg (by rw [h3]; simp), if_neg h4, if_pos h5]
theorem colCode_f {b : BraidM} {sz : List Int} (h : braidB b.n b.ws = true) (h2 : (sz.length : Int) = b.n) (h3 : sz.any badSize = false) (h4 : ¬ 12 < sumL sz) (h5 : ¬ 40 < (colWord b sz).length) : colCode b sz = 0 := by
  unfold colCode; rw [if_neg (by rw [h]; simp), if_neg (by rw [h2]; simp), if_neg (by rw [h3]; simp), if_neg h4, if_neg h5]
theorem sizes_of {sz : List Int} (h : sz.any badSize = false) : SizesOk sz.length sz := ⟨rfl, fun x hx => by
  have := List.any_eq_false.1 h x hx
  unfold badSize inB at this
  simpa using this⟩
/-- what is known once the arguments are right -/
structure ColOk (b : BraidM) (sz : List Int) : Prop where
  sz_ : SizesOk sz.length sz
  w0 : ∀ x ∈ b.ws, -1000 ≤ x ∧ x ≤ 1000
  l0 : b.ws.length ≤ 40
  w1 : ∀ k ∈ redM b.ws, k ≠ 0 ∧ 1 - (sz.length : Int) ≤ k ∧ k ≤ sz.length - 1
  l1 : (redM b.ws).length ≤ 1000
  m : sz.length ≤ 12
  w2 : ∀ x ∈ dblM (redM b.ws) sz, x ≠ 0 ∧ 1 - sumL sz ≤ x ∧ x ≤ sumL sz - 1
  l2 : (dblM (redM b.ws) sz).length ≤ 100000
  s0 : 0 ≤ sumL sz ∧ sumL sz ≤ 48
theorem col_ok {b : BraidM} {sz : List Int} (h : braidB b.n b.ws = true) (h2 : (sz.length : Int) = b.n) (h3 : sz.any badSize = false) : ColOk b sz := by
  obtain ⟨g1, g2, g3, g4⟩ := braidB_iff.1 h
  have hs := sizes_of h3
  have hsum := sumL_nonneg sz hs.each
  have hl1 := redM_len b.ws
  have hw1 : ∀ k ∈ redM b.ws, k ≠ 0 ∧ 1 - (sz.length : Int) ≤ k ∧ k ≤ sz.length - 1 := fun k hk => by have := g4 k (redM_mem hk); rw [h2]; exact this
  have hd := dbl_ok hs hw1
  have hdl := dbl_len hs (redM b.ws) (sz, []) hs hw1
  refine ⟨hs, fun x hx => by have := g4 x hx; omega, g3, hw1, by omega, by omega, hd.out, ?_, by omega⟩
  have : (dblM (redM b.ws) sz).length ≤ 16 * (redM b.ws).length := by simpa [dblM, dblF] using hdl
  omega
theorem ColOk.b2 {b : BraidM} {sz : List Int} (h : ColOk b sz) : ∀ x ∈ dblM (redM b.ws) sz, -1000 ≤ x ∧ x ≤ 1000 := fun x hx => by have := h.w2 x hx; have := h.s0; omega
theorem ColOk.braid {b : BraidM} {sz : List Int} (h : ColOk b sz) : braidB (sumL sz) (colWord b sz) = (decide (sumL sz ≤ 12) && decide ((colWord b sz).length ≤ 40)) := by
  rw [Bool.eq_iff_iff, braidB_iff, Bool.and_eq_true, decide_eq_true_eq, decide_eq_true_eq]
  constructor
  · rintro ⟨_, h1, h2, _⟩; exact ⟨h1, h2⟩
  · rintro ⟨h1, h2⟩; exact ⟨h.s0.1, h1, h2, fun x hx => h.w2 x (redM_mem hx)⟩
theorem sz_nonneg {b : BraidM} {sz : List Int} (h : ColOk b sz) : ∀ x ∈ sz, 0 ≤ x ∧ x ≤ 1000 := fun x hx => by have := h.sz_.each x hx; omega
theorem sum_bad_le {xs : List Int} (h : xs.any badSize = false) : 0 ≤ sumL xs ∧ sumL xs ≤ 4 * xs.length := sumL_nonneg xs (sizes_of h).each
theorem any_take {xs : List Int} {j : Nat} (h : j < xs.length) (h1 : (xs.take j).any badSize = false) (h2 : badSize xs[j] = false) : (xs.take (j + 1)).any badSize = false := by
  rw [List.take_succ_eq_append_getElem h, List.any_append, h1]
  simp [h2]
set_option linter.unusedVariables false in
set_option maxRecDepth 100000 in
set_option maxHeartbeats 8000000 in
theorem ColumnBraid_any (w : World) (S S2 : Nat → Prop) (v u : Value) (b : BraidM) (sz : List Int) (h : BraidV w S v b) (h2 : Ints w S2 u sz) :
    Calls Try.prog 27 #[v, u] w fun e w' => ∃ v', e = .returned (.tuple #[v', .int .i64 (colCode b sz)]) ∧ BraidV w' (New w.heap.size w'.heap.size) v' (colOut b sz) ∧ Up w w' := by
  have hii : I64 b.n := by obtain ⟨_, _, _, h1⟩ := h; exact h1
  obtain ⟨A, c, rfl, h4, h5, h6⟩ := openBraid h
  obtain ⟨A2, c2, rfl, h25, h26, -⟩ := h2.shape
  have HH := Lib.hid h
  have HI := Lib.hid h4
  have HJ := Lib.hid h2
  have HII := Lib.hid hii
  have U0 := Lib.hid (Chg.refl Nowhere w)
  clear h h4 h2 hii
  cases hb : braidB b.n b.ws with
  | false =>
    have HB := Lib.hid hb
    have HE := Lib.hid (colCode_a (sz := sz) hb)
    have HO := Lib.hid (colOut_no HE.out (by omega))
    clear hb
    have U_1 := Lib.hid (Chg.trans U0.out ((Chg.refl Nowhere w).alloc (.cells #[.int .i64 b.n, .slice A b.ws.length c] 44)))
    clear U0
    have I_2 := Lib.hid (HI.out.up ((Chg.refl Nowhere w).alloc (.cells #[.int .i64 b.n, .slice A b.ws.length c] 44)))
    clear HI
    have J_3 := Lib.hid (HJ.out.up ((Chg.refl Nowhere w).alloc (.cells #[.int .i64 b.n, .slice A b.ws.length c] 44)))
    clear HJ
    have H_4 := Lib.hid (HH.out.up ((Chg.refl Nowhere w).alloc (.cells #[.int .i64 b.n, .slice A b.ws.length c] 44)))
    clear HH
    have q0_5 := (show (w.alloc (.cells #[.int .i64 b.n, .slice A b.ws.length c] 44)).cell? ⟨w.heap.size, 0, none⟩ = some (.int .i64 b.n) from cell_new _ _ _ _)
    have q1_6 := (show (w.alloc (.cells #[.int .i64 b.n, .slice A b.ws.length c] 44)).cell? ⟨w.heap.size, 1, none⟩ = some (.slice A b.ws.length c) from cell_new _ _ _ _)
    have hbx7 : w.heap.size < (w.alloc (.cells #[.int .i64 b.n, .slice A b.ws.length c] 44)).heap.size := by simp
    go_enter Try.func27, Try.ntmps27
    go_wp2_with fail
    refine (ValidBraid_any _ S _ b (H_4.out.up (by repeat (first | exact Chg.refl _ _ | apply Chg.drew | apply Chg.drewN | refine Chg.alloc ?_ _)))).mono ?_
    rintro e w8 ⟨rfl, g1⟩
    have G1 := Lib.hid g1
    have hz8 := G1.out.size
    clear g1
    have U_9 := Lib.hid (Chg.trans U_1.out (Chg.trans (by repeat (first | exact Chg.refl _ _ | apply Chg.drew | apply Chg.drewN | refine Chg.alloc ?_ _)) G1.out))
    clear U_1
    have I_10 := Lib.hid (I_2.out.up (Chg.trans (by repeat (first | exact Chg.refl _ _ | apply Chg.drew | apply Chg.drewN | refine Chg.alloc ?_ _)) G1.out))
    clear I_2
    have J_11 := Lib.hid (J_3.out.up (Chg.trans (by repeat (first | exact Chg.refl _ _ | apply Chg.drew | apply Chg.drewN | refine Chg.alloc ?_ _)) G1.out))
    clear J_3
    have H_12 := Lib.hid (H_4.out.up (Chg.trans (by repeat (first | exact Chg.refl _ _ | apply Chg.drew | apply Chg.drewN | refine Chg.alloc ?_ _)) G1.out))
    clear H_4
    have q0_13 := Chg.cell (Chg.trans (by repeat (first | exact Chg.refl _ _ | apply Chg.drew | apply Chg.drewN | refine Chg.alloc ?_ _)) G1.out) q0_5 id
    clear q0_5
    have q1_14 := Chg.cell (Chg.trans (by repeat (first | exact Chg.refl _ _ | apply Chg.drew | apply Chg.drewN | refine Chg.alloc ?_ _)) G1.out) q1_6 id
    clear q1_6
    obtain ⟨y0_15c, y0_15f⟩ := (show CellF w8 ⟨w.heap.size + 1, 0, none⟩ (.int .i64 0) from CellF.up G1.out (by repeat (first | ((refine cellF_at ?_ rfl); (simp; done)) | refine CellF.up ((Chg.refl _ _).alloc _) ?_)))
    obtain ⟨y1_16c, y1_16f⟩ := (show CellF w8 ⟨w.heap.size + 1, 1, none⟩ (.slice none 0 0) from CellF.up G1.out (by repeat (first | ((refine cellF_at ?_ rfl); (simp; done)) | refine CellF.up ((Chg.refl _ _).alloc _) ?_)))
    clear G1
    have hzz : w.heap.size + 2 ≤ w8.heap.size := by have := hz8; simp at this; omega
    rw [HB.out]
    clear H_12
    go_wp2
    have HC := Lib.hid (Chg.setCell (Chg.setCell (Chg.refl (fun b => b = w.heap.size + 1) w8) (p := ⟨w.heap.size + 1, 0, none⟩) (.inl (show w.heap.size + 1 = w.heap.size + 1 from rfl)) (.int .i64 (0))) (p := ⟨w.heap.size + 1, 1, none⟩) (.inl (show w.heap.size + 1 = w.heap.size + 1 from rfl)) (.slice none 0 0))
    exact bodyPost_ret (v := .tuple #[.agg #[.int .i64 (0), .slice none 0 0], .int .i64 1]) (by simp [results, Try.results27, go_sem, y0_15c, y1_16c]) rfl ⟨_, ret_mi HE.out.symm, by rw [HO.out]; exact ⟨_, rfl, Ints.nil _ _ _ _ (by omega), (show I64 (0) by unfold I64; omega)⟩, Chg.new (Chg.trans U_9.out (by repeat (first | exact Chg.refl _ _ | apply Chg.drew | apply Chg.drewN | refine Chg.alloc ?_ _))) HC.out (fun i hi hd => by omega)⟩
  | true =>
    have HB := Lib.hid hb
    by_cases hn : (sz.length : Int) = b.n
    rotate_left
    · have hn2 : ((sz.length : Int) != b.n) = true := by simpa using hn
      have HE := Lib.hid (colCode_b hb hn)
      have HO := Lib.hid (colOut_no HE.out (by omega))
      clear hb hn
      have U_17 := Lib.hid (Chg.trans U0.out ((Chg.refl Nowhere w).alloc (.cells #[.int .i64 b.n, .slice A b.ws.length c] 44)))
      clear U0
      have I_18 := Lib.hid (HI.out.up ((Chg.refl Nowhere w).alloc (.cells #[.int .i64 b.n, .slice A b.ws.length c] 44)))
      clear HI
      have J_19 := Lib.hid (HJ.out.up ((Chg.refl Nowhere w).alloc (.cells #[.int .i64 b.n, .slice A b.ws.length c] 44)))
      clear HJ
      have H_20 := Lib.hid (HH.out.up ((Chg.refl Nowhere w).alloc (.cells #[.int .i64 b.n, .slice A b.ws.length c] 44)))
      clear HH
      have q0_21 := (show (w.alloc (.cells #[.int .i64 b.n, .slice A b.ws.length c] 44)).cell? ⟨w.heap.size, 0, none⟩ = some (.int .i64 b.n) from cell_new _ _ _ _)
      have q1_22 := (show (w.alloc (.cells #[.int .i64 b.n, .slice A b.ws.length c] 44)).cell? ⟨w.heap.size, 1, none⟩ = some (.slice A b.ws.length c) from cell_new _ _ _ _)
      have hbx23 : w.heap.size < (w.alloc (.cells #[.int .i64 b.n, .slice A b.ws.length c] 44)).heap.size := by simp
      go_enter Try.func27, Try.ntmps27
      go_wp2_with fail
      refine (ValidBraid_any _ S _ b (H_20.out.up (by repeat (first | exact Chg.refl _ _ | apply Chg.drew | apply Chg.drewN | refine Chg.alloc ?_ _)))).mono ?_
      rintro e w24 ⟨rfl, g1⟩
      have G1 := Lib.hid g1
      have hz24 := G1.out.size
      clear g1
      have U_25 := Lib.hid (Chg.trans U_17.out (Chg.trans (by repeat (first | exact Chg.refl _ _ | apply Chg.drew | apply Chg.drewN | refine Chg.alloc ?_ _)) G1.out))
      clear U_17
      have I_26 := Lib.hid (I_18.out.up (Chg.trans (by repeat (first | exact Chg.refl _ _ | apply Chg.drew | apply Chg.drewN | refine Chg.alloc ?_ _)) G1.out))
      clear I_18
      have J_27 := Lib.hid (J_19.out.up (Chg.trans (by repeat (first | exact Chg.refl _ _ | apply Chg.drew | apply Chg.drewN | refine Chg.alloc ?_ _)) G1.out))
      clear J_19
      have H_28 := Lib.hid (H_20.out.up (Chg.trans (by repeat (first | exact Chg.refl _ _ | apply Chg.drew | apply Chg.drewN | refine Chg.alloc ?_ _)) G1.out))
      clear H_20
      have q0_29 := Chg.cell (Chg.trans (by repeat (first | exact Chg.refl _ _ | apply Chg.drew | apply Chg.drewN | refine Chg.alloc ?_ _)) G1.out) q0_21 id
      clear q0_21
      have q1_30 := Chg.cell (Chg.trans (by repeat (first | exact Chg.refl _ _ | apply Chg.drew | apply Chg.drewN | refine Chg.alloc ?_ _)) G1.out) q1_22 id
      clear q1_22
      obtain ⟨y0_31c, y0_31f⟩ := (show CellF w24 ⟨w.heap.size + 1, 0, none⟩ (.int .i64 0) from CellF.up G1.out (by repeat (first | ((refine cellF_at ?_ rfl); (simp; done)) | refine CellF.up ((Chg.refl _ _).alloc _) ?_)))
      obtain ⟨y1_32c, y1_32f⟩ := (show CellF w24 ⟨w.heap.size + 1, 1, none⟩ (.slice none 0 0) from CellF.up G1.out (by repeat (first | ((refine cellF_at ?_ rfl); (simp; done)) | refine CellF.up ((Chg.refl _ _).alloc _) ?_)))
      clear G1
      have hzz : w.heap.size + 2 ≤ w24.heap.size := by have := hz24; simp at this; omega
      rw [HB.out]
      clear H_28
      go_wp2
      have HC := Lib.hid (Chg.setCell (Chg.setCell (Chg.refl (fun b => b = w.heap.size + 1) w24) (p := ⟨w.heap.size + 1, 0, none⟩) (.inl (show w.heap.size + 1 = w.heap.size + 1 from rfl)) (.int .i64 (0))) (p := ⟨w.heap.size + 1, 1, none⟩) (.inl (show w.heap.size + 1 = w.heap.size + 1 from rfl)) (.slice none 0 0))
      exact bodyPost_ret (v := .tuple #[.agg #[.int .i64 (0), .slice none 0 0], .int .i64 1]) (by simp [results, Try.results27, go_sem, y0_31c, y1_32c]) rfl ⟨_, ret_mi HE.out.symm, by rw [HO.out]; exact ⟨_, rfl, Ints.nil _ _ _ _ (by omega), (show I64 (0) by unfold I64; omega)⟩, Chg.new (Chg.trans U_25.out (by repeat (first | exact Chg.refl _ _ | apply Chg.drew | apply Chg.drewN | refine Chg.alloc ?_ _))) HC.out (fun i hi hd => by omega)⟩
    have hn2 : ((sz.length : Int) != b.n) = false := by simpa using hn
    have HN := Lib.hid hn
    clear hn
    cases hs : sz.any badSize with
    | true =>
      have HS := Lib.hid hs
      have HE := Lib.hid (colCode_c hb HN.out hs)
      have HO := Lib.hid (colOut_no HE.out (by omega))
      clear hb hs
      have U_33 := Lib.hid (Chg.trans U0.out ((Chg.refl Nowhere w).alloc (.cells #[.int .i64 b.n, .slice A b.ws.length c] 44)))
      clear U0
      have I_34 := Lib.hid (HI.out.up ((Chg.refl Nowhere w).alloc (.cells #[.int .i64 b.n, .slice A b.ws.length c] 44)))
      clear HI
      have J_35 := Lib.hid (HJ.out.up ((Chg.refl Nowhere w).alloc (.cells #[.int .i64 b.n, .slice A b.ws.length c] 44)))
      clear HJ
      have H_36 := Lib.hid (HH.out.up ((Chg.refl Nowhere w).alloc (.cells #[.int .i64 b.n, .slice A b.ws.length c] 44)))
      clear HH
      have q0_37 := (show (w.alloc (.cells #[.int .i64 b.n, .slice A b.ws.length c] 44)).cell? ⟨w.heap.size, 0, none⟩ = some (.int .i64 b.n) from cell_new _ _ _ _)
      have q1_38 := (show (w.alloc (.cells #[.int .i64 b.n, .slice A b.ws.length c] 44)).cell? ⟨w.heap.size, 1, none⟩ = some (.slice A b.ws.length c) from cell_new _ _ _ _)
      have hbx39 : w.heap.size < (w.alloc (.cells #[.int .i64 b.n, .slice A b.ws.length c] 44)).heap.size := by simp
      go_enter Try.func27, Try.ntmps27
      go_wp2_with fail
      refine (ValidBraid_any _ S _ b (H_36.out.up (by repeat (first | exact Chg.refl _ _ | apply Chg.drew | apply Chg.drewN | refine Chg.alloc ?_ _)))).mono ?_
      rintro e w40 ⟨rfl, g1⟩
      have G1 := Lib.hid g1
      have hz40 := G1.out.size
      clear g1
      have U_41 := Lib.hid (Chg.trans U_33.out (Chg.trans (by repeat (first | exact Chg.refl _ _ | apply Chg.drew | apply Chg.drewN | refine Chg.alloc ?_ _)) G1.out))
      clear U_33
      have I_42 := Lib.hid (I_34.out.up (Chg.trans (by repeat (first | exact Chg.refl _ _ | apply Chg.drew | apply Chg.drewN | refine Chg.alloc ?_ _)) G1.out))
      clear I_34
      have J_43 := Lib.hid (J_35.out.up (Chg.trans (by repeat (first | exact Chg.refl _ _ | apply Chg.drew | apply Chg.drewN | refine Chg.alloc ?_ _)) G1.out))
      clear J_35
      have H_44 := Lib.hid (H_36.out.up (Chg.trans (by repeat (first | exact Chg.refl _ _ | apply Chg.drew | apply Chg.drewN | refine Chg.alloc ?_ _)) G1.out))
      clear H_36
      have q0_45 := Chg.cell (Chg.trans (by repeat (first | exact Chg.refl _ _ | apply Chg.drew | apply Chg.drewN | refine Chg.alloc ?_ _)) G1.out) q0_37 id
      clear q0_37
      have q1_46 := Chg.cell (Chg.trans (by repeat (first | exact Chg.refl _ _ | apply Chg.drew | apply Chg.drewN | refine Chg.alloc ?_ _)) G1.out) q1_38 id
      clear q1_38
      obtain ⟨y0_47c, y0_47f⟩ := (show CellF w40 ⟨w.heap.size + 1, 0, none⟩ (.int .i64 0) from CellF.up G1.out (by repeat (first | ((refine cellF_at ?_ rfl); (simp; done)) | refine CellF.up ((Chg.refl _ _).alloc _) ?_)))
      obtain ⟨y1_48c, y1_48f⟩ := (show CellF w40 ⟨w.heap.size + 1, 1, none⟩ (.slice none 0 0) from CellF.up G1.out (by repeat (first | ((refine cellF_at ?_ rfl); (simp; done)) | refine CellF.up ((Chg.refl _ _).alloc _) ?_)))
      clear G1
      have hzz : w.heap.size + 2 ≤ w40.heap.size := by have := hz40; simp at this; omega
      rw [HB.out]
      clear H_44
      go_wp2_with fail
      refine (areSizes_any _ S2 _ sz (J_43.out.up (by repeat (first | exact Chg.refl _ _ | apply Chg.drew | apply Chg.drewN | refine Chg.alloc ?_ _)))).mono ?_
      rintro e w' ⟨rfl, rfl⟩
      rw [HS.out]
      go_wp2
      have HC := Lib.hid (Chg.setCell (Chg.setCell (Chg.refl (fun b => b = w.heap.size + 1) w40) (p := ⟨w.heap.size + 1, 0, none⟩) (.inl (show w.heap.size + 1 = w.heap.size + 1 from rfl)) (.int .i64 (0))) (p := ⟨w.heap.size + 1, 1, none⟩) (.inl (show w.heap.size + 1 = w.heap.size + 1 from rfl)) (.slice none 0 0))
      exact bodyPost_ret (v := .tuple #[.agg #[.int .i64 (0), .slice none 0 0], .int .i64 2]) (by simp [results, Try.results27, go_sem, y0_47c, y1_48c]) rfl ⟨_, ret_mi HE.out.symm, by rw [HO.out]; exact ⟨_, rfl, Ints.nil _ _ _ _ (by omega), (show I64 (0) by unfold I64; omega)⟩, Chg.new (Chg.trans U_41.out (by repeat (first | exact Chg.refl _ _ | apply Chg.drew | apply Chg.drewN | refine Chg.alloc ?_ _))) HC.out (fun i hi hd => by omega)⟩
    | false =>
      have HS := Lib.hid hs
      have HK := Lib.hid (col_ok hb HN.out hs)
      clear hs
      have hs0 := HK.out.s0
      by_cases hd : 12 < sumL sz
      · have HE := Lib.hid (colCode_d hb HN.out HS.out hd)
        have HO := Lib.hid (colOut_no HE.out (by omega))
        have hd1 : decide (12 < sumL sz) = true := decide_eq_true hd
        clear hb
        have U_50 := Lib.hid (Chg.trans U0.out ((Chg.refl Nowhere w).alloc (.cells #[.int .i64 b.n, .slice A b.ws.length c] 44)))
        clear U0
        have I_51 := Lib.hid (HI.out.up ((Chg.refl Nowhere w).alloc (.cells #[.int .i64 b.n, .slice A b.ws.length c] 44)))
        clear HI
        have J_52 := Lib.hid (HJ.out.up ((Chg.refl Nowhere w).alloc (.cells #[.int .i64 b.n, .slice A b.ws.length c] 44)))
        clear HJ
        have H_53 := Lib.hid (HH.out.up ((Chg.refl Nowhere w).alloc (.cells #[.int .i64 b.n, .slice A b.ws.length c] 44)))
        clear HH
        have q0_54 := (show (w.alloc (.cells #[.int .i64 b.n, .slice A b.ws.length c] 44)).cell? ⟨w.heap.size, 0, none⟩ = some (.int .i64 b.n) from cell_new _ _ _ _)
        have q1_55 := (show (w.alloc (.cells #[.int .i64 b.n, .slice A b.ws.length c] 44)).cell? ⟨w.heap.size, 1, none⟩ = some (.slice A b.ws.length c) from cell_new _ _ _ _)
        have hbx56 : w.heap.size < (w.alloc (.cells #[.int .i64 b.n, .slice A b.ws.length c] 44)).heap.size := by simp
        go_enter Try.func27, Try.ntmps27
        go_wp2_with fail
        refine (ValidBraid_any _ S _ b (H_53.out.up (by repeat (first | exact Chg.refl _ _ | apply Chg.drew | apply Chg.drewN | refine Chg.alloc ?_ _)))).mono ?_
        rintro e w57 ⟨rfl, g1⟩
        have G1 := Lib.hid g1
        have hz57 := G1.out.size
        clear g1
        have U_58 := Lib.hid (Chg.trans U_50.out (Chg.trans (by repeat (first | exact Chg.refl _ _ | apply Chg.drew | apply Chg.drewN | refine Chg.alloc ?_ _)) G1.out))
        clear U_50
        have I_59 := Lib.hid (I_51.out.up (Chg.trans (by repeat (first | exact Chg.refl _ _ | apply Chg.drew | apply Chg.drewN | refine Chg.alloc ?_ _)) G1.out))
        clear I_51
        have J_60 := Lib.hid (J_52.out.up (Chg.trans (by repeat (first | exact Chg.refl _ _ | apply Chg.drew | apply Chg.drewN | refine Chg.alloc ?_ _)) G1.out))
        clear J_52
        have H_61 := Lib.hid (H_53.out.up (Chg.trans (by repeat (first | exact Chg.refl _ _ | apply Chg.drew | apply Chg.drewN | refine Chg.alloc ?_ _)) G1.out))
        clear H_53
        have q0_62 := Chg.cell (Chg.trans (by repeat (first | exact Chg.refl _ _ | apply Chg.drew | apply Chg.drewN | refine Chg.alloc ?_ _)) G1.out) q0_54 id
        clear q0_54
        have q1_63 := Chg.cell (Chg.trans (by repeat (first | exact Chg.refl _ _ | apply Chg.drew | apply Chg.drewN | refine Chg.alloc ?_ _)) G1.out) q1_55 id
        clear q1_55
        obtain ⟨y0_64c, y0_64f⟩ := (show CellF w57 ⟨w.heap.size + 1, 0, none⟩ (.int .i64 0) from CellF.up G1.out (by repeat (first | ((refine cellF_at ?_ rfl); (simp; done)) | refine CellF.up ((Chg.refl _ _).alloc _) ?_)))
        obtain ⟨y1_65c, y1_65f⟩ := (show CellF w57 ⟨w.heap.size + 1, 1, none⟩ (.slice none 0 0) from CellF.up G1.out (by repeat (first | ((refine cellF_at ?_ rfl); (simp; done)) | refine CellF.up ((Chg.refl _ _).alloc _) ?_)))
        clear G1
        have hzz : w.heap.size + 2 ≤ w57.heap.size := by have := hz57; simp at this; omega
        rw [HB.out]
        clear H_61
        go_wp2_with fail
        refine (areSizes_any _ S2 _ sz (J_60.out.up (by repeat (first | exact Chg.refl _ _ | apply Chg.drew | apply Chg.drewN | refine Chg.alloc ?_ _)))).mono ?_
        rintro e w' ⟨rfl, rfl⟩
        rw [HS.out]
        go_wp2_with fail
        refine (reduced_any _ S _ b.ws (I_59.out.up (by repeat (first | exact Chg.refl _ _ | apply Chg.drew | apply Chg.drewN | refine Chg.alloc ?_ _))) (by have := HK.out.l0; omega) HK.out.w0).mono ?_
        rintro e w67 ⟨v67, rfl, k1, g1⟩
        obtain ⟨A67, c67, rfl, hl67, hc67, -⟩ := k1.shape
        have K1 := Lib.hid k1
        clear k1
        have G1 := Lib.hid g1
        have hz67 := G1.out.size
        clear g1
        have U_68 := Lib.hid (Chg.trans U_58.out (Chg.trans (by repeat (first | exact Chg.refl _ _ | apply Chg.drew | apply Chg.drewN | refine Chg.alloc ?_ _)) G1.out))
        clear U_58
        have I_69 := Lib.hid (I_59.out.up (Chg.trans (by repeat (first | exact Chg.refl _ _ | apply Chg.drew | apply Chg.drewN | refine Chg.alloc ?_ _)) G1.out))
        clear I_59
        have J_70 := Lib.hid (J_60.out.up (Chg.trans (by repeat (first | exact Chg.refl _ _ | apply Chg.drew | apply Chg.drewN | refine Chg.alloc ?_ _)) G1.out))
        clear J_60
        have q0_71 := Chg.cell (Chg.trans (by repeat (first | exact Chg.refl _ _ | apply Chg.drew | apply Chg.drewN | refine Chg.alloc ?_ _)) G1.out) q0_62 id
        clear q0_62
        have q1_72 := Chg.cell (Chg.trans (by repeat (first | exact Chg.refl _ _ | apply Chg.drew | apply Chg.drewN | refine Chg.alloc ?_ _)) G1.out) q1_63 id
        clear q1_63
        obtain ⟨y0_73c, y0_73f⟩ := CellF.up (Chg.trans (by repeat (first | exact Chg.refl _ _ | apply Chg.drew | apply Chg.drewN | refine Chg.alloc ?_ _)) G1.out) ⟨y0_64c, y0_64f⟩
        clear y0_64c y0_64f
        obtain ⟨y1_74c, y1_74f⟩ := CellF.up (Chg.trans (by repeat (first | exact Chg.refl _ _ | apply Chg.drew | apply Chg.drewN | refine Chg.alloc ?_ _)) G1.out) ⟨y1_65c, y1_65f⟩
        clear y1_65c y1_65f
        clear G1
        have K_75 := Lib.hid (K1.out)
        clear K1
        go_wp2_with fail
        refine (doubled_any _ _ S2 _ _ (redM b.ws) sz sz.length (K_75.out.up (by repeat (first | exact Chg.refl _ _ | apply Chg.drew | apply Chg.drewN | refine Chg.alloc ?_ _))) (J_70.out.up (by repeat (first | exact Chg.refl _ _ | apply Chg.drew | apply Chg.drewN | refine Chg.alloc ?_ _))) HK.out.sz_ HK.out.w1 HK.out.l1 (by have := HK.out.m; omega)).mono ?_
        rintro e wd ⟨vd, vn, rfl, k1, g1⟩
        obtain ⟨Ad, cd, rfl, hld, hcd, -⟩ := k1.shape
        have K1 := Lib.hid k1
        have G1 := Lib.hid g1
        have hzd := G1.out.size
        clear k1 g1
        have U_76 := Lib.hid (Chg.trans U_68.out (Chg.trans (by repeat (first | exact Chg.refl _ _ | apply Chg.drew | apply Chg.drewN | refine Chg.alloc ?_ _)) G1.out))
        clear U_68
        have I_77 := Lib.hid (I_69.out.up (Chg.trans (by repeat (first | exact Chg.refl _ _ | apply Chg.drew | apply Chg.drewN | refine Chg.alloc ?_ _)) G1.out))
        clear I_69
        have J_78 := Lib.hid (J_70.out.up (Chg.trans (by repeat (first | exact Chg.refl _ _ | apply Chg.drew | apply Chg.drewN | refine Chg.alloc ?_ _)) G1.out))
        clear J_70
        have q0_79 := Chg.cell (Chg.trans (by repeat (first | exact Chg.refl _ _ | apply Chg.drew | apply Chg.drewN | refine Chg.alloc ?_ _)) G1.out) q0_71 id
        clear q0_71
        have q1_80 := Chg.cell (Chg.trans (by repeat (first | exact Chg.refl _ _ | apply Chg.drew | apply Chg.drewN | refine Chg.alloc ?_ _)) G1.out) q1_72 id
        clear q1_72
        obtain ⟨y0_81c, y0_81f⟩ := CellF.up (Chg.trans (by repeat (first | exact Chg.refl _ _ | apply Chg.drew | apply Chg.drewN | refine Chg.alloc ?_ _)) G1.out) ⟨y0_73c, y0_73f⟩
        clear y0_73c y0_73f
        obtain ⟨y1_82c, y1_82f⟩ := CellF.up (Chg.trans (by repeat (first | exact Chg.refl _ _ | apply Chg.drew | apply Chg.drewN | refine Chg.alloc ?_ _)) G1.out) ⟨y1_74c, y1_74f⟩
        clear y1_74c y1_74f
        have K_83 := Lib.hid (K_75.out.up (Chg.trans (by repeat (first | exact Chg.refl _ _ | apply Chg.drew | apply Chg.drewN | refine Chg.alloc ?_ _)) G1.out))
        clear K_75
        clear G1
        have D_84 := Lib.hid (K1.out)
        clear K1
        go_wp2_with fail
        refine (reduced_any _ _ _ (dblM (redM b.ws) sz) (D_84.out.up (by repeat (first | exact Chg.refl _ _ | apply Chg.drew | apply Chg.drewN | refine Chg.alloc ?_ _))) HK.out.l2 HK.out.b2).mono ?_
        rintro e w85 ⟨v85, rfl, k1, g1⟩
        have K1 := Lib.hid k1
        clear k1
        have G1 := Lib.hid g1
        have hz85 := G1.out.size
        clear g1
        have U_86 := Lib.hid (Chg.trans U_76.out (Chg.trans (by repeat (first | exact Chg.refl _ _ | apply Chg.drew | apply Chg.drewN | refine Chg.alloc ?_ _)) G1.out))
        clear U_76
        have I_87 := Lib.hid (I_77.out.up (Chg.trans (by repeat (first | exact Chg.refl _ _ | apply Chg.drew | apply Chg.drewN | refine Chg.alloc ?_ _)) G1.out))
        clear I_77
        have J_88 := Lib.hid (J_78.out.up (Chg.trans (by repeat (first | exact Chg.refl _ _ | apply Chg.drew | apply Chg.drewN | refine Chg.alloc ?_ _)) G1.out))
        clear J_78
        have q0_89 := Chg.cell (Chg.trans (by repeat (first | exact Chg.refl _ _ | apply Chg.drew | apply Chg.drewN | refine Chg.alloc ?_ _)) G1.out) q0_79 id
        clear q0_79
        have q1_90 := Chg.cell (Chg.trans (by repeat (first | exact Chg.refl _ _ | apply Chg.drew | apply Chg.drewN | refine Chg.alloc ?_ _)) G1.out) q1_80 id
        clear q1_80
        obtain ⟨y0_91c, y0_91f⟩ := CellF.up (Chg.trans (by repeat (first | exact Chg.refl _ _ | apply Chg.drew | apply Chg.drewN | refine Chg.alloc ?_ _)) G1.out) ⟨y0_81c, y0_81f⟩
        clear y0_81c y0_81f
        obtain ⟨y1_92c, y1_92f⟩ := CellF.up (Chg.trans (by repeat (first | exact Chg.refl _ _ | apply Chg.drew | apply Chg.drewN | refine Chg.alloc ?_ _)) G1.out) ⟨y1_82c, y1_82f⟩
        clear y1_82c y1_82f
        have K_93 := Lib.hid (K_83.out.up (Chg.trans (by repeat (first | exact Chg.refl _ _ | apply Chg.drew | apply Chg.drewN | refine Chg.alloc ?_ _)) G1.out))
        clear K_83
        have D_94 := Lib.hid (D_84.out.up (Chg.trans (by repeat (first | exact Chg.refl _ _ | apply Chg.drew | apply Chg.drewN | refine Chg.alloc ?_ _)) G1.out))
        clear D_84
        clear G1
        have E_95 := Lib.hid (K1.out)
        clear K1
        have he := E_95.out
        obtain ⟨Ae, ce, rfl, hle, hce, -⟩ := he.shape
        have HEE := Lib.hid (show Ints _ _ _ (colWord b sz) from he)
        rw [show redM (dblM (redM b.ws) sz) = colWord b sz from rfl]
        have hle' : (colWord b sz).length ≤ ce := hle
        clear he hle
        clear E_95
        go_wp2_with fail
        refine (sumOf_any _ S2 _ sz (J_88.out.up (by repeat (first | exact Chg.refl _ _ | apply Chg.drew | apply Chg.drewN | refine Chg.alloc ?_ _))) (by have := HK.out.m; omega) (sz_nonneg HK.out)).mono ?_
        rintro e w' ⟨rfl, rfl⟩
        go_wp2
        have HC := Lib.hid (Chg.setCell (Chg.setCell (Chg.refl (fun b => b = w.heap.size + 1) w85) (p := ⟨w.heap.size + 1, 0, none⟩) (.inl (show w.heap.size + 1 = w.heap.size + 1 from rfl)) (.int .i64 (0))) (p := ⟨w.heap.size + 1, 1, none⟩) (.inl (show w.heap.size + 1 = w.heap.size + 1 from rfl)) (.slice none 0 0))
        exact bodyPost_ret (v := .tuple #[.agg #[.int .i64 (0), .slice none 0 0], .int .i64 5]) (by simp [results, Try.results27, go_sem, y0_91c, y1_92c]) rfl ⟨_, ret_mi HE.out.symm, by rw [HO.out]; exact ⟨_, rfl, Ints.nil _ _ _ _ (by omega), (show I64 (0) by unfold I64; omega)⟩, Chg.new (Chg.trans U_86.out (by repeat (first | exact Chg.refl _ _ | apply Chg.drew | apply Chg.drewN | refine Chg.alloc ?_ _))) HC.out (fun i hi hd => by omega)⟩
      have hd1 : decide (12 < sumL sz) = false := decide_eq_false hd
      by_cases hw : 40 < (colWord b sz).length
      · have HE := Lib.hid (colCode_e hb HN.out HS.out hd hw)
        have HO := Lib.hid (colOut_no HE.out (by omega))
        have hw1 : decide (40 < (colWord b sz).length) = true := decide_eq_true hw
        clear hb
        have U_97 := Lib.hid (Chg.trans U0.out ((Chg.refl Nowhere w).alloc (.cells #[.int .i64 b.n, .slice A b.ws.length c] 44)))
        clear U0
        have I_98 := Lib.hid (HI.out.up ((Chg.refl Nowhere w).alloc (.cells #[.int .i64 b.n, .slice A b.ws.length c] 44)))
        clear HI
        have J_99 := Lib.hid (HJ.out.up ((Chg.refl Nowhere w).alloc (.cells #[.int .i64 b.n, .slice A b.ws.length c] 44)))
        clear HJ
        have H_100 := Lib.hid (HH.out.up ((Chg.refl Nowhere w).alloc (.cells #[.int .i64 b.n, .slice A b.ws.length c] 44)))
        clear HH
        have q0_101 := (show (w.alloc (.cells #[.int .i64 b.n, .slice A b.ws.length c] 44)).cell? ⟨w.heap.size, 0, none⟩ = some (.int .i64 b.n) from cell_new _ _ _ _)
        have q1_102 := (show (w.alloc (.cells #[.int .i64 b.n, .slice A b.ws.length c] 44)).cell? ⟨w.heap.size, 1, none⟩ = some (.slice A b.ws.length c) from cell_new _ _ _ _)
        have hbx103 : w.heap.size < (w.alloc (.cells #[.int .i64 b.n, .slice A b.ws.length c] 44)).heap.size := by simp
        go_enter Try.func27, Try.ntmps27
        go_wp2_with fail
        refine (ValidBraid_any _ S _ b (H_100.out.up (by repeat (first | exact Chg.refl _ _ | apply Chg.drew | apply Chg.drewN | refine Chg.alloc ?_ _)))).mono ?_
        rintro e w104 ⟨rfl, g1⟩
        have G1 := Lib.hid g1
        have hz104 := G1.out.size
        clear g1
        have U_105 := Lib.hid (Chg.trans U_97.out (Chg.trans (by repeat (first | exact Chg.refl _ _ | apply Chg.drew | apply Chg.drewN | refine Chg.alloc ?_ _)) G1.out))
        clear U_97
        have I_106 := Lib.hid (I_98.out.up (Chg.trans (by repeat (first | exact Chg.refl _ _ | apply Chg.drew | apply Chg.drewN | refine Chg.alloc ?_ _)) G1.out))
        clear I_98
        have J_107 := Lib.hid (J_99.out.up (Chg.trans (by repeat (first | exact Chg.refl _ _ | apply Chg.drew | apply Chg.drewN | refine Chg.alloc ?_ _)) G1.out))
        clear J_99
        have H_108 := Lib.hid (H_100.out.up (Chg.trans (by repeat (first | exact Chg.refl _ _ | apply Chg.drew | apply Chg.drewN | refine Chg.alloc ?_ _)) G1.out))
        clear H_100
        have q0_109 := Chg.cell (Chg.trans (by repeat (first | exact Chg.refl _ _ | apply Chg.drew | apply Chg.drewN | refine Chg.alloc ?_ _)) G1.out) q0_101 id
        clear q0_101
        have q1_110 := Chg.cell (Chg.trans (by repeat (first | exact Chg.refl _ _ | apply Chg.drew | apply Chg.drewN | refine Chg.alloc ?_ _)) G1.out) q1_102 id
        clear q1_102
        obtain ⟨y0_111c, y0_111f⟩ := (show CellF w104 ⟨w.heap.size + 1, 0, none⟩ (.int .i64 0) from CellF.up G1.out (by repeat (first | ((refine cellF_at ?_ rfl); (simp; done)) | refine CellF.up ((Chg.refl _ _).alloc _) ?_)))
        obtain ⟨y1_112c, y1_112f⟩ := (show CellF w104 ⟨w.heap.size + 1, 1, none⟩ (.slice none 0 0) from CellF.up G1.out (by repeat (first | ((refine cellF_at ?_ rfl); (simp; done)) | refine CellF.up ((Chg.refl _ _).alloc _) ?_)))
        clear G1
        have hzz : w.heap.size + 2 ≤ w104.heap.size := by have := hz104; simp at this; omega
        rw [HB.out]
        clear H_108
        go_wp2_with fail
        refine (areSizes_any _ S2 _ sz (J_107.out.up (by repeat (first | exact Chg.refl _ _ | apply Chg.drew | apply Chg.drewN | refine Chg.alloc ?_ _)))).mono ?_
        rintro e w' ⟨rfl, rfl⟩
        rw [HS.out]
        go_wp2_with fail
        refine (reduced_any _ S _ b.ws (I_106.out.up (by repeat (first | exact Chg.refl _ _ | apply Chg.drew | apply Chg.drewN | refine Chg.alloc ?_ _))) (by have := HK.out.l0; omega) HK.out.w0).mono ?_
        rintro e w114 ⟨v114, rfl, k1, g1⟩
        obtain ⟨A114, c114, rfl, hl114, hc114, -⟩ := k1.shape
        have K1 := Lib.hid k1
        clear k1
        have G1 := Lib.hid g1
        have hz114 := G1.out.size
        clear g1
        have U_115 := Lib.hid (Chg.trans U_105.out (Chg.trans (by repeat (first | exact Chg.refl _ _ | apply Chg.drew | apply Chg.drewN | refine Chg.alloc ?_ _)) G1.out))
        clear U_105
        have I_116 := Lib.hid (I_106.out.up (Chg.trans (by repeat (first | exact Chg.refl _ _ | apply Chg.drew | apply Chg.drewN | refine Chg.alloc ?_ _)) G1.out))
        clear I_106
        have J_117 := Lib.hid (J_107.out.up (Chg.trans (by repeat (first | exact Chg.refl _ _ | apply Chg.drew | apply Chg.drewN | refine Chg.alloc ?_ _)) G1.out))
        clear J_107
        have q0_118 := Chg.cell (Chg.trans (by repeat (first | exact Chg.refl _ _ | apply Chg.drew | apply Chg.drewN | refine Chg.alloc ?_ _)) G1.out) q0_109 id
        clear q0_109
        have q1_119 := Chg.cell (Chg.trans (by repeat (first | exact Chg.refl _ _ | apply Chg.drew | apply Chg.drewN | refine Chg.alloc ?_ _)) G1.out) q1_110 id
        clear q1_110
        obtain ⟨y0_120c, y0_120f⟩ := CellF.up (Chg.trans (by repeat (first | exact Chg.refl _ _ | apply Chg.drew | apply Chg.drewN | refine Chg.alloc ?_ _)) G1.out) ⟨y0_111c, y0_111f⟩
        clear y0_111c y0_111f
        obtain ⟨y1_121c, y1_121f⟩ := CellF.up (Chg.trans (by repeat (first | exact Chg.refl _ _ | apply Chg.drew | apply Chg.drewN | refine Chg.alloc ?_ _)) G1.out) ⟨y1_112c, y1_112f⟩
        clear y1_112c y1_112f
        clear G1
        have K_122 := Lib.hid (K1.out)
        clear K1
        go_wp2_with fail
        refine (doubled_any _ _ S2 _ _ (redM b.ws) sz sz.length (K_122.out.up (by repeat (first | exact Chg.refl _ _ | apply Chg.drew | apply Chg.drewN | refine Chg.alloc ?_ _))) (J_117.out.up (by repeat (first | exact Chg.refl _ _ | apply Chg.drew | apply Chg.drewN | refine Chg.alloc ?_ _))) HK.out.sz_ HK.out.w1 HK.out.l1 (by have := HK.out.m; omega)).mono ?_
        rintro e wd ⟨vd, vn, rfl, k1, g1⟩
        obtain ⟨Ad, cd, rfl, hld, hcd, -⟩ := k1.shape
        have K1 := Lib.hid k1
        have G1 := Lib.hid g1
        have hzd := G1.out.size
        clear k1 g1
        have U_123 := Lib.hid (Chg.trans U_115.out (Chg.trans (by repeat (first | exact Chg.refl _ _ | apply Chg.drew | apply Chg.drewN | refine Chg.alloc ?_ _)) G1.out))
        clear U_115
        have I_124 := Lib.hid (I_116.out.up (Chg.trans (by repeat (first | exact Chg.refl _ _ | apply Chg.drew | apply Chg.drewN | refine Chg.alloc ?_ _)) G1.out))
        clear I_116
        have J_125 := Lib.hid (J_117.out.up (Chg.trans (by repeat (first | exact Chg.refl _ _ | apply Chg.drew | apply Chg.drewN | refine Chg.alloc ?_ _)) G1.out))
        clear J_117
        have q0_126 := Chg.cell (Chg.trans (by repeat (first | exact Chg.refl _ _ | apply Chg.drew | apply Chg.drewN | refine Chg.alloc ?_ _)) G1.out) q0_118 id
        clear q0_118
        have q1_127 := Chg.cell (Chg.trans (by repeat (first | exact Chg.refl _ _ | apply Chg.drew | apply Chg.drewN | refine Chg.alloc ?_ _)) G1.out) q1_119 id
        clear q1_119
        obtain ⟨y0_128c, y0_128f⟩ := CellF.up (Chg.trans (by repeat (first | exact Chg.refl _ _ | apply Chg.drew | apply Chg.drewN | refine Chg.alloc ?_ _)) G1.out) ⟨y0_120c, y0_120f⟩
        clear y0_120c y0_120f
        obtain ⟨y1_129c, y1_129f⟩ := CellF.up (Chg.trans (by repeat (first | exact Chg.refl _ _ | apply Chg.drew | apply Chg.drewN | refine Chg.alloc ?_ _)) G1.out) ⟨y1_121c, y1_121f⟩
        clear y1_121c y1_121f
        have K_130 := Lib.hid (K_122.out.up (Chg.trans (by repeat (first | exact Chg.refl _ _ | apply Chg.drew | apply Chg.drewN | refine Chg.alloc ?_ _)) G1.out))
        clear K_122
        clear G1
        have D_131 := Lib.hid (K1.out)
        clear K1
        go_wp2_with fail
        refine (reduced_any _ _ _ (dblM (redM b.ws) sz) (D_131.out.up (by repeat (first | exact Chg.refl _ _ | apply Chg.drew | apply Chg.drewN | refine Chg.alloc ?_ _))) HK.out.l2 HK.out.b2).mono ?_
        rintro e w132 ⟨v132, rfl, k1, g1⟩
        have K1 := Lib.hid k1
        clear k1
        have G1 := Lib.hid g1
        have hz132 := G1.out.size
        clear g1
        have U_133 := Lib.hid (Chg.trans U_123.out (Chg.trans (by repeat (first | exact Chg.refl _ _ | apply Chg.drew | apply Chg.drewN | refine Chg.alloc ?_ _)) G1.out))
        clear U_123
        have I_134 := Lib.hid (I_124.out.up (Chg.trans (by repeat (first | exact Chg.refl _ _ | apply Chg.drew | apply Chg.drewN | refine Chg.alloc ?_ _)) G1.out))
        clear I_124
        have J_135 := Lib.hid (J_125.out.up (Chg.trans (by repeat (first | exact Chg.refl _ _ | apply Chg.drew | apply Chg.drewN | refine Chg.alloc ?_ _)) G1.out))
        clear J_125
        have q0_136 := Chg.cell (Chg.trans (by repeat (first | exact Chg.refl _ _ | apply Chg.drew | apply Chg.drewN | refine Chg.alloc ?_ _)) G1.out) q0_126 id
        clear q0_126
        have q1_137 := Chg.cell (Chg.trans (by repeat (first | exact Chg.refl _ _ | apply Chg.drew | apply Chg.drewN | refine Chg.alloc ?_ _)) G1.out) q1_127 id
        clear q1_127
        obtain ⟨y0_138c, y0_138f⟩ := CellF.up (Chg.trans (by repeat (first | exact Chg.refl _ _ | apply Chg.drew | apply Chg.drewN | refine Chg.alloc ?_ _)) G1.out) ⟨y0_128c, y0_128f⟩
        clear y0_128c y0_128f
        obtain ⟨y1_139c, y1_139f⟩ := CellF.up (Chg.trans (by repeat (first | exact Chg.refl _ _ | apply Chg.drew | apply Chg.drewN | refine Chg.alloc ?_ _)) G1.out) ⟨y1_129c, y1_129f⟩
        clear y1_129c y1_129f
        have K_140 := Lib.hid (K_130.out.up (Chg.trans (by repeat (first | exact Chg.refl _ _ | apply Chg.drew | apply Chg.drewN | refine Chg.alloc ?_ _)) G1.out))
        clear K_130
        have D_141 := Lib.hid (D_131.out.up (Chg.trans (by repeat (first | exact Chg.refl _ _ | apply Chg.drew | apply Chg.drewN | refine Chg.alloc ?_ _)) G1.out))
        clear D_131
        clear G1
        have E_142 := Lib.hid (K1.out)
        clear K1
        have he := E_142.out
        obtain ⟨Ae, ce, rfl, hle, hce, -⟩ := he.shape
        have HEE := Lib.hid (show Ints _ _ _ (colWord b sz) from he)
        rw [show redM (dblM (redM b.ws) sz) = colWord b sz from rfl]
        have hle' : (colWord b sz).length ≤ ce := hle
        clear he hle
        clear E_142
        go_wp2_with fail
        refine (sumOf_any _ S2 _ sz (J_135.out.up (by repeat (first | exact Chg.refl _ _ | apply Chg.drew | apply Chg.drewN | refine Chg.alloc ?_ _))) (by have := HK.out.m; omega) (sz_nonneg HK.out)).mono ?_
        rintro e w' ⟨rfl, rfl⟩
        go_wp2
        have HC := Lib.hid (Chg.setCell (Chg.setCell (Chg.refl (fun b => b = w.heap.size + 1) w132) (p := ⟨w.heap.size + 1, 0, none⟩) (.inl (show w.heap.size + 1 = w.heap.size + 1 from rfl)) (.int .i64 (0))) (p := ⟨w.heap.size + 1, 1, none⟩) (.inl (show w.heap.size + 1 = w.heap.size + 1 from rfl)) (.slice none 0 0))
        exact bodyPost_ret (v := .tuple #[.agg #[.int .i64 (0), .slice none 0 0], .int .i64 5]) (by simp [results, Try.results27, go_sem, y0_138c, y1_139c]) rfl ⟨_, ret_mi HE.out.symm, by rw [HO.out]; exact ⟨_, rfl, Ints.nil _ _ _ _ (by omega), (show I64 (0) by unfold I64; omega)⟩, Chg.new (Chg.trans U_133.out (by repeat (first | exact Chg.refl _ _ | apply Chg.drew | apply Chg.drewN | refine Chg.alloc ?_ _))) HC.out (fun i hi hd => by omega)⟩
      have hw1 : decide (40 < (colWord b sz).length) = false := decide_eq_false hw
      have HE := Lib.hid (colCode_f hb HN.out HS.out hd hw)
      have HO := Lib.hid (colOut_yes HE.out)
      clear hb
      have U_144 := Lib.hid (Chg.trans U0.out ((Chg.refl Nowhere w).alloc (.cells #[.int .i64 b.n, .slice A b.ws.length c] 44)))
      clear U0
      have I_145 := Lib.hid (HI.out.up ((Chg.refl Nowhere w).alloc (.cells #[.int .i64 b.n, .slice A b.ws.length c] 44)))
      clear HI
      have J_146 := Lib.hid (HJ.out.up ((Chg.refl Nowhere w).alloc (.cells #[.int .i64 b.n, .slice A b.ws.length c] 44)))
      clear HJ
      have H_147 := Lib.hid (HH.out.up ((Chg.refl Nowhere w).alloc (.cells #[.int .i64 b.n, .slice A b.ws.length c] 44)))
      clear HH
      have q0_148 := (show (w.alloc (.cells #[.int .i64 b.n, .slice A b.ws.length c] 44)).cell? ⟨w.heap.size, 0, none⟩ = some (.int .i64 b.n) from cell_new _ _ _ _)
      have q1_149 := (show (w.alloc (.cells #[.int .i64 b.n, .slice A b.ws.length c] 44)).cell? ⟨w.heap.size, 1, none⟩ = some (.slice A b.ws.length c) from cell_new _ _ _ _)
      have hbx150 : w.heap.size < (w.alloc (.cells #[.int .i64 b.n, .slice A b.ws.length c] 44)).heap.size := by simp
      go_enter Try.func27, Try.ntmps27
      go_wp2_with fail
      refine (ValidBraid_any _ S _ b (H_147.out.up (by repeat (first | exact Chg.refl _ _ | apply Chg.drew | apply Chg.drewN | refine Chg.alloc ?_ _)))).mono ?_
      rintro e w151 ⟨rfl, g1⟩
      have G1 := Lib.hid g1
      have hz151 := G1.out.size
      clear g1
      have U_152 := Lib.hid (Chg.trans U_144.out (Chg.trans (by repeat (first | exact Chg.refl _ _ | apply Chg.drew | apply Chg.drewN | refine Chg.alloc ?_ _)) G1.out))
      clear U_144
      have I_153 := Lib.hid (I_145.out.up (Chg.trans (by repeat (first | exact Chg.refl _ _ | apply Chg.drew | apply Chg.drewN | refine Chg.alloc ?_ _)) G1.out))
      clear I_145
      have J_154 := Lib.hid (J_146.out.up (Chg.trans (by repeat (first | exact Chg.refl _ _ | apply Chg.drew | apply Chg.drewN | refine Chg.alloc ?_ _)) G1.out))
      clear J_146
      have H_155 := Lib.hid (H_147.out.up (Chg.trans (by repeat (first | exact Chg.refl _ _ | apply Chg.drew | apply Chg.drewN | refine Chg.alloc ?_ _)) G1.out))
      clear H_147
      have q0_156 := Chg.cell (Chg.trans (by repeat (first | exact Chg.refl _ _ | apply Chg.drew | apply Chg.drewN | refine Chg.alloc ?_ _)) G1.out) q0_148 id
      clear q0_148
      have q1_157 := Chg.cell (Chg.trans (by repeat (first | exact Chg.refl _ _ | apply Chg.drew | apply Chg.drewN | refine Chg.alloc ?_ _)) G1.out) q1_149 id
      clear q1_149
      obtain ⟨y0_158c, y0_158f⟩ := (show CellF w151 ⟨w.heap.size + 1, 0, none⟩ (.int .i64 0) from CellF.up G1.out (by repeat (first | ((refine cellF_at ?_ rfl); (simp; done)) | refine CellF.up ((Chg.refl _ _).alloc _) ?_)))
      obtain ⟨y1_159c, y1_159f⟩ := (show CellF w151 ⟨w.heap.size + 1, 1, none⟩ (.slice none 0 0) from CellF.up G1.out (by repeat (first | ((refine cellF_at ?_ rfl); (simp; done)) | refine CellF.up ((Chg.refl _ _).alloc _) ?_)))
      clear G1
      have hzz : w.heap.size + 2 ≤ w151.heap.size := by have := hz151; simp at this; omega
      rw [HB.out]
      clear H_155
      go_wp2_with fail
      refine (areSizes_any _ S2 _ sz (J_154.out.up (by repeat (first | exact Chg.refl _ _ | apply Chg.drew | apply Chg.drewN | refine Chg.alloc ?_ _)))).mono ?_
      rintro e w' ⟨rfl, rfl⟩
      rw [HS.out]
      go_wp2_with fail
      refine (reduced_any _ S _ b.ws (I_153.out.up (by repeat (first | exact Chg.refl _ _ | apply Chg.drew | apply Chg.drewN | refine Chg.alloc ?_ _))) (by have := HK.out.l0; omega) HK.out.w0).mono ?_
      rintro e w161 ⟨v161, rfl, k1, g1⟩
      obtain ⟨A161, c161, rfl, hl161, hc161, -⟩ := k1.shape
      have K1 := Lib.hid k1
      clear k1
      have G1 := Lib.hid g1
      have hz161 := G1.out.size
      clear g1
      have U_162 := Lib.hid (Chg.trans U_152.out (Chg.trans (by repeat (first | exact Chg.refl _ _ | apply Chg.drew | apply Chg.drewN | refine Chg.alloc ?_ _)) G1.out))
      clear U_152
      have I_163 := Lib.hid (I_153.out.up (Chg.trans (by repeat (first | exact Chg.refl _ _ | apply Chg.drew | apply Chg.drewN | refine Chg.alloc ?_ _)) G1.out))
      clear I_153
      have J_164 := Lib.hid (J_154.out.up (Chg.trans (by repeat (first | exact Chg.refl _ _ | apply Chg.drew | apply Chg.drewN | refine Chg.alloc ?_ _)) G1.out))
      clear J_154
      have q0_165 := Chg.cell (Chg.trans (by repeat (first | exact Chg.refl _ _ | apply Chg.drew | apply Chg.drewN | refine Chg.alloc ?_ _)) G1.out) q0_156 id
      clear q0_156
      have q1_166 := Chg.cell (Chg.trans (by repeat (first | exact Chg.refl _ _ | apply Chg.drew | apply Chg.drewN | refine Chg.alloc ?_ _)) G1.out) q1_157 id
      clear q1_157
      obtain ⟨y0_167c, y0_167f⟩ := CellF.up (Chg.trans (by repeat (first | exact Chg.refl _ _ | apply Chg.drew | apply Chg.drewN | refine Chg.alloc ?_ _)) G1.out) ⟨y0_158c, y0_158f⟩
      clear y0_158c y0_158f
      obtain ⟨y1_168c, y1_168f⟩ := CellF.up (Chg.trans (by repeat (first | exact Chg.refl _ _ | apply Chg.drew | apply Chg.drewN | refine Chg.alloc ?_ _)) G1.out) ⟨y1_159c, y1_159f⟩
      clear y1_159c y1_159f
      clear G1
      have K_169 := Lib.hid (K1.out)
      clear K1
      go_wp2_with fail
      refine (doubled_any _ _ S2 _ _ (redM b.ws) sz sz.length (K_169.out.up (by repeat (first | exact Chg.refl _ _ | apply Chg.drew | apply Chg.drewN | refine Chg.alloc ?_ _))) (J_164.out.up (by repeat (first | exact Chg.refl _ _ | apply Chg.drew | apply Chg.drewN | refine Chg.alloc ?_ _))) HK.out.sz_ HK.out.w1 HK.out.l1 (by have := HK.out.m; omega)).mono ?_
      rintro e wd ⟨vd, vn, rfl, k1, g1⟩
      obtain ⟨Ad, cd, rfl, hld, hcd, -⟩ := k1.shape
      have K1 := Lib.hid k1
      have G1 := Lib.hid g1
      have hzd := G1.out.size
      clear k1 g1
      have U_170 := Lib.hid (Chg.trans U_162.out (Chg.trans (by repeat (first | exact Chg.refl _ _ | apply Chg.drew | apply Chg.drewN | refine Chg.alloc ?_ _)) G1.out))
      clear U_162
      have I_171 := Lib.hid (I_163.out.up (Chg.trans (by repeat (first | exact Chg.refl _ _ | apply Chg.drew | apply Chg.drewN | refine Chg.alloc ?_ _)) G1.out))
      clear I_163
      have J_172 := Lib.hid (J_164.out.up (Chg.trans (by repeat (first | exact Chg.refl _ _ | apply Chg.drew | apply Chg.drewN | refine Chg.alloc ?_ _)) G1.out))
      clear J_164
      have q0_173 := Chg.cell (Chg.trans (by repeat (first | exact Chg.refl _ _ | apply Chg.drew | apply Chg.drewN | refine Chg.alloc ?_ _)) G1.out) q0_165 id
      clear q0_165
      have q1_174 := Chg.cell (Chg.trans (by repeat (first | exact Chg.refl _ _ | apply Chg.drew | apply Chg.drewN | refine Chg.alloc ?_ _)) G1.out) q1_166 id
      clear q1_166
      obtain ⟨y0_175c, y0_175f⟩ := CellF.up (Chg.trans (by repeat (first | exact Chg.refl _ _ | apply Chg.drew | apply Chg.drewN | refine Chg.alloc ?_ _)) G1.out) ⟨y0_167c, y0_167f⟩
      clear y0_167c y0_167f
      obtain ⟨y1_176c, y1_176f⟩ := CellF.up (Chg.trans (by repeat (first | exact Chg.refl _ _ | apply Chg.drew | apply Chg.drewN | refine Chg.alloc ?_ _)) G1.out) ⟨y1_168c, y1_168f⟩
      clear y1_168c y1_168f
      have K_177 := Lib.hid (K_169.out.up (Chg.trans (by repeat (first | exact Chg.refl _ _ | apply Chg.drew | apply Chg.drewN | refine Chg.alloc ?_ _)) G1.out))
      clear K_169
      clear G1
      have D_178 := Lib.hid (K1.out)
      clear K1
      go_wp2_with fail
      refine (reduced_any _ _ _ (dblM (redM b.ws) sz) (D_178.out.up (by repeat (first | exact Chg.refl _ _ | apply Chg.drew | apply Chg.drewN | refine Chg.alloc ?_ _))) HK.out.l2 HK.out.b2).mono ?_
      rintro e w179 ⟨v179, rfl, k1, g1⟩
      have K1 := Lib.hid k1
      clear k1
      have G1 := Lib.hid g1
      have hz179 := G1.out.size
      clear g1
      have U_180 := Lib.hid (Chg.trans U_170.out (Chg.trans (by repeat (first | exact Chg.refl _ _ | apply Chg.drew | apply Chg.drewN | refine Chg.alloc ?_ _)) G1.out))
      clear U_170
      have I_181 := Lib.hid (I_171.out.up (Chg.trans (by repeat (first | exact Chg.refl _ _ | apply Chg.drew | apply Chg.drewN | refine Chg.alloc ?_ _)) G1.out))
      clear I_171
      have J_182 := Lib.hid (J_172.out.up (Chg.trans (by repeat (first | exact Chg.refl _ _ | apply Chg.drew | apply Chg.drewN | refine Chg.alloc ?_ _)) G1.out))
      clear J_172
      have q0_183 := Chg.cell (Chg.trans (by repeat (first | exact Chg.refl _ _ | apply Chg.drew | apply Chg.drewN | refine Chg.alloc ?_ _)) G1.out) q0_173 id
      clear q0_173
      have q1_184 := Chg.cell (Chg.trans (by repeat (first | exact Chg.refl _ _ | apply Chg.drew | apply Chg.drewN | refine Chg.alloc ?_ _)) G1.out) q1_174 id
      clear q1_174
      obtain ⟨y0_185c, y0_185f⟩ := CellF.up (Chg.trans (by repeat (first | exact Chg.refl _ _ | apply Chg.drew | apply Chg.drewN | refine Chg.alloc ?_ _)) G1.out) ⟨y0_175c, y0_175f⟩
      clear y0_175c y0_175f
      obtain ⟨y1_186c, y1_186f⟩ := CellF.up (Chg.trans (by repeat (first | exact Chg.refl _ _ | apply Chg.drew | apply Chg.drewN | refine Chg.alloc ?_ _)) G1.out) ⟨y1_176c, y1_176f⟩
      clear y1_176c y1_176f
      have K_187 := Lib.hid (K_177.out.up (Chg.trans (by repeat (first | exact Chg.refl _ _ | apply Chg.drew | apply Chg.drewN | refine Chg.alloc ?_ _)) G1.out))
      clear K_177
      have D_188 := Lib.hid (D_178.out.up (Chg.trans (by repeat (first | exact Chg.refl _ _ | apply Chg.drew | apply Chg.drewN | refine Chg.alloc ?_ _)) G1.out))
      clear D_178
      clear G1
      have E_189 := Lib.hid (K1.out)
      clear K1
      have he := E_189.out
      obtain ⟨Ae, ce, rfl, hle, hce, -⟩ := he.shape
      have HEE := Lib.hid (show Ints _ _ _ (colWord b sz) from he)
      rw [show redM (dblM (redM b.ws) sz) = colWord b sz from rfl]
      have hle' : (colWord b sz).length ≤ ce := hle
      clear he hle
      clear E_189
      go_wp2_with fail
      refine (sumOf_any _ S2 _ sz (J_182.out.up (by repeat (first | exact Chg.refl _ _ | apply Chg.drew | apply Chg.drewN | refine Chg.alloc ?_ _))) (by have := HK.out.m; omega) (sz_nonneg HK.out)).mono ?_
      rintro e w' ⟨rfl, rfl⟩
      go_wp2_with fail
      refine (sumOf_any _ S2 _ sz (J_182.out.up (by repeat (first | exact Chg.refl _ _ | apply Chg.drew | apply Chg.drewN | refine Chg.alloc ?_ _))) (by have := HK.out.m; omega) (sz_nonneg HK.out)).mono ?_
      rintro e w' ⟨rfl, rfl⟩
      go_wp2
      have HC := Lib.hid (Chg.setCell (Chg.setCell (Chg.refl (fun b => b = w.heap.size + 1) w179) (p := ⟨w.heap.size + 1, 0, none⟩) (.inl (show w.heap.size + 1 = w.heap.size + 1 from rfl)) (.int .i64 (sumL sz))) (p := ⟨w.heap.size + 1, 1, none⟩) (.inl (show w.heap.size + 1 = w.heap.size + 1 from rfl)) (.slice Ae (colWord b sz).length ce))
      exact bodyPost_ret (v := .tuple #[.agg #[.int .i64 (sumL sz), .slice Ae (colWord b sz).length ce], .int .i64 0]) (by simp [results, Try.results27, go_sem, y0_185c, y1_186c]) rfl ⟨_, ret_mi HE.out.symm, by rw [HO.out]; exact ⟨_, rfl, ((HEE.out.up (by repeat (first | exact Chg.refl _ _ | apply Chg.drew | apply Chg.drewN | refine Chg.alloc ?_ _))).keep HC.out (fun b _ hb hd => by have := hb.1; omega)).mono (fun b _ hb => ⟨by have := hb.1; omega, Nat.lt_of_lt_of_le hb.2 (Nat.le_trans (by omega) HC.out.size)⟩), (show I64 (sumL sz) by unfold I64; omega)⟩, Chg.new (Chg.trans U_180.out (by repeat (first | exact Chg.refl _ _ | apply Chg.drew | apply Chg.drewN | refine Chg.alloc ?_ _))) HC.out (fun i hi hd => by omega)⟩
set_option linter.unusedVariables false in
set_option maxRecDepth 100000 in
set_option maxHeartbeats 8000000 in
theorem sColumnBraid_any (w : World) (S S2 : Nat → Prop) (v u : Value) (b : BraidM) (sz : List Int) (h : BraidV w S v b) (h2 : Ints w S2 u sz) :
    Calls Try.prog 25 #[v, u] w fun e w' => ∃ v', e = .returned (.tuple #[v', .int .i64 (colCode b sz)]) ∧ BraidV w' (New w.heap.size w'.heap.size) v' (colOut b sz) ∧ Up w w' := by
  have hii : I64 b.n := by obtain ⟨_, _, _, h1⟩ := h; exact h1
  obtain ⟨A, c, rfl, h4, h5, h6⟩ := openBraid h
  obtain ⟨A2, c2, rfl, h25, h26, -⟩ := h2.shape
  have HH := Lib.hid h
  have HI := Lib.hid h4
  have HJ := Lib.hid h2
  have HII := Lib.hid hii
  have U0 := Lib.hid (Chg.refl Nowhere w)
  clear h h4 h2 hii
  cases hb : braidB b.n b.ws with
  | false =>
    have HB := Lib.hid hb
    have HE := Lib.hid (colCode_a (sz := sz) hb)
    have HO := Lib.hid (colOut_no HE.out (by omega))
    clear hb
    have U_1 := Lib.hid (Chg.trans U0.out ((Chg.refl Nowhere w).alloc (.cells #[.int .i64 b.n, .slice A b.ws.length c] 44)))
    clear U0
    have I_2 := Lib.hid (HI.out.up ((Chg.refl Nowhere w).alloc (.cells #[.int .i64 b.n, .slice A b.ws.length c] 44)))
    clear HI
    have J_3 := Lib.hid (HJ.out.up ((Chg.refl Nowhere w).alloc (.cells #[.int .i64 b.n, .slice A b.ws.length c] 44)))
    clear HJ
    have H_4 := Lib.hid (HH.out.up ((Chg.refl Nowhere w).alloc (.cells #[.int .i64 b.n, .slice A b.ws.length c] 44)))
    clear HH
    have q0_5 := (show (w.alloc (.cells #[.int .i64 b.n, .slice A b.ws.length c] 44)).cell? ⟨w.heap.size, 0, none⟩ = some (.int .i64 b.n) from cell_new _ _ _ _)
    have q1_6 := (show (w.alloc (.cells #[.int .i64 b.n, .slice A b.ws.length c] 44)).cell? ⟨w.heap.size, 1, none⟩ = some (.slice A b.ws.length c) from cell_new _ _ _ _)
    have hbx7 : w.heap.size < (w.alloc (.cells #[.int .i64 b.n, .slice A b.ws.length c] 44)).heap.size := by simp
    have HA := Lib.hid (show BraidAt (w.alloc (.cells #[.int .i64 b.n, .slice A b.ws.length c] 44)) S w.heap.size 0 b from ⟨A, c, cell_new _ _ _ _, cell_new _ _ _ _, I_2.out, h5, h6, HII.out, by simp⟩)
    go_enter Try.func25, Try.ntmps25
    go_wp2_with fail
    refine (l03Ok_any _ S _ _ b (HA.out.up (by repeat (first | exact Chg.refl _ _ | apply Chg.drew | apply Chg.drewN | refine Chg.alloc ?_ _)))).mono ?_
    rintro e w8 ⟨rfl, g1⟩
    have G1 := Lib.hid g1
    have hz8 := G1.out.size
    clear g1
    have U_9 := Lib.hid (Chg.trans U_1.out (Chg.trans (by repeat (first | exact Chg.refl _ _ | apply Chg.drew | apply Chg.drewN | refine Chg.alloc ?_ _)) G1.out))
    clear U_1
    have I_10 := Lib.hid (I_2.out.up (Chg.trans (by repeat (first | exact Chg.refl _ _ | apply Chg.drew | apply Chg.drewN | refine Chg.alloc ?_ _)) G1.out))
    clear I_2
    have J_11 := Lib.hid (J_3.out.up (Chg.trans (by repeat (first | exact Chg.refl _ _ | apply Chg.drew | apply Chg.drewN | refine Chg.alloc ?_ _)) G1.out))
    clear J_3
    have H_12 := Lib.hid (H_4.out.up (Chg.trans (by repeat (first | exact Chg.refl _ _ | apply Chg.drew | apply Chg.drewN | refine Chg.alloc ?_ _)) G1.out))
    clear H_4
    have q0_13 := Chg.cell (Chg.trans (by repeat (first | exact Chg.refl _ _ | apply Chg.drew | apply Chg.drewN | refine Chg.alloc ?_ _)) G1.out) q0_5 id
    clear q0_5
    have q1_14 := Chg.cell (Chg.trans (by repeat (first | exact Chg.refl _ _ | apply Chg.drew | apply Chg.drewN | refine Chg.alloc ?_ _)) G1.out) q1_6 id
    clear q1_6
    have A_15 := Lib.hid (HA.out.up (Chg.trans (by repeat (first | exact Chg.refl _ _ | apply Chg.drew | apply Chg.drewN | refine Chg.alloc ?_ _)) G1.out))
    clear HA
    obtain ⟨y0_16c, y0_16f⟩ := (show CellF w8 ⟨w.heap.size + 1, 0, none⟩ (.int .i64 0) from CellF.up G1.out (by repeat (first | ((refine cellF_at ?_ rfl); (simp; done)) | refine CellF.up ((Chg.refl _ _).alloc _) ?_)))
    obtain ⟨y1_17c, y1_17f⟩ := (show CellF w8 ⟨w.heap.size + 1, 1, none⟩ (.slice none 0 0) from CellF.up G1.out (by repeat (first | ((refine cellF_at ?_ rfl); (simp; done)) | refine CellF.up ((Chg.refl _ _).alloc _) ?_)))
    clear G1
    clear A_15
    have hzz : w.heap.size + 2 ≤ w8.heap.size := by have := hz8; simp at this; omega
    rw [HB.out]
    clear H_12
    go_wp2
    have HC := Lib.hid (Chg.setCell (Chg.setCell (Chg.refl (fun b => b = w.heap.size + 1) w8) (p := ⟨w.heap.size + 1, 0, none⟩) (.inl (show w.heap.size + 1 = w.heap.size + 1 from rfl)) (.int .i64 (0))) (p := ⟨w.heap.size + 1, 1, none⟩) (.inl (show w.heap.size + 1 = w.heap.size + 1 from rfl)) (.slice none 0 0))
    exact bodyPost_ret (v := .tuple #[.agg #[.int .i64 (0), .slice none 0 0], .int .i64 1]) (by simp [results, Try.results25, go_sem, y0_16c, y1_17c]) rfl ⟨_, ret_mi HE.out.symm, by rw [HO.out]; exact ⟨_, rfl, Ints.nil _ _ _ _ (by omega), (show I64 (0) by unfold I64; omega)⟩, Chg.new (Chg.trans U_9.out (by repeat (first | exact Chg.refl _ _ | apply Chg.drew | apply Chg.drewN | refine Chg.alloc ?_ _))) HC.out (fun i hi hd => by omega)⟩
  | true =>
    have HB := Lib.hid hb
    by_cases hn : (sz.length : Int) = b.n
    rotate_left
    · have hn2 : ((sz.length : Int) != b.n) = true := by simpa using hn
      have HE := Lib.hid (colCode_b hb hn)
      have HO := Lib.hid (colOut_no HE.out (by omega))
      clear hb hn
      have U_18 := Lib.hid (Chg.trans U0.out ((Chg.refl Nowhere w).alloc (.cells #[.int .i64 b.n, .slice A b.ws.length c] 44)))
      clear U0
      have I_19 := Lib.hid (HI.out.up ((Chg.refl Nowhere w).alloc (.cells #[.int .i64 b.n, .slice A b.ws.length c] 44)))
      clear HI
      have J_20 := Lib.hid (HJ.out.up ((Chg.refl Nowhere w).alloc (.cells #[.int .i64 b.n, .slice A b.ws.length c] 44)))
      clear HJ
      have H_21 := Lib.hid (HH.out.up ((Chg.refl Nowhere w).alloc (.cells #[.int .i64 b.n, .slice A b.ws.length c] 44)))
      clear HH
      have q0_22 := (show (w.alloc (.cells #[.int .i64 b.n, .slice A b.ws.length c] 44)).cell? ⟨w.heap.size, 0, none⟩ = some (.int .i64 b.n) from cell_new _ _ _ _)
      have q1_23 := (show (w.alloc (.cells #[.int .i64 b.n, .slice A b.ws.length c] 44)).cell? ⟨w.heap.size, 1, none⟩ = some (.slice A b.ws.length c) from cell_new _ _ _ _)
      have hbx24 : w.heap.size < (w.alloc (.cells #[.int .i64 b.n, .slice A b.ws.length c] 44)).heap.size := by simp
      have HA := Lib.hid (show BraidAt (w.alloc (.cells #[.int .i64 b.n, .slice A b.ws.length c] 44)) S w.heap.size 0 b from ⟨A, c, cell_new _ _ _ _, cell_new _ _ _ _, I_19.out, h5, h6, HII.out, by simp⟩)
      go_enter Try.func25, Try.ntmps25
      go_wp2_with fail
      refine (l03Ok_any _ S _ _ b (HA.out.up (by repeat (first | exact Chg.refl _ _ | apply Chg.drew | apply Chg.drewN | refine Chg.alloc ?_ _)))).mono ?_
      rintro e w25 ⟨rfl, g1⟩
      have G1 := Lib.hid g1
      have hz25 := G1.out.size
      clear g1
      have U_26 := Lib.hid (Chg.trans U_18.out (Chg.trans (by repeat (first | exact Chg.refl _ _ | apply Chg.drew | apply Chg.drewN | refine Chg.alloc ?_ _)) G1.out))
      clear U_18
      have I_27 := Lib.hid (I_19.out.up (Chg.trans (by repeat (first | exact Chg.refl _ _ | apply Chg.drew | apply Chg.drewN | refine Chg.alloc ?_ _)) G1.out))
      clear I_19
      have J_28 := Lib.hid (J_20.out.up (Chg.trans (by repeat (first | exact Chg.refl _ _ | apply Chg.drew | apply Chg.drewN | refine Chg.alloc ?_ _)) G1.out))
      clear J_20
      have H_29 := Lib.hid (H_21.out.up (Chg.trans (by repeat (first | exact Chg.refl _ _ | apply Chg.drew | apply Chg.drewN | refine Chg.alloc ?_ _)) G1.out))
      clear H_21
      have q0_30 := Chg.cell (Chg.trans (by repeat (first | exact Chg.refl _ _ | apply Chg.drew | apply Chg.drewN | refine Chg.alloc ?_ _)) G1.out) q0_22 id
      clear q0_22
      have q1_31 := Chg.cell (Chg.trans (by repeat (first | exact Chg.refl _ _ | apply Chg.drew | apply Chg.drewN | refine Chg.alloc ?_ _)) G1.out) q1_23 id
      clear q1_23
      have A_32 := Lib.hid (HA.out.up (Chg.trans (by repeat (first | exact Chg.refl _ _ | apply Chg.drew | apply Chg.drewN | refine Chg.alloc ?_ _)) G1.out))
      clear HA
      obtain ⟨y0_33c, y0_33f⟩ := (show CellF w25 ⟨w.heap.size + 1, 0, none⟩ (.int .i64 0) from CellF.up G1.out (by repeat (first | ((refine cellF_at ?_ rfl); (simp; done)) | refine CellF.up ((Chg.refl _ _).alloc _) ?_)))
      obtain ⟨y1_34c, y1_34f⟩ := (show CellF w25 ⟨w.heap.size + 1, 1, none⟩ (.slice none 0 0) from CellF.up G1.out (by repeat (first | ((refine cellF_at ?_ rfl); (simp; done)) | refine CellF.up ((Chg.refl _ _).alloc _) ?_)))
      clear G1
      clear A_32
      have hzz : w.heap.size + 2 ≤ w25.heap.size := by have := hz25; simp at this; omega
      rw [HB.out]
      clear H_29
      go_wp2
      have HC := Lib.hid (Chg.setCell (Chg.setCell (Chg.refl (fun b => b = w.heap.size + 1) w25) (p := ⟨w.heap.size + 1, 0, none⟩) (.inl (show w.heap.size + 1 = w.heap.size + 1 from rfl)) (.int .i64 (0))) (p := ⟨w.heap.size + 1, 1, none⟩) (.inl (show w.heap.size + 1 = w.heap.size + 1 from rfl)) (.slice none 0 0))
      exact bodyPost_ret (v := .tuple #[.agg #[.int .i64 (0), .slice none 0 0], .int .i64 1]) (by simp [results, Try.results25, go_sem, y0_33c, y1_34c]) rfl ⟨_, ret_mi HE.out.symm, by rw [HO.out]; exact ⟨_, rfl, Ints.nil _ _ _ _ (by omega), (show I64 (0) by unfold I64; omega)⟩, Chg.new (Chg.trans U_26.out (by repeat (first | exact Chg.refl _ _ | apply Chg.drew | apply Chg.drewN | refine Chg.alloc ?_ _))) HC.out (fun i hi hd => by omega)⟩
    have hn2 : ((sz.length : Int) != b.n) = false := by simpa using hn
    have HN := Lib.hid hn
    clear hn
    have U_35 := Lib.hid (Chg.trans U0.out ((Chg.refl Nowhere w).alloc (.cells #[.int .i64 b.n, .slice A b.ws.length c] 44)))
    clear U0
    have I_36 := Lib.hid (HI.out.up ((Chg.refl Nowhere w).alloc (.cells #[.int .i64 b.n, .slice A b.ws.length c] 44)))
    clear HI
    have J_37 := Lib.hid (HJ.out.up ((Chg.refl Nowhere w).alloc (.cells #[.int .i64 b.n, .slice A b.ws.length c] 44)))
    clear HJ
    have H_38 := Lib.hid (HH.out.up ((Chg.refl Nowhere w).alloc (.cells #[.int .i64 b.n, .slice A b.ws.length c] 44)))
    clear HH
    have q0_39 := (show (w.alloc (.cells #[.int .i64 b.n, .slice A b.ws.length c] 44)).cell? ⟨w.heap.size, 0, none⟩ = some (.int .i64 b.n) from cell_new _ _ _ _)
    have q1_40 := (show (w.alloc (.cells #[.int .i64 b.n, .slice A b.ws.length c] 44)).cell? ⟨w.heap.size, 1, none⟩ = some (.slice A b.ws.length c) from cell_new _ _ _ _)
    have hbx41 : w.heap.size < (w.alloc (.cells #[.int .i64 b.n, .slice A b.ws.length c] 44)).heap.size := by simp
    have HA := Lib.hid (show BraidAt (w.alloc (.cells #[.int .i64 b.n, .slice A b.ws.length c] 44)) S w.heap.size 0 b from ⟨A, c, cell_new _ _ _ _, cell_new _ _ _ _, I_36.out, h5, h6, HII.out, by simp⟩)
    go_enter Try.func25, Try.ntmps25
    go_wp2_with fail
    refine (l03Ok_any _ S _ _ b (HA.out.up (by repeat (first | exact Chg.refl _ _ | apply Chg.drew | apply Chg.drewN | refine Chg.alloc ?_ _)))).mono ?_
    rintro e w42 ⟨rfl, g1⟩
    have G1 := Lib.hid g1
    have hz42 := G1.out.size
    clear g1
    have U_43 := Lib.hid (Chg.trans U_35.out (Chg.trans (by repeat (first | exact Chg.refl _ _ | apply Chg.drew | apply Chg.drewN | refine Chg.alloc ?_ _)) G1.out))
    clear U_35
    have I_44 := Lib.hid (I_36.out.up (Chg.trans (by repeat (first | exact Chg.refl _ _ | apply Chg.drew | apply Chg.drewN | refine Chg.alloc ?_ _)) G1.out))
    clear I_36
    have J_45 := Lib.hid (J_37.out.up (Chg.trans (by repeat (first | exact Chg.refl _ _ | apply Chg.drew | apply Chg.drewN | refine Chg.alloc ?_ _)) G1.out))
    clear J_37
    have H_46 := Lib.hid (H_38.out.up (Chg.trans (by repeat (first | exact Chg.refl _ _ | apply Chg.drew | apply Chg.drewN | refine Chg.alloc ?_ _)) G1.out))
    clear H_38
    have q0_47 := Chg.cell (Chg.trans (by repeat (first | exact Chg.refl _ _ | apply Chg.drew | apply Chg.drewN | refine Chg.alloc ?_ _)) G1.out) q0_39 id
    clear q0_39
    have q1_48 := Chg.cell (Chg.trans (by repeat (first | exact Chg.refl _ _ | apply Chg.drew | apply Chg.drewN | refine Chg.alloc ?_ _)) G1.out) q1_40 id
    clear q1_40
    have A_49 := Lib.hid (HA.out.up (Chg.trans (by repeat (first | exact Chg.refl _ _ | apply Chg.drew | apply Chg.drewN | refine Chg.alloc ?_ _)) G1.out))
    clear HA
    obtain ⟨y0_50c, y0_50f⟩ := (show CellF w42 ⟨w.heap.size + 1, 0, none⟩ (.int .i64 0) from CellF.up G1.out (by repeat (first | ((refine cellF_at ?_ rfl); (simp; done)) | refine CellF.up ((Chg.refl _ _).alloc _) ?_)))
    obtain ⟨y1_51c, y1_51f⟩ := (show CellF w42 ⟨w.heap.size + 1, 1, none⟩ (.slice none 0 0) from CellF.up G1.out (by repeat (first | ((refine cellF_at ?_ rfl); (simp; done)) | refine CellF.up ((Chg.refl _ _).alloc _) ?_)))
    clear G1
    clear A_49
    have hzz : w.heap.size + 2 ≤ w42.heap.size := by have := hz42; simp at this; omega
    rw [HB.out]
    clear H_46
    have hbl := (braidB_iff.1 hb).len
    have hbn := (braidB_iff.1 hb).n1
    have hszl : sz.length ≤ 12 := by have := HN.out; omega
    go_wp2
    go_loop [6, 7] (fun s i => ∃ j : Nat, j ≤ sz.length ∧ i = .int .i64 j ∧ s = .int .i64 (sumL (sz.take j)) ∧ Hid ((sz.take j).any badSize = false)) (fun _ i => sz.length - (intOf i).toNat)
    case atStart => exact ⟨0, by omega, rfl, rfl, rfl⟩
    case round =>
      obtain ⟨j, hj, rfl, rfl, hok⟩ := hrel
      by_cases hlt : j < sz.length
      · obtain ⟨b1, o1, rfl, -, hc⟩ := J_45.out.ix hlt
        have f1 := hc j hlt
        rw [ix_eq hlt] at f1
        clear hc
        have HSS := Lib.hid (sum_take_succ hlt)
        have hsb := sum_bad_le hok.out
        have hlj : (sz.take j).length ≤ j := List.length_take_le j sz
        obtain ⟨x, hx⟩ : ∃ x, sz[j] = x := ⟨_, rfl⟩
        rw [hx] at f1
        have hgd : sz.getD j 0 = x := by rw [List.getD_eq_getElem?_getD, List.getElem?_eq_getElem hlt, Option.getD_some, hx]
        rw [hgd] at HSS
        have HX := Lib.hid hx
        clear hx hgd
        by_cases hin : 1 ≤ x ∧ x ≤ 4
        rotate_left
        · have HE := Lib.hid (colCode_c hb HN.out (List.any_eq_true.2 ⟨x, HX.out ▸ List.getElem_mem hlt, by unfold badSize inB; rw [decide_eq_false hin]; rfl⟩))
          have HO := Lib.hid (colOut_no HE.out (by omega))
          have HQ := Lib.hid (show x < 1 ∨ 4 < x by omega)
          clear hb hin
          go_wp2_with fail
          refine (l00In_no _ _ _ _ HQ.out).mono ?_
          rintro e w' ⟨rfl, rfl⟩
          go_wp2
          have HC := Lib.hid (Chg.setCell (Chg.setCell (Chg.refl (fun b => b = w.heap.size + 1) w42) (p := ⟨w.heap.size + 1, 0, none⟩) (.inl (show w.heap.size + 1 = w.heap.size + 1 from rfl)) (.int .i64 (0))) (p := ⟨w.heap.size + 1, 1, none⟩) (.inl (show w.heap.size + 1 = w.heap.size + 1 from rfl)) (.slice none 0 0))
          exact bodyPost_ret (v := .tuple #[.agg #[.int .i64 (0), .slice none 0 0], .int .i64 2]) (by simp [results, Try.results25, go_sem, y0_50c, y1_51c]) rfl ⟨_, ret_mi HE.out.symm, by rw [HO.out]; exact ⟨_, rfl, Ints.nil _ _ _ _ (by omega), (show I64 (0) by unfold I64; omega)⟩, Chg.new (Chg.trans U_43.out (by repeat (first | exact Chg.refl _ _ | apply Chg.drew | apply Chg.drewN | refine Chg.alloc ?_ _))) HC.out (fun i hi hd => by omega)⟩
        have HQ := Lib.hid hin
        have hin1 := hin.1
        have hin2 := hin.2
        clear hin
        go_wp2_with fail
        refine (l00In_yes _ _ _ _ HQ.out).mono ?_
        rintro e w' ⟨rfl, rfl⟩
        go_wp2
        go_round
        case rel => exact ⟨j + 1, by omega, by go_num, by rw [HSS.out], any_take hlt hok.out (by rw [HX.out]; unfold badSize inB; rw [decide_eq_true HQ.out]; rfl)⟩
        case measure => first | (simp [intOf]; done) | (simp [intOf]; omega)
      obtain rfl : j = sz.length := by omega
      have hs : sz.any badSize = false := by have := hok.out; rwa [List.take_length] at this
      rw [List.take_length]
      have HS := Lib.hid hs
      have HK := Lib.hid (col_ok hb HN.out hs)
      have hs0 := HK.out.s0
      clear hs hok
      go_wp2_with fail
      refine (l03Reduce_any _ S _ b.ws (I_44.out.up (by repeat (first | exact Chg.refl _ _ | apply Chg.drew | apply Chg.drewN | refine Chg.alloc ?_ _))) (by have := HK.out.l0; omega) HK.out.w0).mono ?_
      rintro e w52 ⟨v52, rfl, k1, g1⟩
      obtain ⟨A52, c52, rfl, hl52, hc52, -⟩ := k1.shape
      have K1 := Lib.hid k1
      clear k1
      have G1 := Lib.hid g1
      have hz52 := G1.out.size
      clear g1
      have U_53 := Lib.hid (Chg.trans U_43.out (Chg.trans (by repeat (first | exact Chg.refl _ _ | apply Chg.drew | apply Chg.drewN | refine Chg.alloc ?_ _)) G1.out))
      clear U_43
      have I_54 := Lib.hid (I_44.out.up (Chg.trans (by repeat (first | exact Chg.refl _ _ | apply Chg.drew | apply Chg.drewN | refine Chg.alloc ?_ _)) G1.out))
      clear I_44
      have J_55 := Lib.hid (J_45.out.up (Chg.trans (by repeat (first | exact Chg.refl _ _ | apply Chg.drew | apply Chg.drewN | refine Chg.alloc ?_ _)) G1.out))
      clear J_45
      have q0_56 := Chg.cell (Chg.trans (by repeat (first | exact Chg.refl _ _ | apply Chg.drew | apply Chg.drewN | refine Chg.alloc ?_ _)) G1.out) q0_47 id
      clear q0_47
      have q1_57 := Chg.cell (Chg.trans (by repeat (first | exact Chg.refl _ _ | apply Chg.drew | apply Chg.drewN | refine Chg.alloc ?_ _)) G1.out) q1_48 id
      clear q1_48
      obtain ⟨y0_58c, y0_58f⟩ := CellF.up (Chg.trans (by repeat (first | exact Chg.refl _ _ | apply Chg.drew | apply Chg.drewN | refine Chg.alloc ?_ _)) G1.out) ⟨y0_50c, y0_50f⟩
      clear y0_50c y0_50f
      obtain ⟨y1_59c, y1_59f⟩ := CellF.up (Chg.trans (by repeat (first | exact Chg.refl _ _ | apply Chg.drew | apply Chg.drewN | refine Chg.alloc ?_ _)) G1.out) ⟨y1_51c, y1_51f⟩
      clear y1_51c y1_51f
      clear G1
      have K_60 := Lib.hid (K1.out)
      clear K1
      go_wp2_with fail
      refine (l03Double_any _ _ S2 _ _ (redM b.ws) sz sz.length (K_60.out.up (by repeat (first | exact Chg.refl _ _ | apply Chg.drew | apply Chg.drewN | refine Chg.alloc ?_ _))) (J_55.out.up (by repeat (first | exact Chg.refl _ _ | apply Chg.drew | apply Chg.drewN | refine Chg.alloc ?_ _))) HK.out.sz_ HK.out.w1 HK.out.l1 (by have := HK.out.m; omega)).mono ?_
      rintro e w61 ⟨v61, rfl, k1, g1⟩
      obtain ⟨A61, c61, rfl, hl61, hc61, -⟩ := k1.shape
      have K1 := Lib.hid k1
      clear k1
      have G1 := Lib.hid g1
      have hz61 := G1.out.size
      clear g1
      have U_62 := Lib.hid (Chg.trans U_53.out (Chg.trans (by repeat (first | exact Chg.refl _ _ | apply Chg.drew | apply Chg.drewN | refine Chg.alloc ?_ _)) G1.out))
      clear U_53
      have I_63 := Lib.hid (I_54.out.up (Chg.trans (by repeat (first | exact Chg.refl _ _ | apply Chg.drew | apply Chg.drewN | refine Chg.alloc ?_ _)) G1.out))
      clear I_54
      have J_64 := Lib.hid (J_55.out.up (Chg.trans (by repeat (first | exact Chg.refl _ _ | apply Chg.drew | apply Chg.drewN | refine Chg.alloc ?_ _)) G1.out))
      clear J_55
      have q0_65 := Chg.cell (Chg.trans (by repeat (first | exact Chg.refl _ _ | apply Chg.drew | apply Chg.drewN | refine Chg.alloc ?_ _)) G1.out) q0_56 id
      clear q0_56
      have q1_66 := Chg.cell (Chg.trans (by repeat (first | exact Chg.refl _ _ | apply Chg.drew | apply Chg.drewN | refine Chg.alloc ?_ _)) G1.out) q1_57 id
      clear q1_57
      obtain ⟨y0_67c, y0_67f⟩ := CellF.up (Chg.trans (by repeat (first | exact Chg.refl _ _ | apply Chg.drew | apply Chg.drewN | refine Chg.alloc ?_ _)) G1.out) ⟨y0_58c, y0_58f⟩
      clear y0_58c y0_58f
      obtain ⟨y1_68c, y1_68f⟩ := CellF.up (Chg.trans (by repeat (first | exact Chg.refl _ _ | apply Chg.drew | apply Chg.drewN | refine Chg.alloc ?_ _)) G1.out) ⟨y1_59c, y1_59f⟩
      clear y1_59c y1_59f
      have K_69 := Lib.hid (K_60.out.up (Chg.trans (by repeat (first | exact Chg.refl _ _ | apply Chg.drew | apply Chg.drewN | refine Chg.alloc ?_ _)) G1.out))
      clear K_60
      clear G1
      have D_70 := Lib.hid (K1.out)
      clear K1
      go_wp2_with fail
      refine (l03Reduce_any _ _ _ (dblM (redM b.ws) sz) (D_70.out.up (by repeat (first | exact Chg.refl _ _ | apply Chg.drew | apply Chg.drewN | refine Chg.alloc ?_ _))) HK.out.l2 HK.out.b2).mono ?_
      rintro e w71 ⟨v71, rfl, k1, g1⟩
      have K1 := Lib.hid k1
      clear k1
      have G1 := Lib.hid g1
      have hz71 := G1.out.size
      clear g1
      have U_72 := Lib.hid (Chg.trans U_62.out (Chg.trans (by repeat (first | exact Chg.refl _ _ | apply Chg.drew | apply Chg.drewN | refine Chg.alloc ?_ _)) G1.out))
      clear U_62
      have I_73 := Lib.hid (I_63.out.up (Chg.trans (by repeat (first | exact Chg.refl _ _ | apply Chg.drew | apply Chg.drewN | refine Chg.alloc ?_ _)) G1.out))
      clear I_63
      have J_74 := Lib.hid (J_64.out.up (Chg.trans (by repeat (first | exact Chg.refl _ _ | apply Chg.drew | apply Chg.drewN | refine Chg.alloc ?_ _)) G1.out))
      clear J_64
      have q0_75 := Chg.cell (Chg.trans (by repeat (first | exact Chg.refl _ _ | apply Chg.drew | apply Chg.drewN | refine Chg.alloc ?_ _)) G1.out) q0_65 id
      clear q0_65
      have q1_76 := Chg.cell (Chg.trans (by repeat (first | exact Chg.refl _ _ | apply Chg.drew | apply Chg.drewN | refine Chg.alloc ?_ _)) G1.out) q1_66 id
      clear q1_66
      obtain ⟨y0_77c, y0_77f⟩ := CellF.up (Chg.trans (by repeat (first | exact Chg.refl _ _ | apply Chg.drew | apply Chg.drewN | refine Chg.alloc ?_ _)) G1.out) ⟨y0_67c, y0_67f⟩
      clear y0_67c y0_67f
      obtain ⟨y1_78c, y1_78f⟩ := CellF.up (Chg.trans (by repeat (first | exact Chg.refl _ _ | apply Chg.drew | apply Chg.drewN | refine Chg.alloc ?_ _)) G1.out) ⟨y1_68c, y1_68f⟩
      clear y1_68c y1_68f
      have K_79 := Lib.hid (K_69.out.up (Chg.trans (by repeat (first | exact Chg.refl _ _ | apply Chg.drew | apply Chg.drewN | refine Chg.alloc ?_ _)) G1.out))
      clear K_69
      have D_80 := Lib.hid (D_70.out.up (Chg.trans (by repeat (first | exact Chg.refl _ _ | apply Chg.drew | apply Chg.drewN | refine Chg.alloc ?_ _)) G1.out))
      clear D_70
      clear G1
      have E_81 := Lib.hid (K1.out)
      clear K1
      have he := E_81.out
      obtain ⟨Ae, ce, rfl, hle, hce, -⟩ := he.shape
      have HEE := Lib.hid (show Ints _ _ _ (colWord b sz) from he)
      rw [show redM (dblM (redM b.ws) sz) = colWord b sz from rfl]
      have hle' : (colWord b sz).length ≤ ce := hle
      have HLE := Lib.hid hle'
      clear he hle
      clear E_81
      have HI8 := Lib.hid (show I64 (sumL sz) by unfold I64; omega)
      have HA8 := Lib.hid (show BraidAt (w71.alloc (.cells #[.int .i64 (sumL sz), .slice Ae (colWord b sz).length ce] 44)) _ w71.heap.size 0 ⟨sumL sz, colWord b sz⟩ from ⟨Ae, ce, cell_new _ _ _ _, cell_new _ _ _ _, (HEE.out.up ((Chg.refl Nowhere _).alloc _)), hle', hce, HI8.out, by simp⟩)
      have hcase : (12 < sumL sz ∨ 40 < (colWord b sz).length) ∨ (¬ 12 < sumL sz ∧ ¬ 40 < (colWord b sz).length) := by omega
      rcases hcase with hc | hc
      · skip
        have HE := Lib.hid (show colCode b sz = 5 by rcases hc with hc | hc; exact colCode_d hb HN.out HS.out hc; by_cases hd : 12 < sumL sz; exact colCode_d hb HN.out HS.out hd; exact colCode_e hb HN.out HS.out hd hc)
        have HO := Lib.hid (colOut_no HE.out (by omega))
        have HV := Lib.hid (show braidB (sumL sz) (colWord b sz) = false by rw [HK.out.braid]; simp; omega)
        clear hb
        have h8 : w71.heap.size < (w71.alloc (.cells #[.int .i64 (sumL sz), .slice Ae (colWord b sz).length ce] 44)).heap.size := by simp
        go_wp2_with fail
        refine (l03Ok_any _ _ _ _ ⟨sumL sz, colWord b sz⟩ HA8.out).mono ?_
        rintro e w9 ⟨rfl, g1⟩
        have G1 := Lib.hid g1
        have hz9 := G1.out.size
        clear g1
        have hz9' : w71.heap.size < w9.heap.size := by simp at hz9; omega
        have U_82 := Lib.hid (Chg.trans U_72.out (Chg.trans (by repeat (first | exact Chg.refl _ _ | apply Chg.drew | apply Chg.drewN | refine Chg.alloc ?_ _)) G1.out))
        clear U_72
        have I_83 := Lib.hid (I_73.out.up (Chg.trans (by repeat (first | exact Chg.refl _ _ | apply Chg.drew | apply Chg.drewN | refine Chg.alloc ?_ _)) G1.out))
        clear I_73
        have J_84 := Lib.hid (J_74.out.up (Chg.trans (by repeat (first | exact Chg.refl _ _ | apply Chg.drew | apply Chg.drewN | refine Chg.alloc ?_ _)) G1.out))
        clear J_74
        have q0_85 := Chg.cell (Chg.trans (by repeat (first | exact Chg.refl _ _ | apply Chg.drew | apply Chg.drewN | refine Chg.alloc ?_ _)) G1.out) q0_75 id
        clear q0_75
        have q1_86 := Chg.cell (Chg.trans (by repeat (first | exact Chg.refl _ _ | apply Chg.drew | apply Chg.drewN | refine Chg.alloc ?_ _)) G1.out) q1_76 id
        clear q1_76
        obtain ⟨y0_87c, y0_87f⟩ := CellF.up (Chg.trans (by repeat (first | exact Chg.refl _ _ | apply Chg.drew | apply Chg.drewN | refine Chg.alloc ?_ _)) G1.out) ⟨y0_77c, y0_77f⟩
        clear y0_77c y0_77f
        obtain ⟨y1_88c, y1_88f⟩ := CellF.up (Chg.trans (by repeat (first | exact Chg.refl _ _ | apply Chg.drew | apply Chg.drewN | refine Chg.alloc ?_ _)) G1.out) ⟨y1_78c, y1_78f⟩
        clear y1_78c y1_78f
        have K_89 := Lib.hid (K_79.out.up (Chg.trans (by repeat (first | exact Chg.refl _ _ | apply Chg.drew | apply Chg.drewN | refine Chg.alloc ?_ _)) G1.out))
        clear K_79
        have D_90 := Lib.hid (D_80.out.up (Chg.trans (by repeat (first | exact Chg.refl _ _ | apply Chg.drew | apply Chg.drewN | refine Chg.alloc ?_ _)) G1.out))
        clear D_80
        have E_91 := Lib.hid (HEE.out.up (Chg.trans (by repeat (first | exact Chg.refl _ _ | apply Chg.drew | apply Chg.drewN | refine Chg.alloc ?_ _)) G1.out))
        clear HEE
        clear G1
        rw [HV.out]
        go_wp2
        have HC := Lib.hid (Chg.setCell (Chg.setCell (Chg.refl (fun b => b = w.heap.size + 1) w9) (p := ⟨w.heap.size + 1, 0, none⟩) (.inl (show w.heap.size + 1 = w.heap.size + 1 from rfl)) (.int .i64 (0))) (p := ⟨w.heap.size + 1, 1, none⟩) (.inl (show w.heap.size + 1 = w.heap.size + 1 from rfl)) (.slice none 0 0))
        exact bodyPost_ret (v := .tuple #[.agg #[.int .i64 (0), .slice none 0 0], .int .i64 5]) (by simp [results, Try.results25, go_sem, y0_87c, y1_88c]) rfl ⟨_, ret_mi HE.out.symm, by rw [HO.out]; exact ⟨_, rfl, Ints.nil _ _ _ _ (by omega), (show I64 (0) by unfold I64; omega)⟩, Chg.new (Chg.trans U_82.out (by repeat (first | exact Chg.refl _ _ | apply Chg.drew | apply Chg.drewN | refine Chg.alloc ?_ _))) HC.out (fun i hi hd => by omega)⟩
      · skip
        have HE := Lib.hid (colCode_f hb HN.out HS.out hc.1 hc.2)
        have HO := Lib.hid (colOut_yes HE.out)
        have HV := Lib.hid (show braidB (sumL sz) (colWord b sz) = true by rw [HK.out.braid]; simp; omega)
        clear hb
        have h8 : w71.heap.size < (w71.alloc (.cells #[.int .i64 (sumL sz), .slice Ae (colWord b sz).length ce] 44)).heap.size := by simp
        go_wp2_with fail
        refine (l03Ok_any _ _ _ _ ⟨sumL sz, colWord b sz⟩ HA8.out).mono ?_
        rintro e w9 ⟨rfl, g1⟩
        have G1 := Lib.hid g1
        have hz9 := G1.out.size
        clear g1
        have hz9' : w71.heap.size < w9.heap.size := by simp at hz9; omega
        have U_82 := Lib.hid (Chg.trans U_72.out (Chg.trans (by repeat (first | exact Chg.refl _ _ | apply Chg.drew | apply Chg.drewN | refine Chg.alloc ?_ _)) G1.out))
        clear U_72
        have I_83 := Lib.hid (I_73.out.up (Chg.trans (by repeat (first | exact Chg.refl _ _ | apply Chg.drew | apply Chg.drewN | refine Chg.alloc ?_ _)) G1.out))
        clear I_73
        have J_84 := Lib.hid (J_74.out.up (Chg.trans (by repeat (first | exact Chg.refl _ _ | apply Chg.drew | apply Chg.drewN | refine Chg.alloc ?_ _)) G1.out))
        clear J_74
        have q0_85 := Chg.cell (Chg.trans (by repeat (first | exact Chg.refl _ _ | apply Chg.drew | apply Chg.drewN | refine Chg.alloc ?_ _)) G1.out) q0_75 id
        clear q0_75
        have q1_86 := Chg.cell (Chg.trans (by repeat (first | exact Chg.refl _ _ | apply Chg.drew | apply Chg.drewN | refine Chg.alloc ?_ _)) G1.out) q1_76 id
        clear q1_76
        obtain ⟨y0_87c, y0_87f⟩ := CellF.up (Chg.trans (by repeat (first | exact Chg.refl _ _ | apply Chg.drew | apply Chg.drewN | refine Chg.alloc ?_ _)) G1.out) ⟨y0_77c, y0_77f⟩
        clear y0_77c y0_77f
        obtain ⟨y1_88c, y1_88f⟩ := CellF.up (Chg.trans (by repeat (first | exact Chg.refl _ _ | apply Chg.drew | apply Chg.drewN | refine Chg.alloc ?_ _)) G1.out) ⟨y1_78c, y1_78f⟩
        clear y1_78c y1_78f
        have K_89 := Lib.hid (K_79.out.up (Chg.trans (by repeat (first | exact Chg.refl _ _ | apply Chg.drew | apply Chg.drewN | refine Chg.alloc ?_ _)) G1.out))
        clear K_79
        have D_90 := Lib.hid (D_80.out.up (Chg.trans (by repeat (first | exact Chg.refl _ _ | apply Chg.drew | apply Chg.drewN | refine Chg.alloc ?_ _)) G1.out))
        clear D_80
        have E_91 := Lib.hid (HEE.out.up (Chg.trans (by repeat (first | exact Chg.refl _ _ | apply Chg.drew | apply Chg.drewN | refine Chg.alloc ?_ _)) G1.out))
        clear HEE
        obtain ⟨Af, cf, z0, z1, z2, -, -, -, -⟩ := HA8.out.up G1.out
        obtain ⟨rfl, rfl⟩ : Ae = Af ∧ ce = cf := by have h1 := Chg.cell G1.out (cell_new w71 _ _ 1) id; have := z1.symm.trans h1; simpa [eq_comm] using this
        clear G1
        rw [HV.out]
        rw [Nat.zero_add] at z1
        go_wp2
        have HC := Lib.hid (Chg.setCell (Chg.setCell (Chg.refl (fun b => b = w.heap.size + 1) w9) (p := ⟨w.heap.size + 1, 0, none⟩) (.inl (show w.heap.size + 1 = w.heap.size + 1 from rfl)) (.int .i64 (sumL sz))) (p := ⟨w.heap.size + 1, 1, none⟩) (.inl (show w.heap.size + 1 = w.heap.size + 1 from rfl)) (.slice Ae (colWord b sz).length ce))
        exact bodyPost_ret (v := .tuple #[.agg #[.int .i64 (sumL sz), .slice Ae (colWord b sz).length ce], .int .i64 0]) (by simp [results, Try.results25, go_sem, y0_87c, y1_88c]) rfl ⟨_, ret_mi HE.out.symm, by rw [HO.out]; exact ⟨_, rfl, ((E_91.out.up (by repeat (first | exact Chg.refl _ _ | apply Chg.drew | apply Chg.drewN | refine Chg.alloc ?_ _))).keep HC.out (fun b _ hb hd => by have := hb.1; omega)).mono (fun b _ hb => ⟨by have := hb.1; omega, Nat.lt_of_lt_of_le hb.2 (Nat.le_trans (by omega) HC.out.size)⟩), HI8.out⟩, Chg.new (Chg.trans U_82.out (by repeat (first | exact Chg.refl _ _ | apply Chg.drew | apply Chg.drewN | refine Chg.alloc ?_ _))) HC.out (fun i hi hd => by omega)⟩
end Go.Proofs.Ytmimbnpcokfnlaa
namespace Go.Proofs.Ytmimbnpcokfnlaa
open Go.ChangeShapes Go.WideShapes Go.ChangeAt Go.RowKit
def MBraid (w : World) (S : Nat → Prop) (v : Value) (b : BraidM) (k : Int) : Prop := ∃ s, v = .agg #[.int .i64 b.n, s] ∧ MInts w S s b.ws k ∧ I64 b.n
theorem MBraid.keep {S T : Nat → Prop} {w w' : World} {v : Value} {b : BraidM} {k : Int} (h : MBraid w S v b k) (g : Chg T w w') (hd : ∀ b, b < w.heap.size → S b → ¬ T b) : MBraid w' S v b k :=
  let ⟨s, h1, h2, h3⟩ := h; ⟨s, h1, MInts.keep h2 g hd, h3⟩
theorem MBraid.up {S : Nat → Prop} {w w' : World} {v : Value} {b : BraidM} {k : Int} (h : MBraid w S v b k) (g : Up w w') : MBraid w' S v b k := h.keep g fun _ _ _ h => h
def cntBraid (b : BraidM) : Nat := cntInts b.ws
theorem markBraid_res (w : World) (S : Nat → Prop) (v : Value) (b : BraidM) (k : Int) (hk : 0 ≤ k) (hb : k + cntBraid b ≤ 4611686018427387904) (h : BraidV w S v b) :
    Calls Try.prog 29 #[v, .int .i64 k] w fun e w' => e = .returned (.int .i64 (k + cntBraid b)) ∧ Chg S w w' ∧ MBraid w' S v b k := by
  have hii : I64 b.n := by obtain ⟨_, _, _, h1⟩ := h; exact h1
  have HII := Lib.hid hii
  obtain ⟨A, c, rfl, h4, h5, h6⟩ := openBraid h
  clear hii
  have I0 := Lib.hid h4
  have U0 := Lib.hid (Chg.refl Nowhere w)
  clear h4 h
  have U_1 := Lib.hid (Chg.trans U0.out ((Chg.refl Nowhere w).alloc (.cells #[.int .i64 b.n, .slice A b.ws.length c] 44)))
  clear U0
  have I_2 := Lib.hid (I0.out.up ((Chg.refl Nowhere w).alloc (.cells #[.int .i64 b.n, .slice A b.ws.length c] 44)))
  clear I0
  have q0_3 := (show (w.alloc (.cells #[.int .i64 b.n, .slice A b.ws.length c] 44)).cell? ⟨w.heap.size, 0, none⟩ = some (.int .i64 b.n) from cell_new _ _ _ _)
  have q1_4 := (show (w.alloc (.cells #[.int .i64 b.n, .slice A b.ws.length c] 44)).cell? ⟨w.heap.size, 1, none⟩ = some (.slice A b.ws.length c) from cell_new _ _ _ _)
  have hbx5 : w.heap.size < (w.alloc (.cells #[.int .i64 b.n, .slice A b.ws.length c] 44)).heap.size := by simp
  go_enter Try.func29, Try.ntmps29
  go_wp2_with fail
  refine (markInts _ S _ b.ws k hk hb (I_2.out.up (by repeat (first | exact Chg.refl _ _ | apply Chg.drew | apply Chg.drewN | refine Chg.alloc ?_ _)))).mono ?_
  rintro e w1 ⟨rfl, g1, k1⟩
  have G1 := Lib.hid g1
  have K1 := Lib.hid k1
  clear g1 k1
  go_wp2
  go_ret
  exact ⟨rfl, Chg.trans (Chg.of_up (Chg.trans U_1.out (by repeat (first | exact Chg.refl _ _ | apply Chg.drew | apply Chg.drewN | refine Chg.alloc ?_ _)))) G1.out, ⟨_, rfl, K1.out, HII.out⟩⟩
theorem heldBraid_any (w : World) (S : Nat → Prop) (v : Value) (b : BraidM) (k : Int) (hk : 0 ≤ k) (hb : k + cntBraid b ≤ 4611686018427387904) (h : MBraid w S v b k) :
    Calls Try.prog 30 #[v, .int .i64 k] w fun e w' => e = .returned (.int .i64 (k + cntBraid b)) ∧ Up w w' := by
  unfold cntBraid at *
  obtain ⟨s, rfl, h4, hii⟩ := h
  obtain ⟨A, c, rfl, h5, h6, -⟩ := Ints.shape h4
  rw [marks_length] at *
  have HM := Lib.hid h4
  have HII := Lib.hid hii
  have U0 := Lib.hid (Chg.refl Nowhere w)
  clear h4 hii
  have U_1 := Lib.hid (Chg.trans U0.out ((Chg.refl Nowhere w).alloc (.cells #[.int .i64 b.n, .slice A b.ws.length c] 44)))
  clear U0
  have M_2 := Lib.hid (HM.out.up ((Chg.refl Nowhere w).alloc (.cells #[.int .i64 b.n, .slice A b.ws.length c] 44)))
  clear HM
  have q0_3 := (show (w.alloc (.cells #[.int .i64 b.n, .slice A b.ws.length c] 44)).cell? ⟨w.heap.size, 0, none⟩ = some (.int .i64 b.n) from cell_new _ _ _ _)
  have q1_4 := (show (w.alloc (.cells #[.int .i64 b.n, .slice A b.ws.length c] 44)).cell? ⟨w.heap.size, 1, none⟩ = some (.slice A b.ws.length c) from cell_new _ _ _ _)
  have hbx5 : w.heap.size < (w.alloc (.cells #[.int .i64 b.n, .slice A b.ws.length c] 44)).heap.size := by simp
  go_enter Try.func30, Try.ntmps30
  have hneg : decide (k + (cntInts b.ws : Int) < 0) = false := decide_eq_false (by omega)
  go_wp2_with fail
  refine (heldInts _ S _ b.ws k hk hb (M_2.out.up (by repeat (first | exact Chg.refl _ _ | apply Chg.drew | apply Chg.drewN | refine Chg.alloc ?_ _)))).mono ?_
  rintro e w6 ⟨rfl, g1⟩
  have G1 := Lib.hid g1
  have hz6 := G1.out.size
  clear g1
  have U_7 := Lib.hid (Chg.trans U_1.out (Chg.trans (by repeat (first | exact Chg.refl _ _ | apply Chg.drew | apply Chg.drewN | refine Chg.alloc ?_ _)) G1.out))
  clear U_1
  have M_8 := Lib.hid (M_2.out.up (Chg.trans (by repeat (first | exact Chg.refl _ _ | apply Chg.drew | apply Chg.drewN | refine Chg.alloc ?_ _)) G1.out))
  clear M_2
  have q0_9 := Chg.cell (Chg.trans (by repeat (first | exact Chg.refl _ _ | apply Chg.drew | apply Chg.drewN | refine Chg.alloc ?_ _)) G1.out) q0_3 id
  clear q0_3
  have q1_10 := Chg.cell (Chg.trans (by repeat (first | exact Chg.refl _ _ | apply Chg.drew | apply Chg.drewN | refine Chg.alloc ?_ _)) G1.out) q1_4 id
  clear q1_4
  clear G1
  go_wp2
  go_ret
  exact ⟨rfl, (Chg.trans U_7.out (by repeat (first | exact Chg.refl _ _ | apply Chg.drew | apply Chg.drewN | refine Chg.alloc ?_ _)))⟩
end Go.Proofs.Ytmimbnpcokfnlaa
namespace Go.Proofs.Ytmimbnpcokfnlaa
open Go.ChangeShapes Go.WideShapes Go.ChangeAt Go.RowKit
theorem sColumnBraid_law (w : World) (S : Nat → Prop) (v : Value) (b : BraidM) (h : BraidV w S v b) (S2 : Nat → Prop) (u : Value) (sz : List Int) (h2 : Ints w S2 u sz) :
    Calls Try.prog 25 #[v, u] w fun e w' => ∃ v', e = .returned (.tuple #[v', .int .i64 (colCode b sz)]) ∧ BraidV w' (New w.heap.size w'.heap.size) v' (colOut b sz) ∧ Up w w' := sColumnBraid_any w S S2 v u b sz h h2
theorem ColumnBraid_law (w : World) (S : Nat → Prop) (v : Value) (b : BraidM) (h : BraidV w S v b) (S2 : Nat → Prop) (u : Value) (sz : List Int) (h2 : Ints w S2 u sz) :
    Calls Try.prog 27 #[v, u] w fun e w' => ∃ v', e = .returned (.tuple #[v', .int .i64 (colCode b sz)]) ∧ BraidV w' (New w.heap.size w'.heap.size) v' (colOut b sz) ∧ Up w w' := ColumnBraid_any w S S2 v u b sz h h2
theorem colOut_bd (b : BraidM) (sz : List Int) : cntBraid (colOut b sz) ≤ 40 := by
  by_cases h : colCode b sz = 0
  · rw [colOut_yes h]
    unfold cntBraid cntInts
    unfold colCode at h
    repeat' split at h
    all_goals (first | omega | (simp only []; omega))
  · rw [colOut_no rfl h]
    simp [cntBraid, cntInts]
namespace fnExactColumnBraid
set_option linter.unusedVariables false in
set_option maxRecDepth 100000 in
set_option maxHeartbeats 8000000 in
theorem walk0 (w : World) (v0 : Value) (a0 : BraidM) (ha0 : BraidV w (fun b => b < w.heap.size) v0 a0) (v1 : Value) (a1 : List Int) (ha1 : Ints w (fun b => b < w.heap.size) v1 a1) (hb1 : a1.length ≤ 1048576) (hbt : (a0.ws.length : Int) ≤ 1048576) :
    Calls Try.prog 5 #[v0, v1] w fun e w' => e = .returned (.bool true) ∧ Below w.heap.size w w' := by
  have U0 := Lib.hid (Chg.refl Nowhere w)
  obtain ⟨A0, c0, rfl, y0, hl0, hc0⟩ := openBraid ha0
  have X0 := Lib.hid ha0
  clear ha0 y0
  obtain ⟨A1, c1, rfl, hl1, hc1, -⟩ := ha1.shape
  have X1 := Lib.hid ha1
  clear ha1
  have U_1 := Lib.hid (Chg.trans U0.out ((Chg.refl Nowhere w).alloc (.cells #[.int .i64 a0.n, .slice A0 a0.ws.length c0] 42)))
  clear U0
  have X0_2 := Lib.hid (X0.out.up ((Chg.refl Nowhere w).alloc (.cells #[.int .i64 a0.n, .slice A0 a0.ws.length c0] 42)))
  clear X0
  have X1_3 := Lib.hid (X1.out.up ((Chg.refl Nowhere w).alloc (.cells #[.int .i64 a0.n, .slice A0 a0.ws.length c0] 42)))
  clear X1
  have q0_0_4 := (show (w.alloc (.cells #[.int .i64 a0.n, .slice A0 a0.ws.length c0] 42)).cell? ⟨w.heap.size, 0, none⟩ = some (.int .i64 a0.n) from cell_new _ _ _ _)
  have q0_1_5 := (show (w.alloc (.cells #[.int .i64 a0.n, .slice A0 a0.ws.length c0] 42)).cell? ⟨w.heap.size, 1, none⟩ = some (.slice A0 a0.ws.length c0) from cell_new _ _ _ _)
  have hbx6 : w.heap.size < (w.alloc (.cells #[.int .i64 a0.n, .slice A0 a0.ws.length c0] 42)).heap.size := by simp
  have hr0 : a0.ws.length ≤ 1048576 := by omega
  go_enter Try.func5, Try.ntmps5
  have hd0 : decide ((1048576 : Int) - a0.ws.length < 0) = false := decide_eq_false (by omega)
  go_wp2_with fail
  refine (szBraid_ok _ _ _ a0 (1048576) (by omega) (by omega) (X0_2.out.up (by repeat (first | exact Chg.refl _ _ | apply Chg.drew | apply Chg.drewN | refine Chg.alloc ?_ _)))).mono ?_
  rintro e w7 ⟨rfl, g1⟩
  have G1 := Lib.hid g1
  obtain ⟨hy7, hz7⟩ := up_pre (show Up (w.alloc (.cells #[.int .i64 a0.n, .slice A0 a0.ws.length c0] 42)) _ from (by repeat (first | exact Chg.refl _ _ | apply Chg.drew | apply Chg.drewN | refine Chg.alloc ?_ _))) G1.out
  clear g1
  have U_8 := Lib.hid (Chg.trans U_1.out (Chg.trans (by repeat (first | exact Chg.refl _ _ | apply Chg.drew | apply Chg.drewN | refine Chg.alloc ?_ _)) G1.out))
  clear U_1
  have X0_9 := Lib.hid (X0_2.out.up (Chg.trans (by repeat (first | exact Chg.refl _ _ | apply Chg.drew | apply Chg.drewN | refine Chg.alloc ?_ _)) G1.out))
  clear X0_2
  have X1_10 := Lib.hid (X1_3.out.up (Chg.trans (by repeat (first | exact Chg.refl _ _ | apply Chg.drew | apply Chg.drewN | refine Chg.alloc ?_ _)) G1.out))
  clear X1_3
  have q0_0_11 := Chg.cell (Chg.trans (by repeat (first | exact Chg.refl _ _ | apply Chg.drew | apply Chg.drewN | refine Chg.alloc ?_ _)) G1.out) q0_0_4 id
  clear q0_0_4
  have q0_1_12 := Chg.cell (Chg.trans (by repeat (first | exact Chg.refl _ _ | apply Chg.drew | apply Chg.drewN | refine Chg.alloc ?_ _)) G1.out) q0_1_5 id
  clear q0_1_5
  clear G1
  go_wp2_with fail
  refine (toBraid_any _ _ _ a0 (by unfold cntInts; omega) (X0_9.out.up (by repeat (first | exact Chg.refl _ _ | apply Chg.drew | apply Chg.drewN | refine Chg.alloc ?_ _)))).mono ?_
  rintro e w13 ⟨v13, rfl, k1, g1⟩
  have K1 := Lib.hid k1
  clear k1
  have G1 := Lib.hid g1
  obtain ⟨hy13, hz13⟩ := up_pre (show Up w7 _ from (by repeat (first | exact Chg.refl _ _ | apply Chg.drew | apply Chg.drewN | refine Chg.alloc ?_ _))) G1.out
  clear g1
  have U_14 := Lib.hid (Chg.trans U_8.out (Chg.trans (by repeat (first | exact Chg.refl _ _ | apply Chg.drew | apply Chg.drewN | refine Chg.alloc ?_ _)) G1.out))
  clear U_8
  have X0_15 := Lib.hid (X0_9.out.up (Chg.trans (by repeat (first | exact Chg.refl _ _ | apply Chg.drew | apply Chg.drewN | refine Chg.alloc ?_ _)) G1.out))
  clear X0_9
  have X1_16 := Lib.hid (X1_10.out.up (Chg.trans (by repeat (first | exact Chg.refl _ _ | apply Chg.drew | apply Chg.drewN | refine Chg.alloc ?_ _)) G1.out))
  clear X1_10
  have q0_0_17 := Chg.cell (Chg.trans (by repeat (first | exact Chg.refl _ _ | apply Chg.drew | apply Chg.drewN | refine Chg.alloc ?_ _)) G1.out) q0_0_11 id
  clear q0_0_11
  have q0_1_18 := Chg.cell (Chg.trans (by repeat (first | exact Chg.refl _ _ | apply Chg.drew | apply Chg.drewN | refine Chg.alloc ?_ _)) G1.out) q0_1_12 id
  clear q0_1_12
  clear G1
  have B0_19 := Lib.hid (K1.out)
  clear K1
  obtain ⟨As13, cs13, rfl, ys13, hls13, hcs13⟩ := openBraid B0_19.out
  clear ys13
  go_wp2_with fail
  refine (toInts _ _ _ a1 (by unfold cntInts; omega) (X1_16.out.up (by repeat (first | exact Chg.refl _ _ | apply Chg.drew | apply Chg.drewN | refine Chg.alloc ?_ _)))).mono ?_
  rintro e w20 ⟨v20, rfl, k1, g1⟩
  obtain ⟨A20, c20, rfl, hl20, hc20, -⟩ := k1.shape
  have K1 := Lib.hid k1
  clear k1
  have G1 := Lib.hid g1
  obtain ⟨hy20, hz20⟩ := up_pre (show Up w13 _ from (by repeat (first | exact Chg.refl _ _ | apply Chg.drew | apply Chg.drewN | refine Chg.alloc ?_ _))) G1.out
  clear g1
  have U_21 := Lib.hid (Chg.trans U_14.out (Chg.trans (by repeat (first | exact Chg.refl _ _ | apply Chg.drew | apply Chg.drewN | refine Chg.alloc ?_ _)) G1.out))
  clear U_14
  have X0_22 := Lib.hid (X0_15.out.up (Chg.trans (by repeat (first | exact Chg.refl _ _ | apply Chg.drew | apply Chg.drewN | refine Chg.alloc ?_ _)) G1.out))
  clear X0_15
  have X1_23 := Lib.hid (X1_16.out.up (Chg.trans (by repeat (first | exact Chg.refl _ _ | apply Chg.drew | apply Chg.drewN | refine Chg.alloc ?_ _)) G1.out))
  clear X1_16
  have q0_0_24 := Chg.cell (Chg.trans (by repeat (first | exact Chg.refl _ _ | apply Chg.drew | apply Chg.drewN | refine Chg.alloc ?_ _)) G1.out) q0_0_17 id
  clear q0_0_17
  have q0_1_25 := Chg.cell (Chg.trans (by repeat (first | exact Chg.refl _ _ | apply Chg.drew | apply Chg.drewN | refine Chg.alloc ?_ _)) G1.out) q0_1_18 id
  clear q0_1_18
  have B0_26 := Lib.hid (B0_19.out.up (Chg.trans (by repeat (first | exact Chg.refl _ _ | apply Chg.drew | apply Chg.drewN | refine Chg.alloc ?_ _)) G1.out))
  clear B0_19
  clear G1
  have B1_27 := Lib.hid (K1.out)
  clear K1
  go_wp2_with fail
  refine (sColumnBraid_law _ _ _ a0 (B0_26.out.up (by repeat (first | exact Chg.refl _ _ | apply Chg.drew | apply Chg.drewN | refine Chg.alloc ?_ _))) _ _ a1 (B1_27.out.up (by repeat (first | exact Chg.refl _ _ | apply Chg.drew | apply Chg.drewN | refine Chg.alloc ?_ _)))).mono ?_
  rintro e w28 ⟨v28, rfl, k1, g1⟩
  have K1 := Lib.hid k1
  clear k1
  have G1 := Lib.hid g1
  obtain ⟨hy28, hz28⟩ := up_pre (show Up w20 _ from (by repeat (first | exact Chg.refl _ _ | apply Chg.drew | apply Chg.drewN | refine Chg.alloc ?_ _))) G1.out
  clear g1
  have U_29 := Lib.hid (Chg.trans U_21.out (Chg.trans (by repeat (first | exact Chg.refl _ _ | apply Chg.drew | apply Chg.drewN | refine Chg.alloc ?_ _)) G1.out))
  clear U_21
  have X0_30 := Lib.hid (X0_22.out.up (Chg.trans (by repeat (first | exact Chg.refl _ _ | apply Chg.drew | apply Chg.drewN | refine Chg.alloc ?_ _)) G1.out))
  clear X0_22
  have X1_31 := Lib.hid (X1_23.out.up (Chg.trans (by repeat (first | exact Chg.refl _ _ | apply Chg.drew | apply Chg.drewN | refine Chg.alloc ?_ _)) G1.out))
  clear X1_23
  have q0_0_32 := Chg.cell (Chg.trans (by repeat (first | exact Chg.refl _ _ | apply Chg.drew | apply Chg.drewN | refine Chg.alloc ?_ _)) G1.out) q0_0_24 id
  clear q0_0_24
  have q0_1_33 := Chg.cell (Chg.trans (by repeat (first | exact Chg.refl _ _ | apply Chg.drew | apply Chg.drewN | refine Chg.alloc ?_ _)) G1.out) q0_1_25 id
  clear q0_1_25
  have B0_34 := Lib.hid (B0_26.out.up (Chg.trans (by repeat (first | exact Chg.refl _ _ | apply Chg.drew | apply Chg.drewN | refine Chg.alloc ?_ _)) G1.out))
  clear B0_26
  have B1_35 := Lib.hid (B1_27.out.up (Chg.trans (by repeat (first | exact Chg.refl _ _ | apply Chg.drew | apply Chg.drewN | refine Chg.alloc ?_ _)) G1.out))
  clear B1_27
  clear G1
  have W0_36 := Lib.hid (K1.out)
  clear K1
  obtain ⟨As28, cs28, rfl, ys28, hls28, hcs28⟩ := openBraid W0_36.out
  clear ys28
  have hbq28_0 : w.heap.size < w28.heap.size := by omega
  clear B0_34
  clear B1_35
  go_wp2_with fail
  refine (toBraid_any _ _ _ a0 (by unfold cntInts; omega) (X0_30.out.up (by repeat (first | exact Chg.refl _ _ | apply Chg.drew | apply Chg.drewN | refine Chg.alloc ?_ _)))).mono ?_
  rintro e w37 ⟨v37, rfl, k1, g1⟩
  have K1 := Lib.hid k1
  clear k1
  have G1 := Lib.hid g1
  obtain ⟨hy37, hz37⟩ := up_pre (show Up w28 _ from (by repeat (first | exact Chg.refl _ _ | apply Chg.drew | apply Chg.drewN | refine Chg.alloc ?_ _))) G1.out
  clear g1
  have U_38 := Lib.hid (Chg.trans U_29.out (Chg.trans (by repeat (first | exact Chg.refl _ _ | apply Chg.drew | apply Chg.drewN | refine Chg.alloc ?_ _)) G1.out))
  clear U_29
  have X0_39 := Lib.hid (X0_30.out.up (Chg.trans (by repeat (first | exact Chg.refl _ _ | apply Chg.drew | apply Chg.drewN | refine Chg.alloc ?_ _)) G1.out))
  clear X0_30
  have X1_40 := Lib.hid (X1_31.out.up (Chg.trans (by repeat (first | exact Chg.refl _ _ | apply Chg.drew | apply Chg.drewN | refine Chg.alloc ?_ _)) G1.out))
  clear X1_31
  have q0_0_41 := Chg.cell (Chg.trans (by repeat (first | exact Chg.refl _ _ | apply Chg.drew | apply Chg.drewN | refine Chg.alloc ?_ _)) G1.out) q0_0_32 id
  clear q0_0_32
  have q0_1_42 := Chg.cell (Chg.trans (by repeat (first | exact Chg.refl _ _ | apply Chg.drew | apply Chg.drewN | refine Chg.alloc ?_ _)) G1.out) q0_1_33 id
  clear q0_1_33
  have W0_43 := Lib.hid (W0_36.out.up (Chg.trans (by repeat (first | exact Chg.refl _ _ | apply Chg.drew | apply Chg.drewN | refine Chg.alloc ?_ _)) G1.out))
  clear W0_36
  obtain ⟨W0_0_44c, W0_0_44f⟩ := (show CellF w37 ⟨w28.heap.size, 0, none⟩ (.int .i64 (colOut a0 a1).n) from CellF.up G1.out (by repeat (first | ((refine cellF_at ?_ rfl); (simp; done)) | refine CellF.up ((Chg.refl _ _).alloc _) ?_)))
  obtain ⟨W0_1_45c, W0_1_45f⟩ := (show CellF w37 ⟨w28.heap.size, 1, none⟩ (.slice As28 (colOut a0 a1).ws.length cs28) from CellF.up G1.out (by repeat (first | ((refine cellF_at ?_ rfl); (simp; done)) | refine CellF.up ((Chg.refl _ _).alloc _) ?_)))
  clear G1
  have C0_46 := Lib.hid (K1.out)
  clear K1
  have hbz47 : w28.heap.size < w37.heap.size := World.block_lt_of_cell? _ _ W0_0_44c
  obtain ⟨As37, cs37, rfl, ys37, hls37, hcs37⟩ := openBraid C0_46.out
  clear ys37
  go_wp2_with fail
  refine (toInts _ _ _ a1 (by unfold cntInts; omega) (X1_40.out.up (by repeat (first | exact Chg.refl _ _ | apply Chg.drew | apply Chg.drewN | refine Chg.alloc ?_ _)))).mono ?_
  rintro e w48 ⟨v48, rfl, k1, g1⟩
  obtain ⟨A48, c48, rfl, hl48, hc48, -⟩ := k1.shape
  have K1 := Lib.hid k1
  clear k1
  have G1 := Lib.hid g1
  obtain ⟨hy48, hz48⟩ := up_pre (show Up w37 _ from (by repeat (first | exact Chg.refl _ _ | apply Chg.drew | apply Chg.drewN | refine Chg.alloc ?_ _))) G1.out
  clear g1
  have U_49 := Lib.hid (Chg.trans U_38.out (Chg.trans (by repeat (first | exact Chg.refl _ _ | apply Chg.drew | apply Chg.drewN | refine Chg.alloc ?_ _)) G1.out))
  clear U_38
  have X0_50 := Lib.hid (X0_39.out.up (Chg.trans (by repeat (first | exact Chg.refl _ _ | apply Chg.drew | apply Chg.drewN | refine Chg.alloc ?_ _)) G1.out))
  clear X0_39
  have X1_51 := Lib.hid (X1_40.out.up (Chg.trans (by repeat (first | exact Chg.refl _ _ | apply Chg.drew | apply Chg.drewN | refine Chg.alloc ?_ _)) G1.out))
  clear X1_40
  have q0_0_52 := Chg.cell (Chg.trans (by repeat (first | exact Chg.refl _ _ | apply Chg.drew | apply Chg.drewN | refine Chg.alloc ?_ _)) G1.out) q0_0_41 id
  clear q0_0_41
  have q0_1_53 := Chg.cell (Chg.trans (by repeat (first | exact Chg.refl _ _ | apply Chg.drew | apply Chg.drewN | refine Chg.alloc ?_ _)) G1.out) q0_1_42 id
  clear q0_1_42
  have W0_54 := Lib.hid (W0_43.out.up (Chg.trans (by repeat (first | exact Chg.refl _ _ | apply Chg.drew | apply Chg.drewN | refine Chg.alloc ?_ _)) G1.out))
  clear W0_43
  obtain ⟨W0_0_55c, W0_0_55f⟩ := CellF.up (Chg.trans (by repeat (first | exact Chg.refl _ _ | apply Chg.drew | apply Chg.drewN | refine Chg.alloc ?_ _)) G1.out) ⟨W0_0_44c, W0_0_44f⟩
  clear W0_0_44c W0_0_44f
  obtain ⟨W0_1_56c, W0_1_56f⟩ := CellF.up (Chg.trans (by repeat (first | exact Chg.refl _ _ | apply Chg.drew | apply Chg.drewN | refine Chg.alloc ?_ _)) G1.out) ⟨W0_1_45c, W0_1_45f⟩
  clear W0_1_45c W0_1_45f
  have C0_57 := Lib.hid (C0_46.out.up (Chg.trans (by repeat (first | exact Chg.refl _ _ | apply Chg.drew | apply Chg.drewN | refine Chg.alloc ?_ _)) G1.out))
  clear C0_46
  obtain ⟨x0_0_58c, x0_0_58f⟩ := (show CellF w48 ⟨w37.heap.size, 0, none⟩ (.int .i64 a0.n) from CellF.up G1.out (by repeat (first | ((refine cellF_at ?_ rfl); (simp; done)) | refine CellF.up ((Chg.refl _ _).alloc _) ?_)))
  obtain ⟨x0_1_59c, x0_1_59f⟩ := (show CellF w48 ⟨w37.heap.size, 1, none⟩ (.slice As37 a0.ws.length cs37) from CellF.up G1.out (by repeat (first | ((refine cellF_at ?_ rfl); (simp; done)) | refine CellF.up ((Chg.refl _ _).alloc _) ?_)))
  clear G1
  have C1_60 := Lib.hid (K1.out)
  clear K1
  have hbz61 : w37.heap.size < w48.heap.size := World.block_lt_of_cell? _ _ x0_0_58c
  go_wp2_with fail
  refine (ColumnBraid_law _ _ _ a0 (C0_57.out.up (by repeat (first | exact Chg.refl _ _ | apply Chg.drew | apply Chg.drewN | refine Chg.alloc ?_ _))) _ _ a1 (C1_60.out.up (by repeat (first | exact Chg.refl _ _ | apply Chg.drew | apply Chg.drewN | refine Chg.alloc ?_ _)))).mono ?_
  rintro e w62 ⟨v62, rfl, k1, g1⟩
  have K1 := Lib.hid k1
  clear k1
  have G1 := Lib.hid g1
  obtain ⟨hy62, hz62⟩ := up_pre (show Up w48 _ from (by repeat (first | exact Chg.refl _ _ | apply Chg.drew | apply Chg.drewN | refine Chg.alloc ?_ _))) G1.out
  clear g1
  have U_63 := Lib.hid (Chg.trans U_49.out (Chg.trans (by repeat (first | exact Chg.refl _ _ | apply Chg.drew | apply Chg.drewN | refine Chg.alloc ?_ _)) G1.out))
  clear U_49
  have X0_64 := Lib.hid (X0_50.out.up (Chg.trans (by repeat (first | exact Chg.refl _ _ | apply Chg.drew | apply Chg.drewN | refine Chg.alloc ?_ _)) G1.out))
  clear X0_50
  have X1_65 := Lib.hid (X1_51.out.up (Chg.trans (by repeat (first | exact Chg.refl _ _ | apply Chg.drew | apply Chg.drewN | refine Chg.alloc ?_ _)) G1.out))
  clear X1_51
  have q0_0_66 := Chg.cell (Chg.trans (by repeat (first | exact Chg.refl _ _ | apply Chg.drew | apply Chg.drewN | refine Chg.alloc ?_ _)) G1.out) q0_0_52 id
  clear q0_0_52
  have q0_1_67 := Chg.cell (Chg.trans (by repeat (first | exact Chg.refl _ _ | apply Chg.drew | apply Chg.drewN | refine Chg.alloc ?_ _)) G1.out) q0_1_53 id
  clear q0_1_53
  have W0_68 := Lib.hid (W0_54.out.up (Chg.trans (by repeat (first | exact Chg.refl _ _ | apply Chg.drew | apply Chg.drewN | refine Chg.alloc ?_ _)) G1.out))
  clear W0_54
  obtain ⟨W0_0_69c, W0_0_69f⟩ := CellF.up (Chg.trans (by repeat (first | exact Chg.refl _ _ | apply Chg.drew | apply Chg.drewN | refine Chg.alloc ?_ _)) G1.out) ⟨W0_0_55c, W0_0_55f⟩
  clear W0_0_55c W0_0_55f
  obtain ⟨W0_1_70c, W0_1_70f⟩ := CellF.up (Chg.trans (by repeat (first | exact Chg.refl _ _ | apply Chg.drew | apply Chg.drewN | refine Chg.alloc ?_ _)) G1.out) ⟨W0_1_56c, W0_1_56f⟩
  clear W0_1_56c W0_1_56f
  have C0_71 := Lib.hid (C0_57.out.up (Chg.trans (by repeat (first | exact Chg.refl _ _ | apply Chg.drew | apply Chg.drewN | refine Chg.alloc ?_ _)) G1.out))
  clear C0_57
  obtain ⟨x0_0_72c, x0_0_72f⟩ := CellF.up (Chg.trans (by repeat (first | exact Chg.refl _ _ | apply Chg.drew | apply Chg.drewN | refine Chg.alloc ?_ _)) G1.out) ⟨x0_0_58c, x0_0_58f⟩
  clear x0_0_58c x0_0_58f
  obtain ⟨x0_1_73c, x0_1_73f⟩ := CellF.up (Chg.trans (by repeat (first | exact Chg.refl _ _ | apply Chg.drew | apply Chg.drewN | refine Chg.alloc ?_ _)) G1.out) ⟨x0_1_59c, x0_1_59f⟩
  clear x0_1_59c x0_1_59f
  have C1_74 := Lib.hid (C1_60.out.up (Chg.trans (by repeat (first | exact Chg.refl _ _ | apply Chg.drew | apply Chg.drewN | refine Chg.alloc ?_ _)) G1.out))
  clear C1_60
  clear G1
  have R0_75 := Lib.hid (K1.out)
  clear K1
  obtain ⟨As62, cs62, rfl, ys62, hls62, hcs62⟩ := openBraid R0_75.out
  clear ys62
  have hbq62_0 : w.heap.size < w62.heap.size := by omega
  have hbr62_0 : w28.heap.size < w62.heap.size := by omega
  have hbr62_1 : w37.heap.size < w62.heap.size := by omega
  go_wp2_with fail
  refine (eqBraid_same _ _ _ _ _ (colOut a0 a1) (R0_75.out.up (by repeat (first | exact Chg.refl _ _ | apply Chg.drew | apply Chg.drewN | refine Chg.alloc ?_ _))) (W0_68.out.up (by repeat (first | exact Chg.refl _ _ | apply Chg.drew | apply Chg.drewN | refine Chg.alloc ?_ _)))).mono ?_
  rintro e w76 ⟨rfl, g1⟩
  have G1 := Lib.hid g1
  obtain ⟨hy76, hz76⟩ := up_pre (show Up w62 _ from (by repeat (first | exact Chg.refl _ _ | apply Chg.drew | apply Chg.drewN | refine Chg.alloc ?_ _))) G1.out
  clear g1
  have U_77 := Lib.hid (Chg.trans U_63.out (Chg.trans (by repeat (first | exact Chg.refl _ _ | apply Chg.drew | apply Chg.drewN | refine Chg.alloc ?_ _)) G1.out))
  clear U_63
  have X0_78 := Lib.hid (X0_64.out.up (Chg.trans (by repeat (first | exact Chg.refl _ _ | apply Chg.drew | apply Chg.drewN | refine Chg.alloc ?_ _)) G1.out))
  clear X0_64
  have X1_79 := Lib.hid (X1_65.out.up (Chg.trans (by repeat (first | exact Chg.refl _ _ | apply Chg.drew | apply Chg.drewN | refine Chg.alloc ?_ _)) G1.out))
  clear X1_65
  have q0_0_80 := Chg.cell (Chg.trans (by repeat (first | exact Chg.refl _ _ | apply Chg.drew | apply Chg.drewN | refine Chg.alloc ?_ _)) G1.out) q0_0_66 id
  clear q0_0_66
  have q0_1_81 := Chg.cell (Chg.trans (by repeat (first | exact Chg.refl _ _ | apply Chg.drew | apply Chg.drewN | refine Chg.alloc ?_ _)) G1.out) q0_1_67 id
  clear q0_1_67
  have W0_82 := Lib.hid (W0_68.out.up (Chg.trans (by repeat (first | exact Chg.refl _ _ | apply Chg.drew | apply Chg.drewN | refine Chg.alloc ?_ _)) G1.out))
  clear W0_68
  obtain ⟨W0_0_83c, W0_0_83f⟩ := CellF.up (Chg.trans (by repeat (first | exact Chg.refl _ _ | apply Chg.drew | apply Chg.drewN | refine Chg.alloc ?_ _)) G1.out) ⟨W0_0_69c, W0_0_69f⟩
  clear W0_0_69c W0_0_69f
  obtain ⟨W0_1_84c, W0_1_84f⟩ := CellF.up (Chg.trans (by repeat (first | exact Chg.refl _ _ | apply Chg.drew | apply Chg.drewN | refine Chg.alloc ?_ _)) G1.out) ⟨W0_1_70c, W0_1_70f⟩
  clear W0_1_70c W0_1_70f
  have C0_85 := Lib.hid (C0_71.out.up (Chg.trans (by repeat (first | exact Chg.refl _ _ | apply Chg.drew | apply Chg.drewN | refine Chg.alloc ?_ _)) G1.out))
  clear C0_71
  obtain ⟨x0_0_86c, x0_0_86f⟩ := CellF.up (Chg.trans (by repeat (first | exact Chg.refl _ _ | apply Chg.drew | apply Chg.drewN | refine Chg.alloc ?_ _)) G1.out) ⟨x0_0_72c, x0_0_72f⟩
  clear x0_0_72c x0_0_72f
  obtain ⟨x0_1_87c, x0_1_87f⟩ := CellF.up (Chg.trans (by repeat (first | exact Chg.refl _ _ | apply Chg.drew | apply Chg.drewN | refine Chg.alloc ?_ _)) G1.out) ⟨x0_1_73c, x0_1_73f⟩
  clear x0_1_73c x0_1_73f
  have C1_88 := Lib.hid (C1_74.out.up (Chg.trans (by repeat (first | exact Chg.refl _ _ | apply Chg.drew | apply Chg.drewN | refine Chg.alloc ?_ _)) G1.out))
  clear C1_74
  have R0_89 := Lib.hid (R0_75.out.up (Chg.trans (by repeat (first | exact Chg.refl _ _ | apply Chg.drew | apply Chg.drewN | refine Chg.alloc ?_ _)) G1.out))
  clear R0_75
  obtain ⟨R0_0_90c, R0_0_90f⟩ := (show CellF w76 ⟨w62.heap.size, 0, none⟩ (.int .i64 (colOut a0 a1).n) from CellF.up G1.out (by repeat (first | ((refine cellF_at ?_ rfl); (simp; done)) | refine CellF.up ((Chg.refl _ _).alloc _) ?_)))
  obtain ⟨R0_1_91c, R0_1_91f⟩ := (show CellF w76 ⟨w62.heap.size, 1, none⟩ (.slice As62 (colOut a0 a1).ws.length cs62) from CellF.up G1.out (by repeat (first | ((refine cellF_at ?_ rfl); (simp; done)) | refine CellF.up ((Chg.refl _ _).alloc _) ?_)))
  clear G1
  have hbz92 : w62.heap.size < w76.heap.size := World.block_lt_of_cell? _ _ R0_0_90c
  go_wp2
  go_region_held3 (fun w' => w'.cell? ⟨w.heap.size, 0, none⟩ = some (.int .i64 a0.n) ∧ w'.cell? ⟨w.heap.size, 1, none⟩ = some (.slice A0 a0.ws.length c0) ∧ w'.cell? ⟨w37.heap.size, 0, none⟩ = some (.int .i64 a0.n) ∧ w'.cell? ⟨w37.heap.size, 1, none⟩ = some (.slice As37 a0.ws.length cs37))
      (first | (exact ⟨q0_0_80, q0_1_81, x0_0_86c, x0_1_87c⟩) | (obtain ⟨p0, p1, p2, p3⟩ : (World.cell? _ _ = _ ∧ World.cell? _ _ = _ ∧ World.cell? _ _ = _ ∧ World.cell? _ _ = _) := (by assumption); exact ⟨Chg.cell g1 p0 id, Chg.cell g1 p1 id, Chg.cell g1 p2 id, Chg.cell g1 p3 id⟩))
      (first | (go_at_call 26; refine (toBraid_any _ _ _ a0 (by unfold cntInts; omega) (X0_78.out.up (by repeat (first | exact Chg.refl _ _ | apply Chg.drew | apply Chg.drewN | refine Chg.alloc ?_ _)))).mono ?_; rintro e w93 ⟨v93, rfl, k1, g1⟩; obtain ⟨As93, cs93, rfl, ys93, hls93, hcs93⟩ := openBraid k1; have K1 := Lib.hid k1; clear k1 ys93; have G1 := Lib.hid g1; obtain ⟨hy93, hz93⟩ := up_pre (show Up w76 _ from (by repeat (first | exact Chg.refl _ _ | apply Chg.drew | apply Chg.drewN | refine Chg.alloc ?_ _))) G1.out; have U_95 := Lib.hid (Chg.trans U_77.out (Chg.trans (by repeat (first | exact Chg.refl _ _ | apply Chg.drew | apply Chg.drewN | refine Chg.alloc ?_ _)) G1.out)); have X0_96 := Lib.hid (X0_78.out.up (Chg.trans (by repeat (first | exact Chg.refl _ _ | apply Chg.drew | apply Chg.drewN | refine Chg.alloc ?_ _)) G1.out)); have X1_97 := Lib.hid (X1_79.out.up (Chg.trans (by repeat (first | exact Chg.refl _ _ | apply Chg.drew | apply Chg.drewN | refine Chg.alloc ?_ _)) G1.out)); have W0_98 := Lib.hid (W0_82.out.up (Chg.trans (by repeat (first | exact Chg.refl _ _ | apply Chg.drew | apply Chg.drewN | refine Chg.alloc ?_ _)) G1.out)); obtain ⟨W0_0_99c, W0_0_99f⟩ := CellF.up (Chg.trans (by repeat (first | exact Chg.refl _ _ | apply Chg.drew | apply Chg.drewN | refine Chg.alloc ?_ _)) G1.out) ⟨W0_0_83c, W0_0_83f⟩; obtain ⟨W0_1_100c, W0_1_100f⟩ := CellF.up (Chg.trans (by repeat (first | exact Chg.refl _ _ | apply Chg.drew | apply Chg.drewN | refine Chg.alloc ?_ _)) G1.out) ⟨W0_1_84c, W0_1_84f⟩; have C0_101 := Lib.hid (C0_85.out.up (Chg.trans (by repeat (first | exact Chg.refl _ _ | apply Chg.drew | apply Chg.drewN | refine Chg.alloc ?_ _)) G1.out)); have C1_102 := Lib.hid (C1_88.out.up (Chg.trans (by repeat (first | exact Chg.refl _ _ | apply Chg.drew | apply Chg.drewN | refine Chg.alloc ?_ _)) G1.out)); have R0_103 := Lib.hid (R0_89.out.up (Chg.trans (by repeat (first | exact Chg.refl _ _ | apply Chg.drew | apply Chg.drewN | refine Chg.alloc ?_ _)) G1.out)); obtain ⟨R0_0_104c, R0_0_104f⟩ := CellF.up (Chg.trans (by repeat (first | exact Chg.refl _ _ | apply Chg.drew | apply Chg.drewN | refine Chg.alloc ?_ _)) G1.out) ⟨R0_0_90c, R0_0_90f⟩; obtain ⟨R0_1_105c, R0_1_105f⟩ := CellF.up (Chg.trans (by repeat (first | exact Chg.refl _ _ | apply Chg.drew | apply Chg.drewN | refine Chg.alloc ?_ _)) G1.out) ⟨R0_1_91c, R0_1_91f⟩) | (go_at_call 28; refine (eqBraid_same _ _ _ _ _ a0 (C0_101.out.up (by repeat (first | exact Chg.refl _ _ | apply Chg.drew | apply Chg.drewN | refine Chg.alloc ?_ _))) (K1.out.up (by repeat (first | exact Chg.refl _ _ | apply Chg.drew | apply Chg.drewN | refine Chg.alloc ?_ _)))).mono ?_; rintro e w94 ⟨rfl, g1⟩; have G2 := Lib.hid g1; obtain ⟨hy94, hz94⟩ := up_pre (show Up w93 _ from (by repeat (first | exact Chg.refl _ _ | apply Chg.drew | apply Chg.drewN | refine Chg.alloc ?_ _))) G2.out; have U_106 := Lib.hid (Chg.trans U_95.out (Chg.trans (by repeat (first | exact Chg.refl _ _ | apply Chg.drew | apply Chg.drewN | refine Chg.alloc ?_ _)) G2.out)); have X0_107 := Lib.hid (X0_96.out.up (Chg.trans (by repeat (first | exact Chg.refl _ _ | apply Chg.drew | apply Chg.drewN | refine Chg.alloc ?_ _)) G2.out)); have X1_108 := Lib.hid (X1_97.out.up (Chg.trans (by repeat (first | exact Chg.refl _ _ | apply Chg.drew | apply Chg.drewN | refine Chg.alloc ?_ _)) G2.out)); have W0_109 := Lib.hid (W0_98.out.up (Chg.trans (by repeat (first | exact Chg.refl _ _ | apply Chg.drew | apply Chg.drewN | refine Chg.alloc ?_ _)) G2.out)); obtain ⟨W0_0_110c, W0_0_110f⟩ := CellF.up (Chg.trans (by repeat (first | exact Chg.refl _ _ | apply Chg.drew | apply Chg.drewN | refine Chg.alloc ?_ _)) G2.out) ⟨W0_0_99c, W0_0_99f⟩; obtain ⟨W0_1_111c, W0_1_111f⟩ := CellF.up (Chg.trans (by repeat (first | exact Chg.refl _ _ | apply Chg.drew | apply Chg.drewN | refine Chg.alloc ?_ _)) G2.out) ⟨W0_1_100c, W0_1_100f⟩; have C0_112 := Lib.hid (C0_101.out.up (Chg.trans (by repeat (first | exact Chg.refl _ _ | apply Chg.drew | apply Chg.drewN | refine Chg.alloc ?_ _)) G2.out)); have C1_113 := Lib.hid (C1_102.out.up (Chg.trans (by repeat (first | exact Chg.refl _ _ | apply Chg.drew | apply Chg.drewN | refine Chg.alloc ?_ _)) G2.out)); have R0_114 := Lib.hid (R0_103.out.up (Chg.trans (by repeat (first | exact Chg.refl _ _ | apply Chg.drew | apply Chg.drewN | refine Chg.alloc ?_ _)) G2.out)); obtain ⟨R0_0_115c, R0_0_115f⟩ := CellF.up (Chg.trans (by repeat (first | exact Chg.refl _ _ | apply Chg.drew | apply Chg.drewN | refine Chg.alloc ?_ _)) G2.out) ⟨R0_0_104c, R0_0_104f⟩; obtain ⟨R0_1_116c, R0_1_116f⟩ := CellF.up (Chg.trans (by repeat (first | exact Chg.refl _ _ | apply Chg.drew | apply Chg.drewN | refine Chg.alloc ?_ _)) G2.out) ⟨R0_1_105c, R0_1_105f⟩))
  have q0_0_117 := Chg.cell (Chg.trans (Chg.trans (by repeat (first | exact Chg.refl _ _ | apply Chg.drew | apply Chg.drewN | refine Chg.alloc ?_ _)) G1.out) (Chg.trans (by repeat (first | exact Chg.refl _ _ | apply Chg.drew | apply Chg.drewN | refine Chg.alloc ?_ _)) G2.out)) q0_0_80 id
  have q0_1_118 := Chg.cell (Chg.trans (Chg.trans (by repeat (first | exact Chg.refl _ _ | apply Chg.drew | apply Chg.drewN | refine Chg.alloc ?_ _)) G1.out) (Chg.trans (by repeat (first | exact Chg.refl _ _ | apply Chg.drew | apply Chg.drewN | refine Chg.alloc ?_ _)) G2.out)) q0_1_81 id
  obtain ⟨x0_0_119c, x0_0_119f⟩ := CellF.up (Chg.trans (Chg.trans (by repeat (first | exact Chg.refl _ _ | apply Chg.drew | apply Chg.drewN | refine Chg.alloc ?_ _)) G1.out) (Chg.trans (by repeat (first | exact Chg.refl _ _ | apply Chg.drew | apply Chg.drewN | refine Chg.alloc ?_ _)) G2.out)) ⟨x0_0_86c, x0_0_86f⟩
  obtain ⟨x0_1_120c, x0_1_120f⟩ := CellF.up (Chg.trans (Chg.trans (by repeat (first | exact Chg.refl _ _ | apply Chg.drew | apply Chg.drewN | refine Chg.alloc ?_ _)) G1.out) (Chg.trans (by repeat (first | exact Chg.refl _ _ | apply Chg.drew | apply Chg.drewN | refine Chg.alloc ?_ _)) G2.out)) ⟨x0_1_87c, x0_1_87f⟩
  clear g1 G1 G2 K1
  clear U_77
  clear X0_78
  clear X1_79
  clear q0_0_80
  clear q0_1_81
  clear W0_82
  clear W0_0_83c W0_0_83f
  clear W0_1_84c W0_1_84f
  clear C0_85
  clear x0_0_86c x0_0_86f
  clear x0_1_87c x0_1_87f
  clear C1_88
  clear R0_89
  clear R0_0_90c R0_0_90f
  clear R0_1_91c R0_1_91f
  clear U_95
  clear X0_96
  clear X1_97
  clear W0_98
  clear W0_0_99c W0_0_99f
  clear W0_1_100c W0_1_100f
  clear C0_101
  clear C1_102
  clear R0_103
  clear R0_0_104c R0_0_104f
  clear R0_1_105c R0_1_105f
  go_wp2_with fail
  refine (toInts _ _ _ a1 (by unfold cntInts; omega) (X1_108.out.up (by repeat (first | exact Chg.refl _ _ | apply Chg.drew | apply Chg.drewN | refine Chg.alloc ?_ _)))).mono ?_
  rintro e w121 ⟨v121, rfl, k1, g1⟩
  obtain ⟨A121, c121, rfl, hl121, hc121, -⟩ := k1.shape
  have K1 := Lib.hid k1
  clear k1
  have G1 := Lib.hid g1
  obtain ⟨hy121, hz121⟩ := up_pre (show Up w94 _ from (by repeat (first | exact Chg.refl _ _ | apply Chg.drew | apply Chg.drewN | refine Chg.alloc ?_ _))) G1.out
  clear g1
  have U_122 := Lib.hid (Chg.trans U_106.out (Chg.trans (by repeat (first | exact Chg.refl _ _ | apply Chg.drew | apply Chg.drewN | refine Chg.alloc ?_ _)) G1.out))
  clear U_106
  have X0_123 := Lib.hid (X0_107.out.up (Chg.trans (by repeat (first | exact Chg.refl _ _ | apply Chg.drew | apply Chg.drewN | refine Chg.alloc ?_ _)) G1.out))
  clear X0_107
  have X1_124 := Lib.hid (X1_108.out.up (Chg.trans (by repeat (first | exact Chg.refl _ _ | apply Chg.drew | apply Chg.drewN | refine Chg.alloc ?_ _)) G1.out))
  clear X1_108
  have W0_125 := Lib.hid (W0_109.out.up (Chg.trans (by repeat (first | exact Chg.refl _ _ | apply Chg.drew | apply Chg.drewN | refine Chg.alloc ?_ _)) G1.out))
  clear W0_109
  obtain ⟨W0_0_126c, W0_0_126f⟩ := CellF.up (Chg.trans (by repeat (first | exact Chg.refl _ _ | apply Chg.drew | apply Chg.drewN | refine Chg.alloc ?_ _)) G1.out) ⟨W0_0_110c, W0_0_110f⟩
  clear W0_0_110c W0_0_110f
  obtain ⟨W0_1_127c, W0_1_127f⟩ := CellF.up (Chg.trans (by repeat (first | exact Chg.refl _ _ | apply Chg.drew | apply Chg.drewN | refine Chg.alloc ?_ _)) G1.out) ⟨W0_1_111c, W0_1_111f⟩
  clear W0_1_111c W0_1_111f
  have C0_128 := Lib.hid (C0_112.out.up (Chg.trans (by repeat (first | exact Chg.refl _ _ | apply Chg.drew | apply Chg.drewN | refine Chg.alloc ?_ _)) G1.out))
  clear C0_112
  have C1_129 := Lib.hid (C1_113.out.up (Chg.trans (by repeat (first | exact Chg.refl _ _ | apply Chg.drew | apply Chg.drewN | refine Chg.alloc ?_ _)) G1.out))
  clear C1_113
  have R0_130 := Lib.hid (R0_114.out.up (Chg.trans (by repeat (first | exact Chg.refl _ _ | apply Chg.drew | apply Chg.drewN | refine Chg.alloc ?_ _)) G1.out))
  clear R0_114
  obtain ⟨R0_0_131c, R0_0_131f⟩ := CellF.up (Chg.trans (by repeat (first | exact Chg.refl _ _ | apply Chg.drew | apply Chg.drewN | refine Chg.alloc ?_ _)) G1.out) ⟨R0_0_115c, R0_0_115f⟩
  clear R0_0_115c R0_0_115f
  obtain ⟨R0_1_132c, R0_1_132f⟩ := CellF.up (Chg.trans (by repeat (first | exact Chg.refl _ _ | apply Chg.drew | apply Chg.drewN | refine Chg.alloc ?_ _)) G1.out) ⟨R0_1_116c, R0_1_116f⟩
  clear R0_1_116c R0_1_116f
  have q0_0_133 := Chg.cell (Chg.trans (by repeat (first | exact Chg.refl _ _ | apply Chg.drew | apply Chg.drewN | refine Chg.alloc ?_ _)) G1.out) q0_0_117 id
  clear q0_0_117
  have q0_1_134 := Chg.cell (Chg.trans (by repeat (first | exact Chg.refl _ _ | apply Chg.drew | apply Chg.drewN | refine Chg.alloc ?_ _)) G1.out) q0_1_118 id
  clear q0_1_118
  obtain ⟨x0_0_135c, x0_0_135f⟩ := CellF.up (Chg.trans (by repeat (first | exact Chg.refl _ _ | apply Chg.drew | apply Chg.drewN | refine Chg.alloc ?_ _)) G1.out) ⟨x0_0_119c, x0_0_119f⟩
  clear x0_0_119c x0_0_119f
  obtain ⟨x0_1_136c, x0_1_136f⟩ := CellF.up (Chg.trans (by repeat (first | exact Chg.refl _ _ | apply Chg.drew | apply Chg.drewN | refine Chg.alloc ?_ _)) G1.out) ⟨x0_1_120c, x0_1_120f⟩
  clear x0_1_120c x0_1_120f
  clear G1
  have D1_137 := Lib.hid (K1.out)
  clear K1
  go_wp2_with fail
  refine (eqInts _ _ _ _ _ a1 (C1_129.out.up (by repeat (first | exact Chg.refl _ _ | apply Chg.drew | apply Chg.drewN | refine Chg.alloc ?_ _))) (D1_137.out.up (by repeat (first | exact Chg.refl _ _ | apply Chg.drew | apply Chg.drewN | refine Chg.alloc ?_ _)))).mono ?_
  rintro e w138 ⟨rfl, g1⟩
  have G1 := Lib.hid g1
  obtain ⟨hy138, hz138⟩ := up_pre (show Up w121 _ from (by repeat (first | exact Chg.refl _ _ | apply Chg.drew | apply Chg.drewN | refine Chg.alloc ?_ _))) G1.out
  clear g1
  have U_139 := Lib.hid (Chg.trans U_122.out (Chg.trans (by repeat (first | exact Chg.refl _ _ | apply Chg.drew | apply Chg.drewN | refine Chg.alloc ?_ _)) G1.out))
  clear U_122
  have X0_140 := Lib.hid (X0_123.out.up (Chg.trans (by repeat (first | exact Chg.refl _ _ | apply Chg.drew | apply Chg.drewN | refine Chg.alloc ?_ _)) G1.out))
  clear X0_123
  have X1_141 := Lib.hid (X1_124.out.up (Chg.trans (by repeat (first | exact Chg.refl _ _ | apply Chg.drew | apply Chg.drewN | refine Chg.alloc ?_ _)) G1.out))
  clear X1_124
  have W0_142 := Lib.hid (W0_125.out.up (Chg.trans (by repeat (first | exact Chg.refl _ _ | apply Chg.drew | apply Chg.drewN | refine Chg.alloc ?_ _)) G1.out))
  clear W0_125
  obtain ⟨W0_0_143c, W0_0_143f⟩ := CellF.up (Chg.trans (by repeat (first | exact Chg.refl _ _ | apply Chg.drew | apply Chg.drewN | refine Chg.alloc ?_ _)) G1.out) ⟨W0_0_126c, W0_0_126f⟩
  clear W0_0_126c W0_0_126f
  obtain ⟨W0_1_144c, W0_1_144f⟩ := CellF.up (Chg.trans (by repeat (first | exact Chg.refl _ _ | apply Chg.drew | apply Chg.drewN | refine Chg.alloc ?_ _)) G1.out) ⟨W0_1_127c, W0_1_127f⟩
  clear W0_1_127c W0_1_127f
  have C0_145 := Lib.hid (C0_128.out.up (Chg.trans (by repeat (first | exact Chg.refl _ _ | apply Chg.drew | apply Chg.drewN | refine Chg.alloc ?_ _)) G1.out))
  clear C0_128
  have C1_146 := Lib.hid (C1_129.out.up (Chg.trans (by repeat (first | exact Chg.refl _ _ | apply Chg.drew | apply Chg.drewN | refine Chg.alloc ?_ _)) G1.out))
  clear C1_129
  have R0_147 := Lib.hid (R0_130.out.up (Chg.trans (by repeat (first | exact Chg.refl _ _ | apply Chg.drew | apply Chg.drewN | refine Chg.alloc ?_ _)) G1.out))
  clear R0_130
  obtain ⟨R0_0_148c, R0_0_148f⟩ := CellF.up (Chg.trans (by repeat (first | exact Chg.refl _ _ | apply Chg.drew | apply Chg.drewN | refine Chg.alloc ?_ _)) G1.out) ⟨R0_0_131c, R0_0_131f⟩
  clear R0_0_131c R0_0_131f
  obtain ⟨R0_1_149c, R0_1_149f⟩ := CellF.up (Chg.trans (by repeat (first | exact Chg.refl _ _ | apply Chg.drew | apply Chg.drewN | refine Chg.alloc ?_ _)) G1.out) ⟨R0_1_132c, R0_1_132f⟩
  clear R0_1_132c R0_1_132f
  have q0_0_150 := Chg.cell (Chg.trans (by repeat (first | exact Chg.refl _ _ | apply Chg.drew | apply Chg.drewN | refine Chg.alloc ?_ _)) G1.out) q0_0_133 id
  clear q0_0_133
  have q0_1_151 := Chg.cell (Chg.trans (by repeat (first | exact Chg.refl _ _ | apply Chg.drew | apply Chg.drewN | refine Chg.alloc ?_ _)) G1.out) q0_1_134 id
  clear q0_1_134
  obtain ⟨x0_0_152c, x0_0_152f⟩ := CellF.up (Chg.trans (by repeat (first | exact Chg.refl _ _ | apply Chg.drew | apply Chg.drewN | refine Chg.alloc ?_ _)) G1.out) ⟨x0_0_135c, x0_0_135f⟩
  clear x0_0_135c x0_0_135f
  obtain ⟨x0_1_153c, x0_1_153f⟩ := CellF.up (Chg.trans (by repeat (first | exact Chg.refl _ _ | apply Chg.drew | apply Chg.drewN | refine Chg.alloc ?_ _)) G1.out) ⟨x0_1_136c, x0_1_136f⟩
  clear x0_1_136c x0_1_136f
  have D1_154 := Lib.hid (D1_137.out.up (Chg.trans (by repeat (first | exact Chg.refl _ _ | apply Chg.drew | apply Chg.drewN | refine Chg.alloc ?_ _)) G1.out))
  clear D1_137
  clear G1
  clear D1_154
  have hp0 : (0 : Int) ≤ (1 : Int) := by omega
  have hr0' : cntInts a0.ws ≤ 8388608 := by unfold cntInts; omega
  have hq0 : (1 : Int) + cntInts a0.ws ≤ 4611686018427387904 := by omega
  go_wp2_with fail
  refine (markBraid_any _ _ _ a0 ((1 : Int)) hp0 hq0 (C0_145.out.up (by repeat (first | exact Chg.refl _ _ | apply Chg.drew | apply Chg.drewN | refine Chg.alloc ?_ _)))).mono ?_
  rintro e w155 ⟨rfl, g1⟩
  have G1 := Lib.hid g1
  obtain ⟨hy155, hz155⟩ := up_pre (show Up w138 _ from (by repeat (first | exact Chg.refl _ _ | apply Chg.drew | apply Chg.drewN | refine Chg.alloc ?_ _))) G1.out
  clear g1
  clear C0_145
  clear x0_0_152c x0_0_152f
  clear x0_1_153c x0_1_153f
  have U_156 := Lib.hid (Chg.new (Chg.trans U_139.out (by repeat (first | exact Chg.refl _ _ | apply Chg.drew | apply Chg.drewN | refine Chg.alloc ?_ _))) G1.out (fun i hi h2 => by simp only [New] at h2; first | omega | (simp at h2; omega)))
  clear U_139
  have X0_157 := Lib.hid ((X0_140.out.up (by repeat (first | exact Chg.refl _ _ | apply Chg.drew | apply Chg.drewN | refine Chg.alloc ?_ _))).keep G1.out (fun b hb h1 h2 => by simp only [New] at h1 h2; first | omega | (simp at h1 h2; omega)))
  clear X0_140
  have X1_158 := Lib.hid ((X1_141.out.up (by repeat (first | exact Chg.refl _ _ | apply Chg.drew | apply Chg.drewN | refine Chg.alloc ?_ _))).keep G1.out (fun b hb h1 h2 => by simp only [New] at h1 h2; first | omega | (simp at h1 h2; omega)))
  clear X1_141
  have W0_159 := Lib.hid ((W0_142.out.up (by repeat (first | exact Chg.refl _ _ | apply Chg.drew | apply Chg.drewN | refine Chg.alloc ?_ _))).keep G1.out (fun b hb h1 h2 => by simp only [New] at h1 h2; first | omega | (simp at h1 h2; omega)))
  clear W0_142
  obtain ⟨W0_0_160c, W0_0_160f⟩ := CellF.keep G1.out (CellF.up (by repeat (first | exact Chg.refl _ _ | apply Chg.drew | apply Chg.drewN | refine Chg.alloc ?_ _)) ⟨W0_0_143c, W0_0_143f⟩) (fun h2 => by simp only [New] at h2; first | omega | (simp at h2; omega))
  clear W0_0_143c W0_0_143f
  obtain ⟨W0_1_161c, W0_1_161f⟩ := CellF.keep G1.out (CellF.up (by repeat (first | exact Chg.refl _ _ | apply Chg.drew | apply Chg.drewN | refine Chg.alloc ?_ _)) ⟨W0_1_144c, W0_1_144f⟩) (fun h2 => by simp only [New] at h2; first | omega | (simp at h2; omega))
  clear W0_1_144c W0_1_144f
  have C1_162 := Lib.hid ((C1_146.out.up (by repeat (first | exact Chg.refl _ _ | apply Chg.drew | apply Chg.drewN | refine Chg.alloc ?_ _))).keep G1.out (fun b hb h1 h2 => by simp only [New] at h1 h2; first | omega | (simp at h1 h2; omega)))
  clear C1_146
  have R0_163 := Lib.hid ((R0_147.out.up (by repeat (first | exact Chg.refl _ _ | apply Chg.drew | apply Chg.drewN | refine Chg.alloc ?_ _))).keep G1.out (fun b hb h1 h2 => by simp only [New] at h1 h2; first | omega | (simp at h1 h2; omega)))
  clear R0_147
  obtain ⟨R0_0_164c, R0_0_164f⟩ := CellF.keep G1.out (CellF.up (by repeat (first | exact Chg.refl _ _ | apply Chg.drew | apply Chg.drewN | refine Chg.alloc ?_ _)) ⟨R0_0_148c, R0_0_148f⟩) (fun h2 => by simp only [New] at h2; first | omega | (simp at h2; omega))
  clear R0_0_148c R0_0_148f
  obtain ⟨R0_1_165c, R0_1_165f⟩ := CellF.keep G1.out (CellF.up (by repeat (first | exact Chg.refl _ _ | apply Chg.drew | apply Chg.drewN | refine Chg.alloc ?_ _)) ⟨R0_1_149c, R0_1_149f⟩) (fun h2 => by simp only [New] at h2; first | omega | (simp at h2; omega))
  clear R0_1_149c R0_1_149f
  have q0_0_166 := Chg.cell G1.out (Chg.cell (S := Nowhere) (by repeat (first | exact Chg.refl _ _ | apply Chg.drew | apply Chg.drewN | refine Chg.alloc ?_ _)) q0_0_150 id) (fun h2 => by simp only [New] at h2; first | omega | (simp at h2; omega))
  clear q0_0_150
  have q0_1_167 := Chg.cell G1.out (Chg.cell (S := Nowhere) (by repeat (first | exact Chg.refl _ _ | apply Chg.drew | apply Chg.drewN | refine Chg.alloc ?_ _)) q0_1_151 id) (fun h2 => by simp only [New] at h2; first | omega | (simp at h2; omega))
  clear q0_1_151
  clear G1
  have hp1 : (0 : Int) ≤ (1 : Int) + cntInts a0.ws := by omega
  have hr1' : cntInts a1 ≤ 8388608 := by unfold cntInts; omega
  have hq1 : (1 : Int) + cntInts a0.ws + cntInts a1 ≤ 4611686018427387904 := by omega
  go_wp2_with fail
  refine (markInts _ _ _ a1 ((1 : Int) + cntInts a0.ws) hp1 hq1 (C1_162.out.up (by repeat (first | exact Chg.refl _ _ | apply Chg.drew | apply Chg.drewN | refine Chg.alloc ?_ _)))).mono ?_
  rintro e w168 ⟨rfl, g1, -⟩
  have G1 := Lib.hid g1
  obtain ⟨hy168, hz168⟩ := up_pre (show Up w155 _ from (by repeat (first | exact Chg.refl _ _ | apply Chg.drew | apply Chg.drewN | refine Chg.alloc ?_ _))) G1.out
  clear g1
  clear C1_162
  have U_169 := Lib.hid (Chg.new (Chg.trans U_156.out (by repeat (first | exact Chg.refl _ _ | apply Chg.drew | apply Chg.drewN | refine Chg.alloc ?_ _))) G1.out (fun i hi h2 => by simp only [New] at h2; first | omega | (simp at h2; omega)))
  clear U_156
  have X0_170 := Lib.hid ((X0_157.out.up (by repeat (first | exact Chg.refl _ _ | apply Chg.drew | apply Chg.drewN | refine Chg.alloc ?_ _))).keep G1.out (fun b hb h1 h2 => by simp only [New] at h1 h2; first | omega | (simp at h1 h2; omega)))
  clear X0_157
  have X1_171 := Lib.hid ((X1_158.out.up (by repeat (first | exact Chg.refl _ _ | apply Chg.drew | apply Chg.drewN | refine Chg.alloc ?_ _))).keep G1.out (fun b hb h1 h2 => by simp only [New] at h1 h2; first | omega | (simp at h1 h2; omega)))
  clear X1_158
  have W0_172 := Lib.hid ((W0_159.out.up (by repeat (first | exact Chg.refl _ _ | apply Chg.drew | apply Chg.drewN | refine Chg.alloc ?_ _))).keep G1.out (fun b hb h1 h2 => by simp only [New] at h1 h2; first | omega | (simp at h1 h2; omega)))
  clear W0_159
  obtain ⟨W0_0_173c, W0_0_173f⟩ := CellF.keep G1.out (CellF.up (by repeat (first | exact Chg.refl _ _ | apply Chg.drew | apply Chg.drewN | refine Chg.alloc ?_ _)) ⟨W0_0_160c, W0_0_160f⟩) (fun h2 => by simp only [New] at h2; first | omega | (simp at h2; omega))
  clear W0_0_160c W0_0_160f
  obtain ⟨W0_1_174c, W0_1_174f⟩ := CellF.keep G1.out (CellF.up (by repeat (first | exact Chg.refl _ _ | apply Chg.drew | apply Chg.drewN | refine Chg.alloc ?_ _)) ⟨W0_1_161c, W0_1_161f⟩) (fun h2 => by simp only [New] at h2; first | omega | (simp at h2; omega))
  clear W0_1_161c W0_1_161f
  have R0_175 := Lib.hid ((R0_163.out.up (by repeat (first | exact Chg.refl _ _ | apply Chg.drew | apply Chg.drewN | refine Chg.alloc ?_ _))).keep G1.out (fun b hb h1 h2 => by simp only [New] at h1 h2; first | omega | (simp at h1 h2; omega)))
  clear R0_163
  obtain ⟨R0_0_176c, R0_0_176f⟩ := CellF.keep G1.out (CellF.up (by repeat (first | exact Chg.refl _ _ | apply Chg.drew | apply Chg.drewN | refine Chg.alloc ?_ _)) ⟨R0_0_164c, R0_0_164f⟩) (fun h2 => by simp only [New] at h2; first | omega | (simp at h2; omega))
  clear R0_0_164c R0_0_164f
  obtain ⟨R0_1_177c, R0_1_177f⟩ := CellF.keep G1.out (CellF.up (by repeat (first | exact Chg.refl _ _ | apply Chg.drew | apply Chg.drewN | refine Chg.alloc ?_ _)) ⟨R0_1_165c, R0_1_165f⟩) (fun h2 => by simp only [New] at h2; first | omega | (simp at h2; omega))
  clear R0_1_165c R0_1_165f
  have q0_0_178 := Chg.cell G1.out (Chg.cell (S := Nowhere) (by repeat (first | exact Chg.refl _ _ | apply Chg.drew | apply Chg.drewN | refine Chg.alloc ?_ _)) q0_0_166 id) (fun h2 => by simp only [New] at h2; first | omega | (simp at h2; omega))
  clear q0_0_166
  have q0_1_179 := Chg.cell G1.out (Chg.cell (S := Nowhere) (by repeat (first | exact Chg.refl _ _ | apply Chg.drew | apply Chg.drewN | refine Chg.alloc ?_ _)) q0_1_167 id) (fun h2 => by simp only [New] at h2; first | omega | (simp at h2; omega))
  clear q0_1_167
  clear G1
  have hneg : decide (((1 : Int) + cntInts a0.ws + cntInts a1 : Int) < 0) = false := decide_eq_false (by omega)
  go_wp2_with fail
  refine (eqBraid_same _ _ _ _ _ (colOut a0 a1) (R0_175.out.up (by repeat (first | exact Chg.refl _ _ | apply Chg.drew | apply Chg.drewN | refine Chg.alloc ?_ _))) (W0_172.out.up (by repeat (first | exact Chg.refl _ _ | apply Chg.drew | apply Chg.drewN | refine Chg.alloc ?_ _)))).mono ?_
  rintro e w180 ⟨rfl, g1⟩
  have G1 := Lib.hid g1
  obtain ⟨hy180, hz180⟩ := up_pre (show Up w168 _ from (by repeat (first | exact Chg.refl _ _ | apply Chg.drew | apply Chg.drewN | refine Chg.alloc ?_ _))) G1.out
  clear g1
  have U_181 := Lib.hid (Chg.trans U_169.out (Chg.trans (by repeat (first | exact Chg.refl _ _ | apply Chg.drew | apply Chg.drewN | refine Chg.alloc ?_ _)) G1.out))
  clear U_169
  have X0_182 := Lib.hid (X0_170.out.up (Chg.trans (by repeat (first | exact Chg.refl _ _ | apply Chg.drew | apply Chg.drewN | refine Chg.alloc ?_ _)) G1.out))
  clear X0_170
  have X1_183 := Lib.hid (X1_171.out.up (Chg.trans (by repeat (first | exact Chg.refl _ _ | apply Chg.drew | apply Chg.drewN | refine Chg.alloc ?_ _)) G1.out))
  clear X1_171
  have W0_184 := Lib.hid (W0_172.out.up (Chg.trans (by repeat (first | exact Chg.refl _ _ | apply Chg.drew | apply Chg.drewN | refine Chg.alloc ?_ _)) G1.out))
  clear W0_172
  obtain ⟨W0_0_185c, W0_0_185f⟩ := CellF.up (Chg.trans (by repeat (first | exact Chg.refl _ _ | apply Chg.drew | apply Chg.drewN | refine Chg.alloc ?_ _)) G1.out) ⟨W0_0_173c, W0_0_173f⟩
  clear W0_0_173c W0_0_173f
  obtain ⟨W0_1_186c, W0_1_186f⟩ := CellF.up (Chg.trans (by repeat (first | exact Chg.refl _ _ | apply Chg.drew | apply Chg.drewN | refine Chg.alloc ?_ _)) G1.out) ⟨W0_1_174c, W0_1_174f⟩
  clear W0_1_174c W0_1_174f
  have R0_187 := Lib.hid (R0_175.out.up (Chg.trans (by repeat (first | exact Chg.refl _ _ | apply Chg.drew | apply Chg.drewN | refine Chg.alloc ?_ _)) G1.out))
  clear R0_175
  obtain ⟨R0_0_188c, R0_0_188f⟩ := CellF.up (Chg.trans (by repeat (first | exact Chg.refl _ _ | apply Chg.drew | apply Chg.drewN | refine Chg.alloc ?_ _)) G1.out) ⟨R0_0_176c, R0_0_176f⟩
  clear R0_0_176c R0_0_176f
  obtain ⟨R0_1_189c, R0_1_189f⟩ := CellF.up (Chg.trans (by repeat (first | exact Chg.refl _ _ | apply Chg.drew | apply Chg.drewN | refine Chg.alloc ?_ _)) G1.out) ⟨R0_1_177c, R0_1_177f⟩
  clear R0_1_177c R0_1_177f
  have q0_0_190 := Chg.cell (Chg.trans (by repeat (first | exact Chg.refl _ _ | apply Chg.drew | apply Chg.drewN | refine Chg.alloc ?_ _)) G1.out) q0_0_178 id
  clear q0_0_178
  have q0_1_191 := Chg.cell (Chg.trans (by repeat (first | exact Chg.refl _ _ | apply Chg.drew | apply Chg.drewN | refine Chg.alloc ?_ _)) G1.out) q0_1_179 id
  clear q0_1_179
  clear G1
  clear hneg
  have HR := Lib.hid (colOut_bd a0 a1)
  have hr1_0 : (0 : Int) ≤ 1 := by omega
  have hr2_0 : (1 : Int) + cntBraid (colOut a0 a1) ≤ 4611686018427387904 := by have := HR.out; omega
  go_wp2_with fail
  refine (markBraid_res _ _ _ (colOut a0 a1) (1) hr1_0 hr2_0 (R0_187.out.up (by repeat (first | exact Chg.refl _ _ | apply Chg.drew | apply Chg.drewN | refine Chg.alloc ?_ _)))).mono ?_
  rintro e w192 ⟨rfl, g1, k1⟩
  have G1 := Lib.hid g1
  obtain ⟨hy192, hz192⟩ := up_pre (show Up w180 _ from (by repeat (first | exact Chg.refl _ _ | apply Chg.drew | apply Chg.drewN | refine Chg.alloc ?_ _))) G1.out
  have K1 := Lib.hid k1
  clear g1 k1
  clear R0_187
  have U_193 := Lib.hid (Chg.new (Chg.trans U_181.out (by repeat (first | exact Chg.refl _ _ | apply Chg.drew | apply Chg.drewN | refine Chg.alloc ?_ _))) G1.out (fun i hi h2 => by simp only [New] at h2; first | omega | (simp at h2; omega)))
  clear U_181
  have X0_194 := Lib.hid ((X0_182.out.up (by repeat (first | exact Chg.refl _ _ | apply Chg.drew | apply Chg.drewN | refine Chg.alloc ?_ _))).keep G1.out (fun b hb h1 h2 => by simp only [New] at h1 h2; first | omega | (simp at h1 h2; omega)))
  clear X0_182
  have X1_195 := Lib.hid ((X1_183.out.up (by repeat (first | exact Chg.refl _ _ | apply Chg.drew | apply Chg.drewN | refine Chg.alloc ?_ _))).keep G1.out (fun b hb h1 h2 => by simp only [New] at h1 h2; first | omega | (simp at h1 h2; omega)))
  clear X1_183
  have W0_196 := Lib.hid ((W0_184.out.up (by repeat (first | exact Chg.refl _ _ | apply Chg.drew | apply Chg.drewN | refine Chg.alloc ?_ _))).keep G1.out (fun b hb h1 h2 => by simp only [New] at h1 h2; first | omega | (simp at h1 h2; omega)))
  clear W0_184
  obtain ⟨W0_0_197c, W0_0_197f⟩ := CellF.keep G1.out (CellF.up (by repeat (first | exact Chg.refl _ _ | apply Chg.drew | apply Chg.drewN | refine Chg.alloc ?_ _)) ⟨W0_0_185c, W0_0_185f⟩) (fun h2 => by simp only [New] at h2; first | omega | (simp at h2; omega))
  clear W0_0_185c W0_0_185f
  obtain ⟨W0_1_198c, W0_1_198f⟩ := CellF.keep G1.out (CellF.up (by repeat (first | exact Chg.refl _ _ | apply Chg.drew | apply Chg.drewN | refine Chg.alloc ?_ _)) ⟨W0_1_186c, W0_1_186f⟩) (fun h2 => by simp only [New] at h2; first | omega | (simp at h2; omega))
  clear W0_1_186c W0_1_186f
  obtain ⟨R0_0_199c, R0_0_199f⟩ := CellF.keep G1.out (CellF.up (by repeat (first | exact Chg.refl _ _ | apply Chg.drew | apply Chg.drewN | refine Chg.alloc ?_ _)) ⟨R0_0_188c, R0_0_188f⟩) (fun h2 => by simp only [New] at h2; first | omega | (simp at h2; omega))
  clear R0_0_188c R0_0_188f
  obtain ⟨R0_1_200c, R0_1_200f⟩ := CellF.keep G1.out (CellF.up (by repeat (first | exact Chg.refl _ _ | apply Chg.drew | apply Chg.drewN | refine Chg.alloc ?_ _)) ⟨R0_1_189c, R0_1_189f⟩) (fun h2 => by simp only [New] at h2; first | omega | (simp at h2; omega))
  clear R0_1_189c R0_1_189f
  have q0_0_201 := Chg.cell G1.out (Chg.cell (S := Nowhere) (by repeat (first | exact Chg.refl _ _ | apply Chg.drew | apply Chg.drewN | refine Chg.alloc ?_ _)) q0_0_190 id) (fun h2 => by simp only [New] at h2; first | omega | (simp at h2; omega))
  clear q0_0_190
  have q0_1_202 := Chg.cell G1.out (Chg.cell (S := Nowhere) (by repeat (first | exact Chg.refl _ _ | apply Chg.drew | apply Chg.drewN | refine Chg.alloc ?_ _)) q0_1_191 id) (fun h2 => by simp only [New] at h2; first | omega | (simp at h2; omega))
  clear q0_1_191
  clear G1
  have M0_203 := Lib.hid (K1.out)
  clear K1
  have hneg0 : decide ((1 : Int) + cntBraid (colOut a0 a1) < 0) = false := decide_eq_false (by omega)
  go_wp2_with fail
  refine (heldBraid_any _ _ _ (colOut a0 a1) (1) hr1_0 hr2_0 (M0_203.out.up (by repeat (first | exact Chg.refl _ _ | apply Chg.drew | apply Chg.drewN | refine Chg.alloc ?_ _)))).mono ?_
  rintro e w204 ⟨rfl, g1⟩
  have G1 := Lib.hid g1
  obtain ⟨hy204, hz204⟩ := up_pre (show Up w192 _ from (by repeat (first | exact Chg.refl _ _ | apply Chg.drew | apply Chg.drewN | refine Chg.alloc ?_ _))) G1.out
  clear g1
  have U_205 := Lib.hid (Chg.trans U_193.out (Chg.trans (by repeat (first | exact Chg.refl _ _ | apply Chg.drew | apply Chg.drewN | refine Chg.alloc ?_ _)) G1.out))
  clear U_193
  have X0_206 := Lib.hid (X0_194.out.up (Chg.trans (by repeat (first | exact Chg.refl _ _ | apply Chg.drew | apply Chg.drewN | refine Chg.alloc ?_ _)) G1.out))
  clear X0_194
  have X1_207 := Lib.hid (X1_195.out.up (Chg.trans (by repeat (first | exact Chg.refl _ _ | apply Chg.drew | apply Chg.drewN | refine Chg.alloc ?_ _)) G1.out))
  clear X1_195
  have W0_208 := Lib.hid (W0_196.out.up (Chg.trans (by repeat (first | exact Chg.refl _ _ | apply Chg.drew | apply Chg.drewN | refine Chg.alloc ?_ _)) G1.out))
  clear W0_196
  obtain ⟨W0_0_209c, W0_0_209f⟩ := CellF.up (Chg.trans (by repeat (first | exact Chg.refl _ _ | apply Chg.drew | apply Chg.drewN | refine Chg.alloc ?_ _)) G1.out) ⟨W0_0_197c, W0_0_197f⟩
  clear W0_0_197c W0_0_197f
  obtain ⟨W0_1_210c, W0_1_210f⟩ := CellF.up (Chg.trans (by repeat (first | exact Chg.refl _ _ | apply Chg.drew | apply Chg.drewN | refine Chg.alloc ?_ _)) G1.out) ⟨W0_1_198c, W0_1_198f⟩
  clear W0_1_198c W0_1_198f
  obtain ⟨R0_0_211c, R0_0_211f⟩ := CellF.up (Chg.trans (by repeat (first | exact Chg.refl _ _ | apply Chg.drew | apply Chg.drewN | refine Chg.alloc ?_ _)) G1.out) ⟨R0_0_199c, R0_0_199f⟩
  clear R0_0_199c R0_0_199f
  obtain ⟨R0_1_212c, R0_1_212f⟩ := CellF.up (Chg.trans (by repeat (first | exact Chg.refl _ _ | apply Chg.drew | apply Chg.drewN | refine Chg.alloc ?_ _)) G1.out) ⟨R0_1_200c, R0_1_200f⟩
  clear R0_1_200c R0_1_200f
  have q0_0_213 := Chg.cell (Chg.trans (by repeat (first | exact Chg.refl _ _ | apply Chg.drew | apply Chg.drewN | refine Chg.alloc ?_ _)) G1.out) q0_0_201 id
  clear q0_0_201
  have q0_1_214 := Chg.cell (Chg.trans (by repeat (first | exact Chg.refl _ _ | apply Chg.drew | apply Chg.drewN | refine Chg.alloc ?_ _)) G1.out) q0_1_202 id
  clear q0_1_202
  have M0_215 := Lib.hid (M0_203.out.up (Chg.trans (by repeat (first | exact Chg.refl _ _ | apply Chg.drew | apply Chg.drewN | refine Chg.alloc ?_ _)) G1.out))
  clear M0_203
  clear G1
  go_wp2_with fail
  refine (toBraid_any _ _ _ a0 (by unfold cntInts; omega) (X0_206.out.up (by repeat (first | exact Chg.refl _ _ | apply Chg.drew | apply Chg.drewN | refine Chg.alloc ?_ _)))).mono ?_
  rintro e w216 ⟨v216, rfl, k1, g1⟩
  have K1 := Lib.hid k1
  clear k1
  have G1 := Lib.hid g1
  obtain ⟨hy216, hz216⟩ := up_pre (show Up w204 _ from (by repeat (first | exact Chg.refl _ _ | apply Chg.drew | apply Chg.drewN | refine Chg.alloc ?_ _))) G1.out
  clear g1
  have U_217 := Lib.hid (Chg.trans U_205.out (Chg.trans (by repeat (first | exact Chg.refl _ _ | apply Chg.drew | apply Chg.drewN | refine Chg.alloc ?_ _)) G1.out))
  clear U_205
  have X0_218 := Lib.hid (X0_206.out.up (Chg.trans (by repeat (first | exact Chg.refl _ _ | apply Chg.drew | apply Chg.drewN | refine Chg.alloc ?_ _)) G1.out))
  clear X0_206
  have X1_219 := Lib.hid (X1_207.out.up (Chg.trans (by repeat (first | exact Chg.refl _ _ | apply Chg.drew | apply Chg.drewN | refine Chg.alloc ?_ _)) G1.out))
  clear X1_207
  have W0_220 := Lib.hid (W0_208.out.up (Chg.trans (by repeat (first | exact Chg.refl _ _ | apply Chg.drew | apply Chg.drewN | refine Chg.alloc ?_ _)) G1.out))
  clear W0_208
  obtain ⟨W0_0_221c, W0_0_221f⟩ := CellF.up (Chg.trans (by repeat (first | exact Chg.refl _ _ | apply Chg.drew | apply Chg.drewN | refine Chg.alloc ?_ _)) G1.out) ⟨W0_0_209c, W0_0_209f⟩
  clear W0_0_209c W0_0_209f
  obtain ⟨W0_1_222c, W0_1_222f⟩ := CellF.up (Chg.trans (by repeat (first | exact Chg.refl _ _ | apply Chg.drew | apply Chg.drewN | refine Chg.alloc ?_ _)) G1.out) ⟨W0_1_210c, W0_1_210f⟩
  clear W0_1_210c W0_1_210f
  obtain ⟨R0_0_223c, R0_0_223f⟩ := CellF.up (Chg.trans (by repeat (first | exact Chg.refl _ _ | apply Chg.drew | apply Chg.drewN | refine Chg.alloc ?_ _)) G1.out) ⟨R0_0_211c, R0_0_211f⟩
  clear R0_0_211c R0_0_211f
  obtain ⟨R0_1_224c, R0_1_224f⟩ := CellF.up (Chg.trans (by repeat (first | exact Chg.refl _ _ | apply Chg.drew | apply Chg.drewN | refine Chg.alloc ?_ _)) G1.out) ⟨R0_1_212c, R0_1_212f⟩
  clear R0_1_212c R0_1_212f
  have q0_0_225 := Chg.cell (Chg.trans (by repeat (first | exact Chg.refl _ _ | apply Chg.drew | apply Chg.drewN | refine Chg.alloc ?_ _)) G1.out) q0_0_213 id
  clear q0_0_213
  have q0_1_226 := Chg.cell (Chg.trans (by repeat (first | exact Chg.refl _ _ | apply Chg.drew | apply Chg.drewN | refine Chg.alloc ?_ _)) G1.out) q0_1_214 id
  clear q0_1_214
  have M0_227 := Lib.hid (M0_215.out.up (Chg.trans (by repeat (first | exact Chg.refl _ _ | apply Chg.drew | apply Chg.drewN | refine Chg.alloc ?_ _)) G1.out))
  clear M0_215
  clear G1
  have E0_228 := Lib.hid (K1.out)
  clear K1
  obtain ⟨As216, cs216, rfl, ys216, hls216, hcs216⟩ := openBraid E0_228.out
  clear ys216
  go_wp2_with fail
  refine (toInts _ _ _ a1 (by unfold cntInts; omega) (X1_219.out.up (by repeat (first | exact Chg.refl _ _ | apply Chg.drew | apply Chg.drewN | refine Chg.alloc ?_ _)))).mono ?_
  rintro e w229 ⟨v229, rfl, k1, g1⟩
  obtain ⟨A229, c229, rfl, hl229, hc229, -⟩ := k1.shape
  have K1 := Lib.hid k1
  clear k1
  have G1 := Lib.hid g1
  obtain ⟨hy229, hz229⟩ := up_pre (show Up w216 _ from (by repeat (first | exact Chg.refl _ _ | apply Chg.drew | apply Chg.drewN | refine Chg.alloc ?_ _))) G1.out
  clear g1
  have U_230 := Lib.hid (Chg.trans U_217.out (Chg.trans (by repeat (first | exact Chg.refl _ _ | apply Chg.drew | apply Chg.drewN | refine Chg.alloc ?_ _)) G1.out))
  clear U_217
  have X0_231 := Lib.hid (X0_218.out.up (Chg.trans (by repeat (first | exact Chg.refl _ _ | apply Chg.drew | apply Chg.drewN | refine Chg.alloc ?_ _)) G1.out))
  clear X0_218
  have X1_232 := Lib.hid (X1_219.out.up (Chg.trans (by repeat (first | exact Chg.refl _ _ | apply Chg.drew | apply Chg.drewN | refine Chg.alloc ?_ _)) G1.out))
  clear X1_219
  have W0_233 := Lib.hid (W0_220.out.up (Chg.trans (by repeat (first | exact Chg.refl _ _ | apply Chg.drew | apply Chg.drewN | refine Chg.alloc ?_ _)) G1.out))
  clear W0_220
  obtain ⟨W0_0_234c, W0_0_234f⟩ := CellF.up (Chg.trans (by repeat (first | exact Chg.refl _ _ | apply Chg.drew | apply Chg.drewN | refine Chg.alloc ?_ _)) G1.out) ⟨W0_0_221c, W0_0_221f⟩
  clear W0_0_221c W0_0_221f
  obtain ⟨W0_1_235c, W0_1_235f⟩ := CellF.up (Chg.trans (by repeat (first | exact Chg.refl _ _ | apply Chg.drew | apply Chg.drewN | refine Chg.alloc ?_ _)) G1.out) ⟨W0_1_222c, W0_1_222f⟩
  clear W0_1_222c W0_1_222f
  obtain ⟨R0_0_236c, R0_0_236f⟩ := CellF.up (Chg.trans (by repeat (first | exact Chg.refl _ _ | apply Chg.drew | apply Chg.drewN | refine Chg.alloc ?_ _)) G1.out) ⟨R0_0_223c, R0_0_223f⟩
  clear R0_0_223c R0_0_223f
  obtain ⟨R0_1_237c, R0_1_237f⟩ := CellF.up (Chg.trans (by repeat (first | exact Chg.refl _ _ | apply Chg.drew | apply Chg.drewN | refine Chg.alloc ?_ _)) G1.out) ⟨R0_1_224c, R0_1_224f⟩
  clear R0_1_224c R0_1_224f
  have q0_0_238 := Chg.cell (Chg.trans (by repeat (first | exact Chg.refl _ _ | apply Chg.drew | apply Chg.drewN | refine Chg.alloc ?_ _)) G1.out) q0_0_225 id
  clear q0_0_225
  have q0_1_239 := Chg.cell (Chg.trans (by repeat (first | exact Chg.refl _ _ | apply Chg.drew | apply Chg.drewN | refine Chg.alloc ?_ _)) G1.out) q0_1_226 id
  clear q0_1_226
  have M0_240 := Lib.hid (M0_227.out.up (Chg.trans (by repeat (first | exact Chg.refl _ _ | apply Chg.drew | apply Chg.drewN | refine Chg.alloc ?_ _)) G1.out))
  clear M0_227
  have E0_241 := Lib.hid (E0_228.out.up (Chg.trans (by repeat (first | exact Chg.refl _ _ | apply Chg.drew | apply Chg.drewN | refine Chg.alloc ?_ _)) G1.out))
  clear E0_228
  clear G1
  have E1_242 := Lib.hid (K1.out)
  clear K1
  go_wp2_with fail
  refine (ColumnBraid_law _ _ _ a0 (E0_241.out.up (by repeat (first | exact Chg.refl _ _ | apply Chg.drew | apply Chg.drewN | refine Chg.alloc ?_ _))) _ _ a1 (E1_242.out.up (by repeat (first | exact Chg.refl _ _ | apply Chg.drew | apply Chg.drewN | refine Chg.alloc ?_ _)))).mono ?_
  rintro e w243 ⟨v243, rfl, k1, g1⟩
  have K1 := Lib.hid k1
  clear k1
  have G1 := Lib.hid g1
  obtain ⟨hy243, hz243⟩ := up_pre (show Up w229 _ from (by repeat (first | exact Chg.refl _ _ | apply Chg.drew | apply Chg.drewN | refine Chg.alloc ?_ _))) G1.out
  clear g1
  have U_244 := Lib.hid (Chg.trans U_230.out (Chg.trans (by repeat (first | exact Chg.refl _ _ | apply Chg.drew | apply Chg.drewN | refine Chg.alloc ?_ _)) G1.out))
  clear U_230
  have X0_245 := Lib.hid (X0_231.out.up (Chg.trans (by repeat (first | exact Chg.refl _ _ | apply Chg.drew | apply Chg.drewN | refine Chg.alloc ?_ _)) G1.out))
  clear X0_231
  have X1_246 := Lib.hid (X1_232.out.up (Chg.trans (by repeat (first | exact Chg.refl _ _ | apply Chg.drew | apply Chg.drewN | refine Chg.alloc ?_ _)) G1.out))
  clear X1_232
  have W0_247 := Lib.hid (W0_233.out.up (Chg.trans (by repeat (first | exact Chg.refl _ _ | apply Chg.drew | apply Chg.drewN | refine Chg.alloc ?_ _)) G1.out))
  clear W0_233
  obtain ⟨W0_0_248c, W0_0_248f⟩ := CellF.up (Chg.trans (by repeat (first | exact Chg.refl _ _ | apply Chg.drew | apply Chg.drewN | refine Chg.alloc ?_ _)) G1.out) ⟨W0_0_234c, W0_0_234f⟩
  clear W0_0_234c W0_0_234f
  obtain ⟨W0_1_249c, W0_1_249f⟩ := CellF.up (Chg.trans (by repeat (first | exact Chg.refl _ _ | apply Chg.drew | apply Chg.drewN | refine Chg.alloc ?_ _)) G1.out) ⟨W0_1_235c, W0_1_235f⟩
  clear W0_1_235c W0_1_235f
  obtain ⟨R0_0_250c, R0_0_250f⟩ := CellF.up (Chg.trans (by repeat (first | exact Chg.refl _ _ | apply Chg.drew | apply Chg.drewN | refine Chg.alloc ?_ _)) G1.out) ⟨R0_0_236c, R0_0_236f⟩
  clear R0_0_236c R0_0_236f
  obtain ⟨R0_1_251c, R0_1_251f⟩ := CellF.up (Chg.trans (by repeat (first | exact Chg.refl _ _ | apply Chg.drew | apply Chg.drewN | refine Chg.alloc ?_ _)) G1.out) ⟨R0_1_237c, R0_1_237f⟩
  clear R0_1_237c R0_1_237f
  have q0_0_252 := Chg.cell (Chg.trans (by repeat (first | exact Chg.refl _ _ | apply Chg.drew | apply Chg.drewN | refine Chg.alloc ?_ _)) G1.out) q0_0_238 id
  clear q0_0_238
  have q0_1_253 := Chg.cell (Chg.trans (by repeat (first | exact Chg.refl _ _ | apply Chg.drew | apply Chg.drewN | refine Chg.alloc ?_ _)) G1.out) q0_1_239 id
  clear q0_1_239
  have M0_254 := Lib.hid (M0_240.out.up (Chg.trans (by repeat (first | exact Chg.refl _ _ | apply Chg.drew | apply Chg.drewN | refine Chg.alloc ?_ _)) G1.out))
  clear M0_240
  have E0_255 := Lib.hid (E0_241.out.up (Chg.trans (by repeat (first | exact Chg.refl _ _ | apply Chg.drew | apply Chg.drewN | refine Chg.alloc ?_ _)) G1.out))
  clear E0_241
  have E1_256 := Lib.hid (E1_242.out.up (Chg.trans (by repeat (first | exact Chg.refl _ _ | apply Chg.drew | apply Chg.drewN | refine Chg.alloc ?_ _)) G1.out))
  clear E1_242
  clear G1
  have H0_257 := Lib.hid (K1.out)
  clear K1
  obtain ⟨As243, cs243, rfl, ys243, hls243, hcs243⟩ := openBraid H0_257.out
  clear ys243
  have hbq243_0 : w.heap.size < w243.heap.size := by omega
  have hbr243_0 : w28.heap.size < w243.heap.size := by omega
  have hbr243_1 : w37.heap.size < w243.heap.size := by omega
  have hbr243_2 : w62.heap.size < w243.heap.size := by omega
  go_wp2_with fail
  refine (eqBraid_same _ _ _ _ _ (colOut a0 a1) (H0_257.out.up (by repeat (first | exact Chg.refl _ _ | apply Chg.drew | apply Chg.drewN | refine Chg.alloc ?_ _))) (W0_247.out.up (by repeat (first | exact Chg.refl _ _ | apply Chg.drew | apply Chg.drewN | refine Chg.alloc ?_ _)))).mono ?_
  rintro e w258 ⟨rfl, g1⟩
  have G1 := Lib.hid g1
  obtain ⟨hy258, hz258⟩ := up_pre (show Up w243 _ from (by repeat (first | exact Chg.refl _ _ | apply Chg.drew | apply Chg.drewN | refine Chg.alloc ?_ _))) G1.out
  clear g1
  have U_259 := Lib.hid (Chg.trans U_244.out (Chg.trans (by repeat (first | exact Chg.refl _ _ | apply Chg.drew | apply Chg.drewN | refine Chg.alloc ?_ _)) G1.out))
  clear U_244
  have X0_260 := Lib.hid (X0_245.out.up (Chg.trans (by repeat (first | exact Chg.refl _ _ | apply Chg.drew | apply Chg.drewN | refine Chg.alloc ?_ _)) G1.out))
  clear X0_245
  have X1_261 := Lib.hid (X1_246.out.up (Chg.trans (by repeat (first | exact Chg.refl _ _ | apply Chg.drew | apply Chg.drewN | refine Chg.alloc ?_ _)) G1.out))
  clear X1_246
  have W0_262 := Lib.hid (W0_247.out.up (Chg.trans (by repeat (first | exact Chg.refl _ _ | apply Chg.drew | apply Chg.drewN | refine Chg.alloc ?_ _)) G1.out))
  clear W0_247
  obtain ⟨W0_0_263c, W0_0_263f⟩ := CellF.up (Chg.trans (by repeat (first | exact Chg.refl _ _ | apply Chg.drew | apply Chg.drewN | refine Chg.alloc ?_ _)) G1.out) ⟨W0_0_248c, W0_0_248f⟩
  clear W0_0_248c W0_0_248f
  obtain ⟨W0_1_264c, W0_1_264f⟩ := CellF.up (Chg.trans (by repeat (first | exact Chg.refl _ _ | apply Chg.drew | apply Chg.drewN | refine Chg.alloc ?_ _)) G1.out) ⟨W0_1_249c, W0_1_249f⟩
  clear W0_1_249c W0_1_249f
  obtain ⟨R0_0_265c, R0_0_265f⟩ := CellF.up (Chg.trans (by repeat (first | exact Chg.refl _ _ | apply Chg.drew | apply Chg.drewN | refine Chg.alloc ?_ _)) G1.out) ⟨R0_0_250c, R0_0_250f⟩
  clear R0_0_250c R0_0_250f
  obtain ⟨R0_1_266c, R0_1_266f⟩ := CellF.up (Chg.trans (by repeat (first | exact Chg.refl _ _ | apply Chg.drew | apply Chg.drewN | refine Chg.alloc ?_ _)) G1.out) ⟨R0_1_251c, R0_1_251f⟩
  clear R0_1_251c R0_1_251f
  have q0_0_267 := Chg.cell (Chg.trans (by repeat (first | exact Chg.refl _ _ | apply Chg.drew | apply Chg.drewN | refine Chg.alloc ?_ _)) G1.out) q0_0_252 id
  clear q0_0_252
  have q0_1_268 := Chg.cell (Chg.trans (by repeat (first | exact Chg.refl _ _ | apply Chg.drew | apply Chg.drewN | refine Chg.alloc ?_ _)) G1.out) q0_1_253 id
  clear q0_1_253
  have M0_269 := Lib.hid (M0_254.out.up (Chg.trans (by repeat (first | exact Chg.refl _ _ | apply Chg.drew | apply Chg.drewN | refine Chg.alloc ?_ _)) G1.out))
  clear M0_254
  have E0_270 := Lib.hid (E0_255.out.up (Chg.trans (by repeat (first | exact Chg.refl _ _ | apply Chg.drew | apply Chg.drewN | refine Chg.alloc ?_ _)) G1.out))
  clear E0_255
  have E1_271 := Lib.hid (E1_256.out.up (Chg.trans (by repeat (first | exact Chg.refl _ _ | apply Chg.drew | apply Chg.drewN | refine Chg.alloc ?_ _)) G1.out))
  clear E1_256
  have H0_272 := Lib.hid (H0_257.out.up (Chg.trans (by repeat (first | exact Chg.refl _ _ | apply Chg.drew | apply Chg.drewN | refine Chg.alloc ?_ _)) G1.out))
  clear H0_257
  obtain ⟨H0_0_273c, H0_0_273f⟩ := (show CellF w258 ⟨w243.heap.size, 0, none⟩ (.int .i64 (colOut a0 a1).n) from CellF.up G1.out (by repeat (first | ((refine cellF_at ?_ rfl); (simp; done)) | refine CellF.up ((Chg.refl _ _).alloc _) ?_)))
  obtain ⟨H0_1_274c, H0_1_274f⟩ := (show CellF w258 ⟨w243.heap.size, 1, none⟩ (.slice As243 (colOut a0 a1).ws.length cs243) from CellF.up G1.out (by repeat (first | ((refine cellF_at ?_ rfl); (simp; done)) | refine CellF.up ((Chg.refl _ _).alloc _) ?_)))
  clear G1
  have hbz275 : w243.heap.size < w258.heap.size := World.block_lt_of_cell? _ _ H0_0_273c
  go_wp2_with fail
  refine (heldBraid_any _ _ _ (colOut a0 a1) (1) hr1_0 hr2_0 (M0_269.out.up (by repeat (first | exact Chg.refl _ _ | apply Chg.drew | apply Chg.drewN | refine Chg.alloc ?_ _)))).mono ?_
  rintro e w276 ⟨rfl, g1⟩
  have G1 := Lib.hid g1
  obtain ⟨hy276, hz276⟩ := up_pre (show Up w258 _ from (by repeat (first | exact Chg.refl _ _ | apply Chg.drew | apply Chg.drewN | refine Chg.alloc ?_ _))) G1.out
  clear g1
  have U_277 := Lib.hid (Chg.trans U_259.out (Chg.trans (by repeat (first | exact Chg.refl _ _ | apply Chg.drew | apply Chg.drewN | refine Chg.alloc ?_ _)) G1.out))
  clear U_259
  have X0_278 := Lib.hid (X0_260.out.up (Chg.trans (by repeat (first | exact Chg.refl _ _ | apply Chg.drew | apply Chg.drewN | refine Chg.alloc ?_ _)) G1.out))
  clear X0_260
  have X1_279 := Lib.hid (X1_261.out.up (Chg.trans (by repeat (first | exact Chg.refl _ _ | apply Chg.drew | apply Chg.drewN | refine Chg.alloc ?_ _)) G1.out))
  clear X1_261
  have W0_280 := Lib.hid (W0_262.out.up (Chg.trans (by repeat (first | exact Chg.refl _ _ | apply Chg.drew | apply Chg.drewN | refine Chg.alloc ?_ _)) G1.out))
  clear W0_262
  obtain ⟨W0_0_281c, W0_0_281f⟩ := CellF.up (Chg.trans (by repeat (first | exact Chg.refl _ _ | apply Chg.drew | apply Chg.drewN | refine Chg.alloc ?_ _)) G1.out) ⟨W0_0_263c, W0_0_263f⟩
  clear W0_0_263c W0_0_263f
  obtain ⟨W0_1_282c, W0_1_282f⟩ := CellF.up (Chg.trans (by repeat (first | exact Chg.refl _ _ | apply Chg.drew | apply Chg.drewN | refine Chg.alloc ?_ _)) G1.out) ⟨W0_1_264c, W0_1_264f⟩
  clear W0_1_264c W0_1_264f
  obtain ⟨R0_0_283c, R0_0_283f⟩ := CellF.up (Chg.trans (by repeat (first | exact Chg.refl _ _ | apply Chg.drew | apply Chg.drewN | refine Chg.alloc ?_ _)) G1.out) ⟨R0_0_265c, R0_0_265f⟩
  clear R0_0_265c R0_0_265f
  obtain ⟨R0_1_284c, R0_1_284f⟩ := CellF.up (Chg.trans (by repeat (first | exact Chg.refl _ _ | apply Chg.drew | apply Chg.drewN | refine Chg.alloc ?_ _)) G1.out) ⟨R0_1_266c, R0_1_266f⟩
  clear R0_1_266c R0_1_266f
  have q0_0_285 := Chg.cell (Chg.trans (by repeat (first | exact Chg.refl _ _ | apply Chg.drew | apply Chg.drewN | refine Chg.alloc ?_ _)) G1.out) q0_0_267 id
  clear q0_0_267
  have q0_1_286 := Chg.cell (Chg.trans (by repeat (first | exact Chg.refl _ _ | apply Chg.drew | apply Chg.drewN | refine Chg.alloc ?_ _)) G1.out) q0_1_268 id
  clear q0_1_268
  have M0_287 := Lib.hid (M0_269.out.up (Chg.trans (by repeat (first | exact Chg.refl _ _ | apply Chg.drew | apply Chg.drewN | refine Chg.alloc ?_ _)) G1.out))
  clear M0_269
  have E0_288 := Lib.hid (E0_270.out.up (Chg.trans (by repeat (first | exact Chg.refl _ _ | apply Chg.drew | apply Chg.drewN | refine Chg.alloc ?_ _)) G1.out))
  clear E0_270
  have E1_289 := Lib.hid (E1_271.out.up (Chg.trans (by repeat (first | exact Chg.refl _ _ | apply Chg.drew | apply Chg.drewN | refine Chg.alloc ?_ _)) G1.out))
  clear E1_271
  have H0_290 := Lib.hid (H0_272.out.up (Chg.trans (by repeat (first | exact Chg.refl _ _ | apply Chg.drew | apply Chg.drewN | refine Chg.alloc ?_ _)) G1.out))
  clear H0_272
  obtain ⟨H0_0_291c, H0_0_291f⟩ := CellF.up (Chg.trans (by repeat (first | exact Chg.refl _ _ | apply Chg.drew | apply Chg.drewN | refine Chg.alloc ?_ _)) G1.out) ⟨H0_0_273c, H0_0_273f⟩
  clear H0_0_273c H0_0_273f
  obtain ⟨H0_1_292c, H0_1_292f⟩ := CellF.up (Chg.trans (by repeat (first | exact Chg.refl _ _ | apply Chg.drew | apply Chg.drewN | refine Chg.alloc ?_ _)) G1.out) ⟨H0_1_274c, H0_1_274f⟩
  clear H0_1_274c H0_1_274f
  clear G1
  go_wp2
  go_ret
  exact ⟨rfl, Up.below (Chg.trans U_277.out (by repeat (first | exact Chg.refl _ _ | apply Chg.drew | apply Chg.drewN | refine Chg.alloc ?_ _)))⟩
set_option maxRecDepth 100000 in
theorem walk (w : World) (v0 : Value) (a0 : BraidM) (ha0 : BraidV w (fun b => b < w.heap.size) v0 a0) (v1 : Value) (a1 : List Int) (ha1 : Ints w (fun b => b < w.heap.size) v1 a1) :
    Calls Try.prog 5 #[v0, v1] w fun e w' => e = .returned (.bool true) ∧ Below w.heap.size w w' := by
  by_cases hb1 : a1.length ≤ 1048576
  rotate_left
  · obtain ⟨A1, c1, rfl, -⟩ := ha1.shape
    obtain ⟨A0, c0, rfl, y0, hl0, hc0⟩ := openBraid ha0
    go_enter Try.func5, Try.ntmps5
    go_wp2
    go_ret
    exact ⟨rfl, Up.below (by repeat (first | exact Chg.refl _ _ | apply Chg.drew | apply Chg.drewN | refine Chg.alloc ?_ _))⟩
  by_cases hbt : (a0.ws.length : Int) ≤ 1048576
  rotate_left
  · skip
    obtain ⟨A0, c0, rfl, y0, hl0, hc0⟩ := openBraid ha0
    have X0 := Lib.hid ha0
    clear ha0 y0
    have U0 := Lib.hid (Chg.refl Nowhere w)
    obtain ⟨A1, c1, rfl, -⟩ := ha1.shape
    have hd : decide ((-1 : Int) < 0) = true := rfl
    have U_1 := Lib.hid (Chg.trans U0.out ((Chg.refl Nowhere w).alloc (.cells #[.int .i64 a0.n, .slice A0 a0.ws.length c0] 42)))
    clear U0
    have X_2 := Lib.hid (X0.out.up ((Chg.refl Nowhere w).alloc (.cells #[.int .i64 a0.n, .slice A0 a0.ws.length c0] 42)))
    clear X0
    have q0_3 := (show (w.alloc (.cells #[.int .i64 a0.n, .slice A0 a0.ws.length c0] 42)).cell? ⟨w.heap.size, 0, none⟩ = some (.int .i64 a0.n) from cell_new _ _ _ _)
    have q1_4 := (show (w.alloc (.cells #[.int .i64 a0.n, .slice A0 a0.ws.length c0] 42)).cell? ⟨w.heap.size, 1, none⟩ = some (.slice A0 a0.ws.length c0) from cell_new _ _ _ _)
    have hbx5 : w.heap.size < (w.alloc (.cells #[.int .i64 a0.n, .slice A0 a0.ws.length c0] 42)).heap.size := by simp
    go_enter Try.func5, Try.ntmps5
    go_wp2_with fail
    refine (szBraid_no _ _ _ a0 1048576 (by omega) (by omega) (X_2.out.up (by repeat (first | exact Chg.refl _ _ | apply Chg.drew | apply Chg.drewN | refine Chg.alloc ?_ _)))).mono ?_
    rintro e w6 ⟨rfl, g1⟩
    have G1 := Lib.hid g1
    have hz6 := G1.out.size
    clear g1
    have U_7 := Lib.hid (Chg.trans U_1.out (Chg.trans (by repeat (first | exact Chg.refl _ _ | apply Chg.drew | apply Chg.drewN | refine Chg.alloc ?_ _)) G1.out))
    clear U_1
    have X_8 := Lib.hid (X_2.out.up (Chg.trans (by repeat (first | exact Chg.refl _ _ | apply Chg.drew | apply Chg.drewN | refine Chg.alloc ?_ _)) G1.out))
    clear X_2
    have q0_9 := Chg.cell (Chg.trans (by repeat (first | exact Chg.refl _ _ | apply Chg.drew | apply Chg.drewN | refine Chg.alloc ?_ _)) G1.out) q0_3 id
    clear q0_3
    have q1_10 := Chg.cell (Chg.trans (by repeat (first | exact Chg.refl _ _ | apply Chg.drew | apply Chg.drewN | refine Chg.alloc ?_ _)) G1.out) q1_4 id
    clear q1_4
    clear G1
    go_wp2
    go_ret
    exact ⟨rfl, Up.below (Chg.trans U_7.out (by repeat (first | exact Chg.refl _ _ | apply Chg.drew | apply Chg.drewN | refine Chg.alloc ?_ _)))⟩
  exact walk0 w v0 a0 ha0 v1 a1 ha1 hb1 hbt
end fnExactColumnBraid
end Go.Proofs.Ytmimbnpcokfnlaa
