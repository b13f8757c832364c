/- Lists of lists under construction, whose rows are only read: one row put in another's place, a whole list behind. No condition. Comparisons of lists on both sides. No condition. Copies and appends of lists of numbers. No condition. -/
import Derived.Test.YtplabnjdhkmmkaaPF5
import Derived.Test.YtplabnjdhkmmkaaPF6
import Derived.Laws.OwnMore
import Derived.Laws.AppendOwnNone
section
set_option maxRecDepth 100000
set_option linter.unusedSimpArgs false
set_option linter.unusedVariables false
namespace Go.Proofs.Ytplabnjdhkmmkaa
open Go.ChangeShapes Go.WideShapes Go.ChangeAt Go.RowKit
theorem chunk1 {cs : List Value} {i : Nat} (h : i < cs.length) : (cs.drop (i * 1)).take 1 = [cs[i]] := by
  rw [Nat.mul_one, List.drop_eq_getElem_cons h, List.take_succ_cons, List.take_zero]
theorem LRow.made (w : World) (base : Nat) (hb : base ≤ w.heap.size) : LRow (w.alloc (.cells #[] 23)) base (.slice (some ⟨w.heap.size, 0, none⟩) 0 0) [] :=
  ⟨[], World.ownsRow_made w #[] 0 hb (by unfold Go.maxLen; omega) rfl, fun i h => by simp at h⟩
/-- row i, and what is left when another row is put in its place -/
theorem LRow.cell {w : World} {base : Nat} {v : Value} {rs : List (List Int)} (h : LRow w base v rs) {i : Nat} (hi : i < rs.length) :
    ∃ g c A k, v = .slice (some ⟨g, 0, none⟩) rs.length c ∧ (base ≤ g ∧ g < w.heap.size) ∧ w.cell? ⟨g, i, none⟩ = some (.slice A rs[i].length k) ∧ w.frozen? ⟨g, i, none⟩ = false ∧ Ints w (fun b => base ≤ b ∧ b < w.heap.size ∧ b ≠ g) (.slice A rs[i].length k) rs[i] ∧
      ∀ (w1 : World) (A' : Option Addr) (k' : Nat) (r : List Int), Up w w1 → Ints w1 (fun b => w.heap.size ≤ b ∧ b < w1.heap.size) (.slice A' r.length k') r → (r.length ≤ k' ∧ k' ≤ 9223372036854775807) → LRow (w1.setCell ⟨g, i, none⟩ (.slice A' r.length k')) base v (rs.set i r) ∧ Chg (fun b => b = g) w1 (w1.setCell ⟨g, i, none⟩ (.slice A' r.length k')) := by
  obtain ⟨cs, h1, h2⟩ := h
  have hcl : cs.length = rs.length := by have := h1.1; omega
  have hsh : ∃ g c, v = .slice (some ⟨g, 0, none⟩) rs.length c := by
    rcases h1.2 with ⟨-, h0⟩ | ⟨g, cap, cur, hv, -⟩
    · omega
    · exact ⟨g, cap, hv⟩
  obtain ⟨g, c, rfl⟩ := hsh
  have hgl := h1.lt g rfl
  obtain ⟨A, k, e1, i1, b1⟩ := h2 i hi
  rw [chunk1 (by omega)] at e1
  have e2 : cs[i]'(by omega) = .slice A rs[i].length k := by simpa using e1
  have hc := h1.cellAt i (by omega)
  rw [List.getElem?_eq_getElem (by omega), e2] at hc
  refine ⟨g, c, A, k, rfl, hgl, hc, h1.frozenAt i, i1.mono (fun b _ hb => ⟨hb.1, hb.2.1, fun e => hb.2.2 (by rw [e]; rfl)⟩), fun w1 A' k' r hu hr hk => ?_⟩
  have hC : Chg (fun b => b = g) w1 (w1.setCell ⟨g, i, none⟩ (.slice A' r.length k')) := Chg.setCell (Chg.refl (fun b => b = g) w1) (p := ⟨g, i, none⟩) (.inl (show g = g from rfl)) _
  have h1' := ownsRow_kept h1 hu (fun b hb => id)
  obtain ⟨s1, -⟩ := h1'.stored i (.slice A' r.length k')
  have hsz : (w1.setCell ⟨g, i, none⟩ (.slice A' r.length k')).heap.size = w1.heap.size := by simp [World.setCell]
  refine ⟨⟨cs.set i (.slice A' r.length k'), by rw [List.length_set]; exact s1, fun j hj => ?_⟩, hC⟩
  rw [List.length_set] at hj
  rw [chunk1 (by rw [List.length_set]; omega)]
  have hsu := hu.size
  by_cases e : i = j
  · subst e
    simp only [List.getElem_set_self]
    exact ⟨A', k', rfl, (hr.keep hC (fun b _ hb e => by have e : b = g := e; omega)).mono (fun b _ hb => ⟨by omega, by rw [hsz]; exact hb.2, fun e => by injection e with e; have e : g = b := e; omega⟩), hk⟩
  · rw [List.getElem_set_ne e, List.getElem_set_ne e]
    have h3 := h2 j hj
    rw [chunk1 (by omega)] at h3
    exact ((h3.up hu).keep hC (fun b _ hb e => hb.2.2 (by have e : b = g := e; rw [e]; rfl))).mono (fun b _ hb => ⟨hb.1, by rw [hsz]; omega, hb.2.2⟩)
/-- a whole list of rows is appended -/
theorem wp_app_lrows {w : World} {ops : Array Oper} {rest : List Oper} {o : Oper} {a : Act} {R : Exit → Act → World → Prop} (hgd : o.guard = none) (s x : Operand)
    (ho : o.op = .call { callee := .builtin .append, args := #[s, x], argTypes := #[33, 33] })
    (base : Nat) (v : Value) (hs : a.eval s = v) (hown : LRow w base v [])
    (M H L : Nat → Prop) (u : Value) (ys : List (List Int)) (hx : a.eval x = u) (hsrc : IntSSV w M H L u ys) (hL : ∀ b, b < w.heap.size → L b → base ≤ b ∧ v.ownBlock ≠ some b) (hlen : ys.length ≤ 1000000) (hbase : base ≤ w.heap.size)
    (h : ∀ v' w', LRow w' base v' ys → Chg (fun b => v.ownBlock = some b) w w' → (∀ b, v'.ownBlock = some b → v.ownBlock = some b ∨ w.heap.size ≤ b) → wpList Try.prog ops R rest (a.put o.dst v') w') : wpList Try.prog ops R (o :: rest) a w := by
  obtain ⟨i0, hi0, hz0, hz1, hz2⟩ := info_parts infoISl
  obtain ⟨cs0, h1, h2⟩ := hown
  obtain ⟨cs, hraw, hE⟩ := hsrc
  obtain ⟨hcl, A, c, rfl, hlc, hcm, hr, hnn⟩ := hraw
  have hcs0 : cs0 = [] := List.eq_nil_of_length_eq_zero (by have := h1.1; simpa using this)
  subst hcs0
  have fin : ∀ v' w', w'.ownsRow base 23 1 v' ys.length cs → Chg (fun b => v.ownBlock = some b) w w' → (∀ b, v'.ownBlock = some b → v.ownBlock = some b ∨ w.heap.size ≤ b) → LRow w' base v' ys := fun v' w' k1 hC k3 => ⟨cs, k1, fun i hi => by
    have hsz := hC.size
    have h0 := (hE i hi).mono (T := fun b => L b ∧ b < w.heap.size) (fun b hb hq => ⟨hq, hb⟩)
    exact (h0.keep hC (fun b hb hq e => (hL b hb hq.1).2 e)).mono (fun b _ hq => by
      obtain ⟨q1, q2⟩ := hL b hq.2 hq.1
      exact ⟨q1, by omega, fun e => (k3 b e).elim q2 (fun h => by omega)⟩)⟩
  cases A with
  | none =>
    have hy : ys = [] := by
      rcases Nat.eq_zero_or_pos ys.length with h0 | h0
      · exact List.eq_nil_of_length_eq_zero h0
      · obtain ⟨b, oo, h1, _⟩ := hr h0
        cases h1
    subst hy
    obtain rfl := hnn rfl
    refine wpList_append_own_none hgd s x 33 ho base 23 i0 1 Try.underlying33 hi0 v 0 _ hs h1 hx ?_
    exact h v w ⟨[], h1, fun i h => by simp at h⟩ (Chg.refl _ _) (fun b hb => .inl hb)
  | some ad =>
    have hnews : ∀ (j : Nat) q, cs[j]? = some q → w.cell? (ad.add j) = some q := by
      intro j q hq
      obtain ⟨hj, he⟩ := List.getElem?_eq_some_iff.1 hq
      obtain ⟨b, oo, h1, _, _, hc⟩ := hr (by omega)
      injection h1 with h1
      subst h1
      have := (hc j hj).1
      rw [← he, ← this]
      unfold Addr.add
      by_cases h0 : j = 0 <;> simp [h0]
    refine wpList_append_own2 (P := Try.prog) hgd s x 33 ho base 23 i0 _ 1 24 Try.underlying33 hi0 hz0 hz1 hz2 rfl (by decide) v 0 _ hs h1 ad ys.length c cs hx (by omega) hnews (fun u hu => ?_) (by unfold Go.maxLen; omega) (by omega) hbase (fun v' w' k1 k2 k3 => ?_)
    · obtain ⟨i, hi, rfl⟩ := List.getElem_of_mem hu
      obtain ⟨A', c', e1, -⟩ := hE i (by omega)
      rw [chunk1 hi] at e1
      have e2 : cs[i] = .slice A' ys[i].length c' := by simpa using e1
      rw [e2]
      rfl
    · have hC := Chg.of_grown k2
      exact h v' w' (fin v' w' (by simpa using k1) hC k3) hC k3
end Go.Proofs.Ytplabnjdhkmmkaa
end
section
set_option maxRecDepth 100000
set_option maxHeartbeats 1000000
set_option linter.unusedSimpArgs false
set_option linter.unusedVariables false
namespace Go.Proofs.Ytplabnjdhkmmkaa
open Go.ChangeShapes Go.WideShapes Go.ChangeAt Go.RowKit
theorem l00Same_any (w : World) (S S' : Nat → Prop) (v u : Value) (xs ys : List Int) (h : Ints w S v xs) (h2 : Ints w S' u ys) :
    Calls Try.prog 134 #[v, u] w fun e w' => e = .returned (.bool (sameL xs ys)) ∧ Up w w' := by
  obtain ⟨A, c, rfl, hlc, hcm, -⟩ := h.shape
  obtain ⟨A2, c2, rfl, hlc2, hcm2, -⟩ := h2.shape
  by_cases hl : xs.length = ys.length
  rotate_left
  · have HB := Lib.hid (sameL_len hl)
    have hb : ((xs.length : Int) != ys.length) = true := by simp; omega
    clear hl h h2
    go_enter Try.func134, Try.ntmps134
    go_wp2
    go_ret
    exact ⟨ret_bool HB.out.symm, Chg.refl _ _⟩
  have HL := Lib.hid hl
  have hb : ((xs.length : Int) != ys.length) = false := by simp; omega
  have H := Lib.hid h
  have H2 := Lib.hid h2
  clear h h2 hl
  go_enter Try.func134, Try.ntmps134
  go_wp2
  go_loopw [5] (fun i wr => ∃ (j : Nat), j ≤ xs.length ∧ i = .int .i64 j ∧ Hid (Up w wr) ∧ Hid (AgreeTo xs ys j)) (fun i _ => xs.length - (intOf i).toNat)
  case atStart => exact ⟨0, by omega, rfl, Chg.refl _ _, AgreeTo.start _ _⟩
  case round =>
    obtain ⟨j, hj, rfl, hu, hp⟩ := hrel
    by_cases hlt : j < xs.length
    · have hlt2 : j < ys.length := by have := HL.out; omega
      obtain ⟨b, o, rfl, -, hc⟩ := (H.out.up hu.out).ix hlt
      obtain ⟨b2, o2, rfl, -, hc2⟩ := (H2.out.up hu.out).ix hlt2
      have f0 := hc j hlt
      have e0 := hc2 j hlt2
      rw [ix_eq hlt] at f0
      rw [ix_eq hlt2] at e0
      clear hc hc2
      by_cases he : xs[j] = ys[j]
      · have HE := Lib.hid he
        have hbb : ((xs[j] : Int) != ys[j]) = false := by simp [he]
        clear he
        go_wp2
        go_quiet (fail)
        go_wp2
        go_roundw
        case rel => exact ⟨j + 1, by omega, by go_num, Lib.hid (Chg.trans hu.out (by repeat (first | exact Chg.refl _ _ | apply Chg.drew | apply Chg.drewN | refine Chg.alloc ?_ _))), Lib.hid (AgreeTo.next hp.out hlt hlt2 HE.out)⟩
        case measure => first | (simp [intOf]; done) | (simp [intOf]; omega)
      · have HB := Lib.hid (sameL_at hlt hlt2 he)
        have hbb : ((xs[j] : Int) != ys[j]) = true := by simpa using he
        clear he
        go_wp2
        go_quiet (fail)
        go_wp2
        go_ret
        exact ⟨ret_bool HB.out.symm, Chg.trans hu.out (by repeat (first | exact Chg.refl _ _ | apply Chg.drew | apply Chg.drewN | refine Chg.alloc ?_ _))⟩
    · obtain rfl : j = xs.length := by omega
      have HB := Lib.hid (sameL_all hp.out HL.out)
      go_wp2
      go_ret
      exact ⟨ret_bool HB.out.symm, hu.out⟩
theorem equalInts_any (w : World) (S S' : Nat → Prop) (v u : Value) (xs ys : List Int) (h : Ints w S v xs) (h2 : Ints w S' u ys) :
    Calls Try.prog 129 #[v, u] w fun e w' => e = .returned (.bool (sameL xs ys)) ∧ Up w w' := by
  obtain ⟨A, c, rfl, hlc, hcm, -⟩ := h.shape
  obtain ⟨A2, c2, rfl, hlc2, hcm2, -⟩ := h2.shape
  by_cases hl : xs.length = ys.length
  rotate_left
  · have HB := Lib.hid (sameL_len hl)
    have hb : ((xs.length : Int) != ys.length) = true := by simp; omega
    clear hl h h2
    go_enter Try.func129, Try.ntmps129
    go_wp2
    go_ret
    exact ⟨ret_bool HB.out.symm, Chg.refl _ _⟩
  have HL := Lib.hid hl
  have hb : ((xs.length : Int) != ys.length) = false := by simp; omega
  have H := Lib.hid h
  have H2 := Lib.hid h2
  clear h h2 hl
  go_enter Try.func129, Try.ntmps129
  go_wp2
  go_loopw [5, 13] (fun _ i wr => ∃ (j : Nat), j ≤ xs.length ∧ i = .int .i64 j ∧ Hid (Up w wr) ∧ Hid (AgreeTo xs ys j)) (fun _ i _ => xs.length - (intOf i).toNat)
  case atStart => exact ⟨0, by omega, rfl, Chg.refl _ _, AgreeTo.start _ _⟩
  case round =>
    obtain ⟨j, hj, rfl, hu, hp⟩ := hrel
    by_cases hlt : j < xs.length
    · have hlt2 : j < ys.length := by have := HL.out; omega
      obtain ⟨b, o, rfl, -, hc⟩ := (H.out.up hu.out).ix hlt
      obtain ⟨b2, o2, rfl, -, hc2⟩ := (H2.out.up hu.out).ix hlt2
      have f0 := hc j hlt
      have e0 := hc2 j hlt2
      rw [ix_eq hlt] at f0
      rw [ix_eq hlt2] at e0
      clear hc hc2
      by_cases he : xs[j] = ys[j]
      · have HE := Lib.hid he
        have hbb : ((xs[j] : Int) != ys[j]) = false := by simp [he]
        clear he
        go_wp2
        go_quiet (fail)
        go_wp2
        go_roundw
        case rel => exact ⟨j + 1, by omega, by go_num, Lib.hid (Chg.trans hu.out (by repeat (first | exact Chg.refl _ _ | apply Chg.drew | apply Chg.drewN | refine Chg.alloc ?_ _))), Lib.hid (AgreeTo.next hp.out hlt hlt2 HE.out)⟩
        case measure => first | (simp [intOf]; done) | (simp [intOf]; omega)
      · have HB := Lib.hid (sameL_at hlt hlt2 he)
        have hbb : ((xs[j] : Int) != ys[j]) = true := by simpa using he
        clear he
        go_wp2
        go_quiet (fail)
        go_wp2
        go_ret
        exact ⟨ret_bool HB.out.symm, Chg.trans hu.out (by repeat (first | exact Chg.refl _ _ | apply Chg.drew | apply Chg.drewN | refine Chg.alloc ?_ _))⟩
    · obtain rfl : j = xs.length := by omega
      have HB := Lib.hid (sameL_all hp.out HL.out)
      go_wp2
      go_ret
      exact ⟨ret_bool HB.out.symm, hu.out⟩
end Go.Proofs.Ytplabnjdhkmmkaa
end
section
set_option maxRecDepth 100000
set_option maxHeartbeats 1000000
set_option linter.unusedSimpArgs false
set_option linter.unusedVariables false
set_option maxRecDepth 100000
set_option maxHeartbeats 2000000
namespace Go.Proofs.Ytplabnjdhkmmkaa
open Go.ChangeShapes Go.WideShapes Go.ChangeAt Go.RowKit
/-- 'out = append(out, list...)' -/
theorem wp_app_intsW {w : World} {ops : Array Oper} {rest : List Oper} {o : Oper} {a : Act} {Q : Exit → Act → World → Prop} (hgd : o.guard = none) (s x : Operand)
    (ho : o.op = .call { callee := .builtin .append, args := #[s, x], argTypes := #[23, 23] })
    (base : Nat) (v : Value) (xs : List Int) (hs : a.eval s = v) (hown : OwnI w base v xs)
    (S : Nat → Prop) (u : Value) (ys : List Int) (hx : a.eval x = u) (hsrc : Ints w S u ys) (hlen : xs.length + ys.length ≤ 1099511627776) (hbase : base ≤ w.heap.size)
    (h : ∀ v' w', OwnI w' base v' (xs ++ ys) → Chg (fun b => v.ownBlock = some b) w w' → (∀ b, v'.ownBlock = some b → v.ownBlock = some b ∨ w.heap.size ≤ b) → Chg (fun k => base ≤ k) w w' → wpList Try.prog ops Q rest (a.put o.dst v') w') : wpList Try.prog ops Q (o :: rest) a w := by
  obtain ⟨i0, hi, hz0, hz1, hz2⟩ := info_parts info2
  obtain ⟨A, c, rfl, hlc, hcm, hok, hr, hnn⟩ := hsrc
  have hok' : ∀ y ∈ xs ++ ys, I64 y := fun y hy => (List.mem_append.1 hy).elim (hown.2 y) (hok y)
  cases A with
  | none =>
    have hy : ys = [] := by
      rcases Nat.eq_zero_or_pos ys.length with h0 | h0
      · exact List.eq_nil_of_length_eq_zero h0
      · obtain ⟨b, oo, h1, _⟩ := hr h0
        cases h1
    subst hy
    obtain rfl := hnn rfl
    refine wpList_append_own_none hgd s x 23 ho base 2 i0 1 Try.underlying23 hi v xs.length _ hs hown.1 hx ?_
    exact h v w (by simpa using hown) (Chg.refl _ _) (fun b hb => .inl hb) (Chg.refl _ _)
  | some ad =>
    have hnews : ∀ j q, (ys.map (Value.int .i64))[j]? = some q → w.cell? (ad.add j) = some q := by
      intro j q hq
      obtain ⟨hj, he⟩ := List.getElem?_eq_some_iff.1 hq
      have hj' : j < ys.length := by simpa using hj
      obtain ⟨b, oo, h1, _, _, hc⟩ := hr (by omega)
      injection h1 with h1
      subst h1
      have := (hc j hj').1
      rw [← he, List.getElem_map, ← this]
      unfold Addr.add
      by_cases h0 : j = 0 <;> simp [h0]
    refine wpList_append_own2 (P := Try.prog) hgd s x 23 ho base 2 i0 (.int .i64 0) 1 8 Try.underlying23 hi hz0 hz1 hz2 rfl (by decide) v xs.length _ hs hown.1 ad ys.length c (ys.map (Value.int .i64)) hx (by simp) hnews ?_ ?_ ?_ hbase ?_
    · intro q hq
      obtain ⟨y, _, rfl⟩ := List.mem_map.1 hq
      rfl
    · unfold Go.maxLen; omega
    · omega
    · intro v' w' h2 h3 h4
      exact h v' w' ⟨by simpa using h2, hok'⟩ (Chg.of_grown h3) h4 ((Chg.refl _ _).grown h3 fun k hk => .inl (hown.1.lt k hk).1)
theorem eqlIn_nil {P : Program} (w : World) (d : Nat) (t e : TypeId) (a : Option Addr) (l c : Nat) (h : P.underlying t = some (.slice e)) : (Op.equalIn (d + 1) t (.slice a l c) (.slice none 0 0)).run P w = .ok a.isNone w := by
  cases a <;> simp [Op.equalIn, run_underlying h]
theorem eql_nil {P : Program} (w : World) (t e : TypeId) (a : Option Addr) (l c : Nat) (h : P.underlying t = some (.slice e)) : (binOp .eql t (.slice a l c) (.slice none 0 0)).run P w = .ok (.bool a.isNone) w := by
  have h1 : (Op.equal t (.slice a l c) (.slice none 0 0)).run P w = .ok a.isNone w := eqlIn_nil w 9999 t e a l c h
  simp only [binOp]
  simp [h1]
theorem l00Own_any (w : World) (S : Nat → Prop) (v : Value) (xs : List Int) (h : Ints w S v xs) (hl : xs.length ≤ 100000) :
    Calls Try.prog 27 #[v] w fun e w' => ∃ v', e = .returned v' ∧ Ints w' (New w.heap.size w'.heap.size) v' xs ∧ Up w w' := by
  obtain ⟨A, c, rfl, hlc, hcm, -⟩ := h.shape
  have H := Lib.hid h
  have M0 := Lib.hid (OwnI.made w w.heap.size (Nat.le_refl _))
  have HL := Lib.hid (show ([] : List Int).length + xs.length ≤ 1099511627776 by simp; omega)
  clear h
  go_enter Try.func27, Try.ntmps27
  go_wp2_with (first | (at_builtin; refine wp_app_intsW rfl _ _ rfl w.heap.size _ ([] : List Int) rfl M0.out _ _ xs rfl (H.out.up (by repeat (first | exact Chg.refl _ _ | apply Chg.drew | apply Chg.drewN | refine Chg.alloc ?_ _))) HL.out (by simp) ?_; intro v' w1 ho1 _ _ hg1; have HO := Lib.hid ho1; have HG := Lib.hid (Chg.new ((Chg.refl Nowhere w).alloc _) hg1 (fun i hi => by omega)); clear ho1 hg1))
  go_ret
  exact ⟨_, rfl, by have := HO.out.ints; rw [List.nil_append] at this; exact this, HG.out⟩
end Go.Proofs.Ytplabnjdhkmmkaa
end
