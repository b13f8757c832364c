/- Slices of slices of operations, and the laws' helpers on them. No condition. The parts of a compiled program and its plan under construction: rows of the call's own, apart from each other and from what else is written. No condition. Maps from numbers to numbers that the call made. No condition. -/
import Derived.Test.YtnjfhpgmogopnaaGreatPG3
import Derived.Test.YtnjfhpgmogopnaaGreatPG4
import Derived.Test.YtnjfhpgmogopnaaGreatPG7
import Derived.Test.YtnjfhpgmogopnaaGreatPG5
import Derived.Test.YtnjfhpgmogopnaaGreatPG1
import Derived.Maps.OwnSet
section
set_option linter.unusedSimpArgs false
set_option linter.unusedVariables false
namespace Go.Proofs.YtnjfhpgmogopnaaGreat
open Go.ChangeShapes Go.WideShapes Go.ChangeAt Go.RowKit
/-- a slice of slices of numbers; each of them, and the row of them, in blocks of its own -/
def OpSS (w : World) (S : Nat → Prop) (v : Value) (xss : List (List OpM)) : Prop :=
  ∃ (vs : List Value) (R : Nat → Prop) (Q : Nat → Nat → Prop), Raw w R 1 v xss.length vs ∧ (∀ b, R b → S b) ∧ (∀ i b, Q i b → S b ∧ ¬ R b) ∧ (∀ i j b, Q i b → Q j b → i = j) ∧
    ∀ i (h : i < xss.length), ∃ u, vs[i]? = some u ∧ Ops w (Q i) u xss[i]
section
variable {S T : Nat → Prop} {w w' : World} {v : Value} {xss : List (List OpM)}
theorem OpSS.keep (h : OpSS w S v xss) (g : Chg T w w') (hd : ∀ b, b < w.heap.size → S b → ¬ T b) : OpSS w' S v xss := by
  obtain ⟨vs, R, Q, h1, h2, h3, h4, h5⟩ := h
  exact ⟨vs, R, Q, h1.keep g (fun b hb hr => hd b hb (h2 b hr)), h2, h3, h4, fun i hi => by
    obtain ⟨u, hu, hk⟩ := h5 i hi
    exact ⟨u, hu, hk.keep g (fun b hb hq => hd b hb (h3 i b hq).1)⟩⟩
theorem OpSS.up (h : OpSS w S v xss) (g : Up w w') : OpSS w' S v xss := h.keep g fun _ _ _ h => h
theorem OpSS.mono (h : OpSS w S v xss) (hs : ∀ b, S b → T b) : OpSS w T v xss := by
  obtain ⟨vs, R, Q, h1, h2, h3, h4, h5⟩ := h
  exact ⟨vs, R, Q, h1, fun b hb => hs b (h2 b hb), fun i b hq => ⟨hs b (h3 i b hq).1, (h3 i b hq).2⟩, h4, h5⟩
theorem OpSS.shape (h : OpSS w S v xss) : ∃ A c, v = .slice A xss.length c ∧ xss.length ≤ c ∧ c ≤ 9223372036854775807 ∧ (A = none → c = 0) := by
  obtain ⟨vs, R, Q, h1, _⟩ := h
  exact h1.shape
theorem OpSS.nil (w : World) (S : Nat → Prop) (c : Nat) (A : Option Addr) (hc : c ≤ 9223372036854775807) (hA : A = none → c = 0 := by simp) : OpSS w S (.slice A 0 c) [] :=
  ⟨[], fun _ => False, fun _ _ => False, Raw.nil w _ 1 c A hc hA, fun _ h => h.elim, fun _ _ h => h.elim, fun _ _ _ h => h.elim, fun i h => by simp at h⟩
/-- an element -/
theorem OpSS.at_ (h : OpSS w S v xss) {i : Nat} (hi : i < xss.length) : ∃ b o c A ci, v = .slice (some ⟨b, o, none⟩) xss.length c ∧ S b ∧ b < w.heap.size ∧ w.cell? ⟨b, o + i, none⟩ = some (.slice A xss[i].length ci) ∧ Ops w S (.slice A xss[i].length ci) xss[i] ∧ xss[i].length ≤ ci ∧ ci ≤ 9223372036854775807 := by
  obtain ⟨vs, R, Q, ⟨h0, A, c, rfl, h1, h2, h4, _⟩, hR, hQ, hD, h5⟩ := h
  obtain ⟨b, o, rfl, hs, hb, hc⟩ := h4 (by omega)
  obtain ⟨u, hu, hk⟩ := h5 i hi
  obtain ⟨Ai, ci, rfl, h6, h7, _⟩ := hk.shape
  obtain ⟨hlt, he⟩ := List.getElem?_eq_some_iff.1 hu
  refine ⟨b, o, c, Ai, ci, rfl, hR b hs, hb, ?_, hk.mono (fun b _ hq => (hQ i b hq).1), h6, h7⟩
  rw [← he]
  exact (hc i hlt).1
end
/-- such a row of the call's own -/
def OwnSO (w : World) (base : Nat) (v : Value) (xss : List (List OpM)) : Prop :=
  ∃ (vs : List Value) (Q : Nat → Nat → Prop), w.ownsRow base 41 1 v xss.length vs ∧ (∀ i b, Q i b → base ≤ b ∧ b < w.heap.size ∧ v.ownBlock ≠ some b) ∧ (∀ i j b, Q i b → Q j b → i = j) ∧
    ∀ i (h : i < xss.length), ∃ u, vs[i]? = some u ∧ Ops w (Q i) u xss[i]
theorem OwnSO.made (w : World) (base : Nat) (hb : base ≤ w.heap.size) : OwnSO (w.alloc (.cells #[] 41)) base (.slice (some ⟨w.heap.size, 0, none⟩) 0 0) [] :=
  ⟨[], fun _ _ => False, World.ownsRow_made w _ 0 hb (by unfold Go.maxLen; omega) (by simp), fun _ _ h => h.elim, fun _ _ _ h => h.elim, fun i h => by simp at h⟩
theorem OwnSO.up {w w' : World} {base : Nat} {v : Value} {xss : List (List OpM)} (h : OwnSO w base v xss) (g : Up w w') : OwnSO w' base v xss := by
  obtain ⟨vs, Q, h1, h2, h3, h4⟩ := h
  refine ⟨vs, Q, ownsRow_kept h1 g (fun _ _ h => h), fun i b hq => ?_, h3, fun i hi => ?_⟩
  · obtain ⟨a1, a2, a3⟩ := h2 i b hq
    exact ⟨a1, Nat.lt_of_lt_of_le a2 g.size, a3⟩
  · obtain ⟨u, hu, hk⟩ := h4 i hi
    exact ⟨u, hu, hk.up g⟩
theorem OwnSO.ss {w : World} {base : Nat} {v : Value} {xss : List (List OpM)} (h : OwnSO w base v xss) : OpSS w (New base w.heap.size) v xss := by
  obtain ⟨vs, Q, h1, h2, h3, h4⟩ := h
  have hr := Raw.of_own h1
  obtain ⟨h0, A, c, rfl, a1, a2, a4, a5⟩ := hr
  refine ⟨vs, fun b => Value.ownBlock (.slice A xss.length c) = some b ∧ New base w.heap.size b, Q, ⟨h0, A, c, rfl, a1, a2, fun hp => ?_, a5⟩, fun b hb => hb.2, fun i b hq => ?_, h3, h4⟩
  · obtain ⟨b, o, rfl, hs, hb, hc⟩ := a4 hp
    exact ⟨b, o, rfl, ⟨rfl, hs⟩, hb, hc⟩
  · obtain ⟨q1, q2, q3⟩ := h2 i b hq
    exact ⟨⟨q1, q2⟩, fun hh => q3 hh.1⟩
theorem infoSO : (Tryz.prog.info? 41).map (fun i => (i.zero, i.size, i.bytes)) = some (some (.slice none 0 0), 1, 24) := by kernel_rfl
set_option maxRecDepth 100000 in
/-- 'out = append(out, list)', where the list was made behind the row -/
theorem wp_append_so {w : World} {ops : Array Oper} {rest : List Oper} {o : Oper} {a : Act} {Q : Exit → Act → World → Prop} (hgd : o.guard = none) (s x : Operand)
    (ho : o.op = .call { callee := .builtin .append, args := #[s, x], argTypes := #[46, 46] })
    (base : Nat) (wr : World) (v : Value) (xss : List (List OpM)) (hs : a.eval s = v) (hown : OwnSO wr base v xss) (hup : Up wr w)
    (g : Nat) (u : Value) (ys : List OpM) (hx : a.eval x = .slice (some ⟨g, 0, none⟩) 1 1) (hc : w.cell? ⟨g, 0, none⟩ = some u) (hu : Ops w (New wr.heap.size w.heap.size) u ys) (hlen : xss.length ≤ 1099511627) (hbase : base ≤ wr.heap.size)
    (h : ∀ v' w', OwnSO w' base v' (xss ++ [ys]) → Chg (fun k => base ≤ k ∧ k < wr.heap.size) w w' → wpList Tryz.prog ops Q rest (a.put o.dst v') w') : wpList Tryz.prog ops Q (o :: rest) a w := by
  obtain ⟨i0, hi, hz0, hz1, hz2⟩ := info_parts infoSO
  obtain ⟨A, c, rfl, -⟩ := hu.shape
  obtain ⟨vs, q, h1, h2, h3, h4⟩ := hown
  have hsz := hup.size
  have h1' := ownsRow_kept h1 hup (fun _ _ h => h)
  refine wpList_append_own2 (P := Tryz.prog) hgd s x 46 ho base 41 i0 (.slice none 0 0) 1 24 Tryz.underlying46 hi hz0 hz1 hz2 rfl (by decide) v xss.length _ hs h1' ⟨g, 0, none⟩ 1 1 [.slice A ys.length c] hx rfl ?_ ?_ ?_ ?_ (by omega) ?_
  · intro j r hr
    cases j with
    | zero => simp only [List.getElem?_cons_zero, Option.some.injEq] at hr; subst hr; rw [add_zero]; exact hc
    | succ j => simp at hr
  · intro r hr; simp at hr; subst hr; rfl
  · unfold Go.maxLen; omega
  · omega
  · intro v' w' k1 k2 k3
    have hlt := h1.lt
    have hown2 : ∀ b, v.ownBlock = some b → b < wr.heap.size := fun b hb => (hlt b hb).2
    have hvl : vs.length = xss.length := by have := h1.1; omega
    refine h v' w' ⟨vs ++ [.slice A ys.length c], fun i b => (i < xss.length ∧ q i b) ∨ (i = xss.length ∧ New wr.heap.size w.heap.size b), by simpa using k1, ?_, ?_, ?_⟩ ((Chg.refl _ _).grown k2 fun k hk => .inl (hlt k hk))
    · rintro i b (⟨hi', hq⟩ | ⟨rfl, hq⟩)
      · obtain ⟨a1, a2, a3⟩ := h2 i b hq
        refine ⟨a1, by have := k2.size; omega, fun hh => ?_⟩
        rcases k3 b hh with k4 | k4
        · exact a3 k4
        · omega
      · refine ⟨by have := hq.1; omega, by have := k2.size; have := hq.2; omega, fun hh => ?_⟩
        rcases k3 b hh with k4 | k4
        · have := hown2 b k4; have := hq.1; omega
        · have := hq.2; omega
    · rintro i j b (⟨hi', hq⟩ | ⟨rfl, hq⟩) (⟨hj', hq'⟩ | ⟨rfl, hq'⟩)
      · exact h3 i j b hq hq'
      · have := (h2 i b hq).2.1; have := hq'.1; omega
      · have := (h2 j b hq').2.1; have := hq.1; omega
      · rfl
    · intro i hi'
      have hC := Chg.of_grown k2
      by_cases he : i < xss.length
      · obtain ⟨r, hr, hk⟩ := h4 i he
        refine ⟨r, by rw [List.getElem?_append_left (by omega)]; exact hr, ?_⟩
        rw [List.getElem_append_left he]
        exact ((hk.up hup).keep hC (fun b _ hq hb => (h2 i b hq).2.2 hb)).mono (fun b _ hq => .inl ⟨he, hq⟩)
      · have hi2 : i = xss.length := by simp at hi'; omega
        subst hi2
        refine ⟨.slice A ys.length c, by rw [List.getElem?_append_right (by omega), hvl]; simp, ?_⟩
        rw [List.getElem_append_right (by omega)]
        simp only [Nat.sub_self, List.getElem_cons_zero]
        exact (hu.keep hC (fun b _ hq hb => by have := hown2 b hb; have := hq.1; omega)).mono (fun b _ hq => .inr ⟨by first | rfl | trivial, hq⟩)
set_option maxRecDepth 100000 in
theorem eqOpSS (w : World) (S T : Nat → Prop) (v u : Value) (xss : List (List OpM)) (h : OpSS w S v xss) (h2 : OpSS w T u xss) :
    Calls Tryz.prog 25 #[v, u] w fun e w' => e = .returned (.bool true) ∧ Up w w' := by
  obtain ⟨A, c, rfl, hlc, hcm, -⟩ := h.shape
  obtain ⟨A2, c2, rfl, hlc2, hcm2, -⟩ := h2.shape
  have hz : ((xss.length : Int) != xss.length) = false := by simp
  have H := Lib.hid h
  have H2 := Lib.hid h2
  clear h h2
  go_enter Tryz.func25, Tryz.ntmps25
  go_wp2
  go_loopw [5] (fun i wr => ∃ j : Nat, j ≤ xss.length ∧ i = .int .i64 j ∧ Hid (Up w wr)) (fun i _ => xss.length - (intOf i).toNat)
  case atStart => exact ⟨0, by omega, rfl, Chg.refl _ _⟩
  case round =>
    obtain ⟨j, hj, rfl, hd⟩ := hrel
    by_cases hlt : j < xss.length
    · obtain ⟨b, o, c', B, ci, he, -, -, f0, k0, h1, h2⟩ := (H.out.up hd.out).at_ hlt
      obtain ⟨b2, o2, c2', B2, ci2, he2, -, -, f1, k1, h3, h4⟩ := (H2.out.up hd.out).at_ hlt
      obtain ⟨rfl, rfl⟩ : A = some ⟨b, o, none⟩ ∧ c = c' := by simpa using he
      obtain ⟨rfl, rfl⟩ : A2 = some ⟨b2, o2, none⟩ ∧ c2 = c2' := by simpa using he2
      have K0 := Lib.hid k0
      have K1 := Lib.hid k1
      clear he he2 k0 k1
      go_wp2
      have q0 := up_cell f0
      have q1 := up_cell f1
      clear f0 f1
      refine wp_region_up (by kernel_rfl) (by kernel_rfl) ?_
      repeat (go_big_quiet_step (first | (go_at_call 20; with_reducible exact calls_up (eqOps _ _ _ _ _ _ (K0.out.up (UpOf.up _)) (K1.out.up (UpOf.up _))))))
      refine wpQuiet_nil ?_
      rintro _ ⟨u, rfl⟩
      go_wp2
      go_roundw
      case rel => exact ⟨j + 1, by omega, by go_num, Lib.hid (Chg.trans hd.out u.up)⟩
      case measure => simp [intOf]; omega
    · obtain rfl : j = xss.length := by omega
      go_wp2
      go_ret
      exact ⟨rfl, hd.out⟩
def cntOpSS (xss : List (List OpM)) : Nat := (xss.map cntOps).sum
def cntToO (xss : List (List OpM)) (j : Nat) : Nat := ((xss.take j).map cntOps).sum
theorem cntToO_succ {xss : List (List OpM)} {j : Nat} (h : j < xss.length) : cntToO xss (j + 1) = cntToO xss j + cntOps xss[j] := by
  unfold cntToO
  rw [List.take_succ_eq_append_getElem h, List.map_append, List.sum_append]
  simp
theorem cntToO_le (xss : List (List OpM)) (j : Nat) : cntToO xss j ≤ cntOpSS xss := by
  unfold cntToO cntOpSS
  conv => rhs; rw [← List.take_append_drop j xss]
  rw [List.map_append, List.sum_append]
  omega
theorem cntToO_all (xss : List (List OpM)) : cntToO xss xss.length = cntOpSS xss := by simp [cntToO, cntOpSS]
/-- in the middle of marking: the row reads as before; the first lists bear their marks -/
def MarkSO (w : World) (S : Nat → Prop) (v : Value) (xss : List (List OpM)) (k : Int) (j : Nat) : Prop :=
  ∃ (vs : List Value) (R : Nat → Prop) (Q : Nat → Nat → Prop), Raw w R 1 v xss.length vs ∧ (∀ b, R b → S b) ∧ (∀ i b, Q i b → S b ∧ ¬ R b) ∧ (∀ i j b, Q i b → Q j b → i = j) ∧
    ∀ i (h : i < xss.length), ∃ u, vs[i]? = some u ∧ (if i < j then MOps w (Q i) u xss[i] (k + cntToO xss i) else Ops w (Q i) u xss[i])
def MOpSS (w : World) (S : Nat → Prop) (v : Value) (xss : List (List OpM)) (k : Int) : Prop := MarkSO w S v xss k xss.length
theorem MarkSO.keep {S T : Nat → Prop} {w w' : World} {v : Value} {xss : List (List OpM)} {k : Int} {j : Nat} (h : MarkSO w S v xss k j) (g : Chg T w w') (hd : ∀ b, b < w.heap.size → S b → ¬ T b) : MarkSO w' S v xss k j := by
  obtain ⟨vs, R, Q, h1, h2, h3, h4, h5⟩ := h
  exact ⟨vs, R, Q, h1.keep g (fun b hb hr => hd b hb (h2 b hr)), h2, h3, h4, fun i hi => by
    obtain ⟨u, hu, hk⟩ := h5 i hi
    refine ⟨u, hu, ?_⟩
    by_cases e : i < j
    · rw [if_pos e] at hk ⊢
      exact MOps.keep hk g (fun b hb hq => hd b hb (h3 i b hq).1)
    · rw [if_neg e] at hk ⊢
      exact hk.keep g (fun b hb hq => hd b hb (h3 i b hq).1)⟩
theorem MOpSS.keep {S T : Nat → Prop} {w w' : World} {v : Value} {xss : List (List OpM)} {k : Int} (h : MOpSS w S v xss k) (g : Chg T w w') (hd : ∀ b, b < w.heap.size → S b → ¬ T b) : MOpSS w' S v xss k := MarkSO.keep h g hd
theorem MOpSS.up {S : Nat → Prop} {w w' : World} {v : Value} {xss : List (List OpM)} {k : Int} (h : MOpSS w S v xss k) (g : Up w w') : MOpSS w' S v xss k := MarkSO.keep h g fun _ _ _ h => h
theorem MarkSO.shape {S : Nat → Prop} {w : World} {v : Value} {xss : List (List OpM)} {k : Int} {j : Nat} (h : MarkSO w S v xss k j) : ∃ A c, v = .slice A xss.length c ∧ xss.length ≤ c ∧ c ≤ 9223372036854775807 ∧ (A = none → c = 0) := by
  obtain ⟨vs, R, Q, h1, _⟩ := h
  exact h1.shape
theorem MarkSO.start {S : Nat → Prop} {w : World} {v : Value} {xss : List (List OpM)} {k : Int} (h : OpSS w S v xss) : MarkSO w S v xss k 0 := by
  obtain ⟨vs, R, Q, h1, h2, h3, h4, h5⟩ := h
  exact ⟨vs, R, Q, h1, h2, h3, h4, fun i hi => by
    obtain ⟨u, hu, hk⟩ := h5 i hi
    exact ⟨u, hu, by rw [if_neg (by omega)]; exact hk⟩⟩
/-- an element, and what is known when it has been marked -/
theorem MarkSO.at_ {S : Nat → Prop} {w : World} {v : Value} {xss : List (List OpM)} {k : Int} {j : Nat} (h : MarkSO w S v xss k j) (hj : j < xss.length) : ∃ b o c A ci, ∃ Qj : Nat → Prop, v = .slice (some ⟨b, o, none⟩) xss.length c ∧ b < w.heap.size ∧ w.cell? ⟨b, o + j, none⟩ = some (.slice A xss[j].length ci) ∧ Ops w Qj (.slice A xss[j].length ci) xss[j] ∧ xss[j].length ≤ ci ∧ ci ≤ 9223372036854775807 ∧ (∀ x, Qj x → S x) ∧
    ∀ w', Chg Qj w w' → MOps w' Qj (.slice A xss[j].length ci) xss[j] (k + cntToO xss j) → MarkSO w' S v xss k (j + 1) := by
  obtain ⟨vs, R, Q, h1, hR, hQ, hD, h5⟩ := h
  obtain ⟨h0, A, c, rfl, h2, h3, h4, _⟩ := h1
  obtain ⟨b, o, rfl, hs, hb, hc⟩ := h4 (by omega)
  obtain ⟨u, hu, hk⟩ := h5 j hj
  rw [if_neg (by omega)] at hk
  obtain ⟨Ai, ci, rfl, h6, h7, _⟩ := hk.shape
  obtain ⟨hlt, he⟩ := List.getElem?_eq_some_iff.1 hu
  refine ⟨b, o, c, Ai, ci, Q j, rfl, hb, ?_, hk, h6, h7, fun x hx => (hQ j x hx).1, fun w' g hm => ?_⟩
  · rw [← he]
    exact (hc j hlt).1
  · refine ⟨vs, R, Q, ⟨h0, _, c, rfl, h2, h3, fun hp => ?_, by simp⟩, hR, hQ, hD, fun i hi => ?_⟩
    · refine ⟨b, o, rfl, hs, Nat.lt_of_lt_of_le hb g.size, fun t ht => ?_⟩
      have hn : ¬ Q j b := fun hq => (hQ j b hq).2 hs
      exact ⟨g.cell (hc t ht).1 hn, (g.frozen (hc t ht).1 hn).trans (hc t ht).2⟩
    · by_cases e : i = j
      · subst e
        refine ⟨_, hu, ?_⟩
        rw [if_pos (by omega)]
        exact hm
      · obtain ⟨ui, hui, hki⟩ := h5 i hi
        refine ⟨ui, hui, ?_⟩
        by_cases e2 : i < j
        · rw [if_pos e2] at hki
          rw [if_pos (by omega)]
          exact MOps.keep hki g (fun x _ h1 h2 => e (hD i j x h1 h2))
        · rw [if_neg e2] at hki
          rw [if_neg (by omega)]
          exact hki.keep g (fun x _ h1 h2 => e (hD i j x h1 h2))
theorem MOpSS.at_ {S : Nat → Prop} {w : World} {v : Value} {xss : List (List OpM)} {k : Int} (h : MOpSS w S v xss k) {j : Nat} (hj : j < xss.length) : ∃ b o c A ci, ∃ Qj : Nat → Prop, v = .slice (some ⟨b, o, none⟩) xss.length c ∧ w.cell? ⟨b, o + j, none⟩ = some (.slice A xss[j].length ci) ∧ MOps w Qj (.slice A xss[j].length ci) xss[j] (k + cntToO xss j) ∧ xss[j].length ≤ ci ∧ ci ≤ 9223372036854775807 := by
  obtain ⟨vs, R, Q, h1, hR, hQ, hD, h5⟩ := h
  obtain ⟨h0, A, c, rfl, h2, h3, h4, _⟩ := h1
  obtain ⟨b, o, rfl, hs, hb, hc⟩ := h4 (by omega)
  obtain ⟨u, hu, hk⟩ := h5 j hj
  rw [if_pos hj] at hk
  obtain ⟨Ai, ci, rfl, h6, h7, _⟩ := Raw.shape hk
  obtain ⟨hlt, he⟩ := List.getElem?_eq_some_iff.1 hu
  refine ⟨b, o, c, Ai, ci, Q j, rfl, ?_, hk, h6, h7⟩
  rw [← he]
  exact (hc j hlt).1
set_option maxHeartbeats 2000000 in
theorem markOpSS (w : World) (S : Nat → Prop) (v : Value) (xss : List (List OpM)) (k : Int) (hk : 0 ≤ k) (hb : k + cntOpSS xss ≤ 4611686018427387904) (h : OpSS w S v xss) :
    Calls Tryz.prog 26 #[v, .int .i64 k] w fun e w' => e = .returned (.int .i64 (k + cntOpSS xss)) ∧ Chg S w w' ∧ MOpSS w' S v xss k := by
  obtain ⟨A, c, rfl, hlc, hcm, -⟩ := h.shape
  have H := Lib.hid (MarkSO.start (k := k) h)
  have HA := Lib.hid (cntToO_all xss)
  clear h
  go_enter Tryz.func26, Tryz.ntmps26
  go_wp2
  go_loopw [1, 5] (fun q i wr => ∃ j : Nat, j ≤ xss.length ∧ i = .int .i64 j ∧ q = .int .i64 (k + cntToO xss j) ∧ Hid (Chg S w wr) ∧ Hid (MarkSO wr S (.slice A xss.length c) xss k j)) (fun _ i _ => xss.length - (intOf i).toNat)
  case atStart => exact ⟨0, by omega, rfl, by simp [cntToO], Chg.refl _ _, H.out⟩
  clear H
  case round =>
    obtain ⟨j, hj, rfl, rfl, hg, hm⟩ := hrel
    by_cases hlt : j < xss.length
    · obtain ⟨b, o, c', B, ci, Qj, he, hbz, f0, k0, h1, h2, h3, h4⟩ := hm.out.at_ hlt
      obtain ⟨rfl, rfl⟩ : A = some ⟨b, o, none⟩ ∧ c = c' := by simpa using he
      have K0 := Lib.hid k0
      have HS := Lib.hid h3
      have HN := Lib.hid h4
      have hle1 := cntToO_le xss (j + 1)
      have HC := Lib.hid (cntToO_succ hlt)
      have hle2 : cntToO xss j + cntOps xss[j] ≤ cntOpSS xss := by rw [← HC.out]; exact hle1
      have hk2 : (0 : Int) ≤ k + cntToO xss j := by omega
      clear he k0 h3 h4 hm hle1
      go_wp2_with fail
      refine (markOps _ Qj _ xss[j] (k + cntToO xss j) hk2 (by omega) K0.out).mono ?_
      rintro e w1 ⟨rfl, g1, k1⟩
      have HX := Lib.hid (HN.out _ g1 k1)
      have HG := Lib.hid (Chg.trans hg.out (g1.mono (fun x _ hx => HS.out x hx)))
      clear g1 k1 f0
      go_wp2
      go_roundw
      case rel => exact ⟨j + 1, by omega, by go_num, by rw [HC.out]; simp only [Value.int.injEq, true_and]; omega, HG.out, HX.out⟩
      case measure => simp [intOf]; omega
    · obtain rfl : j = xss.length := by omega
      go_wp2
      go_ret
      exact ⟨ret_int (by rw [HA.out]), hg.out, hm.out⟩
set_option maxHeartbeats 2000000 in
theorem heldOpSS (w : World) (S : Nat → Prop) (v : Value) (xss : List (List OpM)) (k : Int) (hk : 0 ≤ k) (hb : k + cntOpSS xss ≤ 4611686018427387904) (h : MOpSS w S v xss k) :
    Calls Tryz.prog 27 #[v, .int .i64 k] w fun e w' => e = .returned (.int .i64 (k + cntOpSS xss)) ∧ Up w w' := by
  obtain ⟨A, c, rfl, hlc, hcm, -⟩ := MarkSO.shape h
  have H := Lib.hid h
  have HA := Lib.hid (cntToO_all xss)
  clear h
  go_enter Tryz.func27, Tryz.ntmps27
  go_wp2
  go_loopw [1, 5] (fun q i wr => ∃ j : Nat, j ≤ xss.length ∧ i = .int .i64 j ∧ q = .int .i64 (k + cntToO xss j) ∧ Hid (Up w wr)) (fun _ i _ => xss.length - (intOf i).toNat)
  case atStart => exact ⟨0, by omega, rfl, by simp [cntToO], Chg.refl _ _⟩
  case round =>
    obtain ⟨j, hj, rfl, rfl, hg⟩ := hrel
    by_cases hlt : j < xss.length
    · obtain ⟨b, o, c', B, ci, Qj, he, f0, k0, h1, h2⟩ := (H.out.up hg.out).at_ hlt
      obtain ⟨rfl, rfl⟩ : A = some ⟨b, o, none⟩ ∧ c = c' := by simpa using he
      have K0 := Lib.hid k0
      have hle1 := cntToO_le xss (j + 1)
      have HC := Lib.hid (cntToO_succ hlt)
      have hle2 : cntToO xss j + cntOps xss[j] ≤ cntOpSS xss := by rw [← HC.out]; exact hle1
      have hk2 : (0 : Int) ≤ k + cntToO xss j := by omega
      have hneg : decide (k + (cntToO xss j : Int) + (cntOps xss[j] : Int) < 0) = false := decide_eq_false (by omega)
      clear he k0 hle1
      go_wp2_with fail
      refine (heldOps _ Qj _ xss[j] (k + cntToO xss j) hk2 (by omega) K0.out).mono ?_
      rintro e w1 ⟨rfl, g1⟩
      have HG := Lib.hid (Chg.trans hg.out g1)
      clear g1 f0
      go_wp2
      go_roundw
      case rel => exact ⟨j + 1, by omega, by go_num, by rw [HC.out]; simp only [Value.int.injEq, true_and]; omega, HG.out⟩
      case measure => simp [intOf]; omega
    · obtain rfl : j = xss.length := by omega
      go_wp2
      go_ret
      exact ⟨ret_int (by rw [HA.out]), hg.out⟩
end Go.Proofs.YtnjfhpgmogopnaaGreat
end
namespace Go.Proofs.YtnjfhpgmogopnaaGreat
open Go.ChangeShapes Go.WideShapes Go.ChangeAt Go.RowKit
/-- v1 is a row of lists of operations, v2 a row of numbers, both the call's own, apart, and off the blocks of X -/
def Cmp (w : World) (base : Nat) (X : Nat → Prop) (v1 v2 : Value) (xss : List (List OpM)) (ys : List Int) : Prop :=
  ∃ (vs : List Value) (Q : Nat → Nat → Prop), w.ownsRow base 41 1 v1 xss.length vs ∧ (∀ i b, Q i b → base ≤ b ∧ b < w.heap.size ∧ v1.ownBlock ≠ some b ∧ v2.ownBlock ≠ some b ∧ ¬ X b) ∧ (∀ i j b, Q i b → Q j b → i = j) ∧
    (∀ i (h : i < xss.length), ∃ u, vs[i]? = some u ∧ Ops w (Q i) u xss[i]) ∧ OwnI w base v2 ys ∧ (∀ b, v1.ownBlock = some b → v2.ownBlock ≠ some b ∧ ¬ X b) ∧ (∀ b, v2.ownBlock = some b → ¬ X b)
section
variable {w w' : World} {base : Nat} {X T : Nat → Prop} {v1 v2 : Value} {xss : List (List OpM)} {ys : List Int}
theorem Cmp.keep (h : Cmp w base X v1 v2 xss ys) (g : Chg T w w') (hT : ∀ b, b < w.heap.size → T b → X b) : Cmp w' base X v1 v2 xss ys := by
  obtain ⟨vs, Q, h1, h2, h3, h4, h5, h6, h7⟩ := h
  have l1 := h1.lt
  refine ⟨vs, Q, ownsRow_kept h1 g (fun b hb ht => (h6 b hb).2 (hT b (l1 b hb).2 ht)), fun i b hq => ?_, h3, fun i hi => ?_, h5.kept g (fun b hb ht => h7 b hb (hT b (h5.lt hb).2 ht)), h6, h7⟩
  · obtain ⟨a1, a2, a3⟩ := h2 i b hq
    exact ⟨a1, Nat.lt_of_lt_of_le a2 g.size, a3⟩
  · obtain ⟨u, hu, hk⟩ := h4 i hi
    exact ⟨u, hu, hk.keep g (fun b hb hq ht => (h2 i b hq).2.2.2.2 (hT b hb ht))⟩
theorem Cmp.up (h : Cmp w base X v1 v2 xss ys) (g : Up w w') : Cmp w' base X v1 v2 xss ys := h.keep g fun _ _ h => h.elim
theorem Cmp.less {X' : Nat → Prop} (h : Cmp w base X v1 v2 xss ys) (hX : ∀ b, b < w.heap.size → X' b → X b) : Cmp w base X' v1 v2 xss ys := by
  obtain ⟨vs, Q, h1, h2, h3, h4, h5, h6, h7⟩ := h
  exact ⟨vs, Q, h1, fun i b hq => ⟨(h2 i b hq).1, (h2 i b hq).2.1, (h2 i b hq).2.2.1, (h2 i b hq).2.2.2.1, fun hx => (h2 i b hq).2.2.2.2 (hX b (h2 i b hq).2.1 hx)⟩, h3, h4, h5, fun b hb => ⟨(h6 b hb).1, fun hx => (h6 b hb).2 (hX b (h1.lt b hb).2 hx)⟩, fun b hb hx => h7 b hb (hX b (h5.lt hb).2 hx)⟩
/-- new blocks are off it -/
theorem Cmp.more (h : Cmp w base X v1 v2 xss ys) : Cmp w base (fun b => X b ∨ w.heap.size ≤ b) v1 v2 xss ys :=
  h.less fun b hb hx => hx.elim id fun h => by omega
/-- the plan has grown -/
theorem Cmp.planned {v2' : Value} {ys' : List Int} (h : Cmp w base X v1 v2 xss ys) (ho : OwnI w' base v2' ys') (g : Chg (fun b => v2.ownBlock = some b) w w') (hb : ∀ b, v2'.ownBlock = some b → v2.ownBlock = some b ∨ w.heap.size ≤ b) :
    Cmp w' base (fun b => X b ∧ b < w.heap.size) v1 v2' xss ys' := by
  obtain ⟨vs, Q, h1, h2, h3, h4, h5, h6, h7⟩ := h
  have l1 := h1.lt
  refine ⟨vs, Q, ownsRow_kept h1 g (fun b hb ht => (h6 b hb).1 ht), fun i b hq => ?_, h3, fun i hi => ?_, ho, fun b hb1 => ⟨fun h9 => ?_, fun hx => (h6 b hb1).2 hx.1⟩, fun b h9 hx => ?_⟩
  · obtain ⟨a1, a2, a3, a4, a5⟩ := h2 i b hq
    refine ⟨a1, Nat.lt_of_lt_of_le a2 g.size, a3, fun h9 => ?_, fun hx => a5 hx.1⟩
    rcases hb b h9 with h8 | h8
    · exact a4 h8
    · omega
  · obtain ⟨u, hu, hk⟩ := h4 i hi
    exact ⟨u, hu, hk.keep g (fun b _ hq ht => (h2 i b hq).2.2.2.1 ht)⟩
  · rcases hb b h9 with h8 | h8
    · exact (h6 b hb1).1 h8
    · have := (l1 b hb1).2; omega
  · rcases hb b h9 with h8 | h8
    · exact h7 b h8 hx.1
    · have := hx.2; omega
theorem Cmp.own2 (h : Cmp w base X v1 v2 xss ys) : OwnI w base v2 ys := let ⟨_, _, _, _, _, _, h5, _⟩ := h; h5
theorem Cmp.own1 (h : Cmp w base X v1 v2 xss ys) : OwnSO w base v1 xss := let ⟨vs, Q, h1, h2, h3, h4, _⟩ := h; ⟨vs, Q, h1, fun i b hq => ⟨(h2 i b hq).1, (h2 i b hq).2.1, (h2 i b hq).2.2.1⟩, h3, h4⟩
theorem Cmp.off2 (h : Cmp w base X v1 v2 xss ys) : ∀ b, v2.ownBlock = some b → ¬ X b := let ⟨_, _, _, _, _, _, _, _, h7⟩ := h; h7
theorem Cmp.off1 (h : Cmp w base X v1 v2 xss ys) : ∀ b, v1.ownBlock = some b → ¬ X b := let ⟨_, _, _, _, _, _, _, h6, _⟩ := h; fun b hb => (h6 b hb).2
theorem Cmp.lt1 (h : Cmp w base X v1 v2 xss ys) {b : Nat} (hb : v1.ownBlock = some b) : base ≤ b := let ⟨_, _, h1, _⟩ := h; (h1.lt b hb).1
/-- a first list -/
theorem Cmp.start {u : Value} {xs : List OpM} {Q : Nat → Prop} (hb : base ≤ w.heap.size) (hu : Ops w Q u xs) (hQ : ∀ b, b < w.heap.size → Q b → base ≤ b) (X : Nat → Prop) (hX : ∀ b, X b → b < w.heap.size ∧ ¬ Q b) :
    Cmp ((w.alloc (.cells #[u] 41)).alloc (.cells #[] 2)) base X (.slice (some ⟨w.heap.size, 0, none⟩) 1 1) (.slice (some ⟨w.heap.size + 1, 0, none⟩) 0 0) [xs] [] := by
  have g := ((Chg.refl Nowhere w).alloc (.cells #[u] 41)).alloc (.cells #[] 2)
  have ho := OwnI.made (w.alloc (.cells #[u] 41)) base (by simp; omega)
  rw [World.size_alloc w] at ho
  refine ⟨[u], fun i b => i = 0 ∧ Q b ∧ b < w.heap.size, ?_, ?_, ?_, ?_, ho, ?_, ?_⟩
  · refine ⟨rfl, .inr ⟨w.heap.size, 1, #[u], rfl, hb, ?_, Nat.le_refl _, by unfold Go.maxLen; omega, rfl, rfl⟩⟩
    rw [RowKit.Below.heap_alloc _ _ _ (by simp)]
    exact heap_alloc_new _ _
  · rintro i b ⟨rfl, hq, hlt⟩
    refine ⟨hQ b hlt hq, Nat.lt_of_lt_of_le hlt g.size, fun h => ?_, fun h => ?_, fun hx => (hX b hx).2 hq⟩
    · have h2 : some w.heap.size = some b := h
      injection h2 with h3; omega
    · have h2 : some (w.heap.size + 1) = some b := h
      injection h2 with h3; omega
  · rintro i j b ⟨rfl, _⟩ ⟨rfl, _⟩; rfl
  · intro i hi
    obtain rfl : i = 0 := by simp at hi; omega
    exact ⟨u, rfl, ((hu.mono (T := fun b => Q b ∧ b < w.heap.size) (fun b hb hq => ⟨hq, hb⟩)).up g).mono fun b _ hq => ⟨rfl, hq.1, hq.2⟩⟩
  · intro b h
    have h2 : some w.heap.size = some b := h
    injection h2 with h3
    subst h3
    refine ⟨fun h => ?_, fun hx => by have := (hX _ hx).1; omega⟩
    have h4 : some (w.heap.size + 1) = some w.heap.size := h
    injection h4 with h5; omega
  · intro b h hx
    have h2 : some (w.heap.size + 1) = some b := h
    injection h2 with h3
    have := (hX b hx).1
    omega
end
theorem wp_append_op2 {w : World} {ops : Array Oper} {rest : List Oper} {o : Oper} {a : Act} {Q : Exit → Act → World → Prop} (hgd : o.guard = none) (s x : Operand)
    (ho : o.op = .call { callee := .builtin .append, args := #[s, x], argTypes := #[41, 41] })
    (base : Nat) (v : Value) (xs : List OpM) (hs : a.eval s = v) (hown : OwnO w base v xs)
    (g : Nat) (y : OpM) (hx : a.eval x = .slice (some ⟨g, 0, none⟩) 1 1) (hh : w.heap[g]? = some (.cells y.cells.toArray 66 (0, 0))) (hy : y.ok) (hlen : xs.length ≤ 1099511627775) (hbase : base ≤ w.heap.size)
    (h : ∀ v' w', OwnO w' base v' (xs ++ [y]) → Chg (fun b => v.ownBlock = some b) w w' → (∀ b, v'.ownBlock = some b → v.ownBlock = some b ∨ w.heap.size ≤ b) → Chg (fun k => base ≤ k) w w' → wpList Tryz.prog ops Q rest (a.put o.dst v') w') : wpList Tryz.prog ops Q (o :: rest) a w :=
  wp_append_ops2 hgd s x ho base v xs hs hown (fun _ => True) _ [y] hx ⟨Raw.of_block hh (by simp) trivial rfl (by simp) (by omega), by simpa using hy⟩ (by simp; omega) hbase h
theorem offS {V P : Value} {lo hi wb wbA w9s mb base : Nat} (h1 : ∀ b, V.ownBlock = some b → P.ownBlock = some b ∨ w9s ≤ b) (h2 : ∀ b, P.ownBlock = some b → lo ≤ b ∧ b < wb) (h3 : base ≤ lo) (h4 : wb ≤ wbA) (sz : Nat) :
    ∀ b, b < sz → (V.ownBlock = some b ∧ lo ≤ b ∧ b < hi) → base ≤ b ∧ (((b = mb ∨ lo ≤ b) ∧ b < wbA) ∨ w9s ≤ b) := fun b _ h9 =>
  ⟨by have := h9.2.1; omega, (h1 b h9.1).elim (fun h8 => .inl ⟨.inr h9.2.1, by have := (h2 b h8).2; omega⟩) .inr⟩
theorem offY {V : Value} {lo hi wbA w9s mb sz : Nat} (h1 : mb < lo) (h2 : mb < wbA) (h3 : mb < sz) :
    ∀ b, b = mb → (((b = mb ∨ lo ≤ b) ∧ b < wbA) ∨ w9s ≤ b) ∧ ¬ (V.ownBlock = some b ∧ lo ≤ b ∧ b < hi) ∧ b < sz := fun b h => by
  subst h
  exact ⟨.inl ⟨.inl rfl, h2⟩, fun h8 => by have := h8.2.1; omega, h3⟩
set_option maxRecDepth 100000 in
/-- 'out = append(out, list)' -/
theorem wp_append_cmp {w : World} {ops : Array Oper} {rest : List Oper} {o : Oper} {a : Act} {Q : Exit → Act → World → Prop} (hgd : o.guard = none) (s x : Operand)
    (ho : o.op = .call { callee := .builtin .append, args := #[s, x], argTypes := #[46, 46] })
    (base : Nat) (X S : Nat → Prop) (v1 v2 : Value) (xss : List (List OpM)) (zs : List Int) (hs : a.eval s = v1) (hown : Cmp w base X v1 v2 xss zs)
    (g : Nat) (u : Value) (ys : List OpM) (hx : a.eval x = .slice (some ⟨g, 0, none⟩) 1 1) (hc : w.cell? ⟨g, 0, none⟩ = some u) (hu : Ops w S u ys) (hS : ∀ b, b < w.heap.size → S b → base ≤ b ∧ X b) (hlen : xss.length ≤ 1099511627) (hbase : base ≤ w.heap.size)
    (Y : Nat → Prop) (hY : ∀ b, Y b → X b ∧ ¬ S b ∧ b < w.heap.size)
    (h : ∀ v' w', Cmp w' base Y v' v2 (xss ++ [ys]) zs → Chg (fun b => v1.ownBlock = some b) w w' → wpList Tryz.prog ops Q rest (a.put o.dst v') w') : wpList Tryz.prog ops Q (o :: rest) a w := by
  obtain ⟨i0, hi, hz0, hz1, hz2⟩ := info_parts infoSO
  obtain ⟨A, c, rfl, -⟩ := hu.shape
  obtain ⟨vs, q, h1, h2, h3, h4, h5, h6, h7⟩ := hown
  refine wpList_append_own2 (P := Tryz.prog) hgd s x 46 ho base 41 i0 (.slice none 0 0) 1 24 Tryz.underlying46 hi hz0 hz1 hz2 rfl (by decide) v1 xss.length _ hs h1 ⟨g, 0, none⟩ 1 1 [.slice A ys.length c] hx rfl ?_ ?_ ?_ ?_ (by omega) ?_
  · intro j r hr
    cases j with
    | zero => simp only [List.getElem?_cons_zero, Option.some.injEq] at hr; subst hr; rw [add_zero]; exact hc
    | succ j => simp at hr
  · intro r hr; simp at hr; subst hr; rfl
  · unfold Go.maxLen; omega
  · omega
  · intro v' w' k1 k2 k3
    have hlt := h1.lt
    have hvl : vs.length = xss.length := by have := h1.1; omega
    have hC := Chg.of_grown k2
    have hn : ∀ b, S b → b < w.heap.size → v1.ownBlock ≠ some b := fun b hb hl hh => (h6 b hh).2 (hS b hl hb).2
    refine h v' w' ⟨vs ++ [.slice A ys.length c], fun i b => (i < xss.length ∧ q i b) ∨ (i = xss.length ∧ S b ∧ b < w.heap.size), by simpa using k1, ?_, ?_, ?_, h5.kept hC (fun b hb hh => (h6 b hh).1 hb), ?_, ?_⟩ hC
    · rintro i b (⟨hi', hq⟩ | ⟨rfl, hq, hl⟩)
      · obtain ⟨a1, a2, a3, a4, a5⟩ := h2 i b hq
        refine ⟨a1, Nat.lt_of_lt_of_le a2 k2.size, fun hh => ?_, a4, fun hy => a5 (hY b hy).1⟩
        rcases k3 b hh with k4 | k4
        · exact a3 k4
        · omega
      · refine ⟨(hS b hl hq).1, Nat.lt_of_lt_of_le hl k2.size, fun hh => ?_, fun hh => h7 b hh (hS b hl hq).2, fun hy => (hY b hy).2.1 hq⟩
        rcases k3 b hh with k4 | k4
        · exact hn b hq hl k4
        · omega
    · rintro i j b (⟨hi', hq⟩ | ⟨rfl, hq, hl⟩) (⟨hj', hq'⟩ | ⟨rfl, hq', hl'⟩)
      · exact h3 i j b hq hq'
      · exact absurd (hS b hl' hq').2 (h2 i b hq).2.2.2.2
      · exact absurd (hS b hl hq).2 (h2 j b hq').2.2.2.2
      · rfl
    · intro i hi'
      by_cases he : i < xss.length
      · obtain ⟨r, hr, hk⟩ := h4 i he
        refine ⟨r, by rw [List.getElem?_append_left (by omega)]; exact hr, ?_⟩
        rw [List.getElem_append_left he]
        exact (hk.keep hC (fun b _ hq hb => (h2 i b hq).2.2.1 hb)).mono (fun b _ hq => .inl ⟨he, hq⟩)
      · have hi2 : i = xss.length := by simp at hi'; omega
        subst hi2
        refine ⟨.slice A ys.length c, by rw [List.getElem?_append_right (by omega), hvl]; simp, ?_⟩
        rw [List.getElem_append_right (by omega)]
        simp only [Nat.sub_self, List.getElem_cons_zero]
        exact ((hu.mono (T := fun b => S b ∧ b < w.heap.size) (fun b hb hq => ⟨hq, hb⟩)).keep hC (fun b _ hq hb => hn b hq.1 hq.2 hb)).mono (fun b _ hq => .inr ⟨by first | rfl | trivial, hq.1, hq.2⟩)
    · intro b hb
      rcases k3 b hb with k4 | k4
      · exact ⟨(h6 b k4).1, fun hy => (h6 b k4).2 (hY b hy).1⟩
      · exact ⟨fun hh => by have := (h5.lt hh).2; omega, fun hy => by have := (hY b hy).2.2; omega⟩
    · intro b hb hy
      exact h7 b hb (hY b hy).1
end Go.Proofs.YtnjfhpgmogopnaaGreat
section
set_option linter.unusedVariables false
set_option linter.unusedSimpArgs false
set_option maxRecDepth 100000
namespace Go.Proofs.YtnjfhpgmogopnaaGreat
open Go.ChangeShapes Go.WideShapes Go.ChangeAt Go.RowKit
theorem keyedI : Maps.Keyed Tryz.prog 2 := Maps.int_keyed Tryz.underlying2
theorem wfI {x : Int} (h : I64 x) : (Lit.int .i64 x).wf = true := by unfold I64 at h; simp [Lit.wf, IntKind.min, IntKind.max, IntKind.signed, IntKind.bits]; omega
theorem keyI {x : Int} (h : I64 x) : keyOf Tryz.prog 2 (.int .i64 x) = some (.int .i64 x) := Maps.keyOf_int_mk Tryz.underlying2 (wfI h)
/-- block b is a map of at most n entries that reads as f -/
def MapI (w : World) (b n : Nat) (f : Int → Option Int) : Prop :=
  ∃ D : DataW Nat, w.ownsMap Tryz.prog 2 (plainElem Tryz.prog 2) b n D ∧ ∀ x, I64 x → Maps.has D (.int .i64 x) = (f x).isSome ∧ D.atKey (.int .i64 x) (.lit (.int .i64 0)) = .lit (.int .i64 ((f x).getD 0))
theorem MapI.lt {w : World} {b n : Nat} {f : Int → Option Int} (h : MapI w b n f) : b < w.heap.size := h.choose_spec.1.lt
theorem MapI.made (w : World) : MapI (w.alloc (.map #[] 0)) w.heap.size 0 (fun _ => none) :=
  ⟨_, World.ownsMap_made w _ _ _, fun x _ => ⟨rfl, rfl⟩⟩
theorem MapI.keep {S : Nat → Prop} {w w' : World} {b n : Nat} {f : Int → Option Int} (h : MapI w b n f) (g : Chg S w w') (hb : ¬ S b) : MapI w' b n f := by
  obtain ⟨D, ⟨es, clock, hb1, F, hs, hD⟩, h2⟩ := h
  exact ⟨D, ⟨es, clock, (g.block b (Array.getElem?_eq_some_iff.1 hb1).1 hb).trans hb1, F, hs, hD⟩, h2⟩
theorem MapI.up {w w' : World} {b n : Nat} {f : Int → Option Int} (h : MapI w b n f) (g : Up w w') : MapI w' b n f := h.keep g id
theorem MapI.mono {w : World} {b n n' : Nat} {f : Int → Option Int} (h : MapI w b n f) (hn : n ≤ n') : MapI w b n' f := let ⟨D, h1, h2⟩ := h; ⟨D, h1.mono hn, h2⟩
theorem zeroI (w : World) : (zeroValue 2).run Tryz.prog w = .ok (.int .i64 0) w := by
  exact Tryz.zeroValue2 w
theorem put_read {D : DataW Nat} {f : Int → Option Int} (hD : Maps.IsMap D) (h : ∀ x, I64 x → Maps.has D (.int .i64 x) = (f x).isSome ∧ D.atKey (.int .i64 x) (.lit (.int .i64 0)) = .lit (.int .i64 ((f x).getD 0))) (c v : Int) :
    ∀ x, I64 x → Maps.has (D.put (.int .i64 c) (.lit (.int .i64 v))) (.int .i64 x) = ((fun y => if y = c then some v else f y) x).isSome ∧ (D.put (.int .i64 c) (.lit (.int .i64 v))).atKey (.int .i64 x) (.lit (.int .i64 0)) = .lit (.int .i64 (((fun y => if y = c then some v else f y) x).getD 0)) := by
  intro x hx
  by_cases e : x = c
  · subst e
    rw [Maps.has_put_same hD (show WideAt.IsKeyLit (.int .i64 x) from trivial), Maps.atKey_put_same hD (show WideAt.IsKeyLit (.int .i64 x) from trivial)]
    simp
  · have hne : Lit.int .i64 x ≠ Lit.int .i64 c := fun h => e (by injection h)
    rw [Maps.has_put_other hne, Maps.atKey_put_other hne]
    simpa [e] using h x hx
theorem MapI.get_run {w : World} {b n : Nat} {f : Int → Option Int} (h : MapI w b n f) {c : Int} (hc : I64 c) : (Instr.lookup 89 (.map (some b)) (.int .i64 c) false).run Tryz.prog w = .ok (.int .i64 ((f c).getD 0)) w := by
  obtain ⟨D, h1, h2⟩ := h
  obtain ⟨c', hrun, hat, _⟩ := h1.lookup_int keyedI Tryz.underlying89 Tryz.underlying2 (zeroI w) (keyI hc)
  rw [(h2 c hc).2] at hat
  obtain rfl : (f c).getD 0 = c' := by simpa using hat
  exact hrun
theorem MapI.ok_run {w : World} {b n : Nat} {f : Int → Option Int} (h : MapI w b n f) {c : Int} (hc : I64 c) : (Instr.lookup 89 (.map (some b)) (.int .i64 c) true).run Tryz.prog w = .ok (.tuple #[.int .i64 ((f c).getD 0), .bool (f c).isSome]) w := by
  obtain ⟨D, h1, h2⟩ := h
  obtain ⟨v, ps, hrun, hv⟩ := h1.look_ok keyedI Tryz.underlying89 (zeroI w) (plainElem_int Tryz.underlying2 (by decide)) (keyI hc)
  obtain ⟨c', rfl, hc', _⟩ := plainElem_int_inv Tryz.underlying2 hv
  have hat := congrArg Prod.fst hc'
  simp only [] at hat
  rw [(h2 c hc).2] at hat
  obtain rfl : (f c).getD 0 = c' := by simpa using hat
  rw [(h2 c hc).1] at hrun
  exact hrun
theorem MapI.put_run {w : World} {b n : Nat} {f : Int → Option Int} (h : MapI w b n f) (hn : n ≤ 1000000) {c y : Int} (hc : I64 c) (hy : I64 y) : ∃ w', (Instr.mapUpdate 89 (.map (some b)) (.int .i64 c) (.int .i64 y)).run Tryz.prog w = .ok () w' ∧ MapI w' b (n + 1) (fun z => if z = c then some y else f z) ∧ Chg (fun k => k = b) w w' := by
  obtain ⟨D, h1, h2⟩ := h
  obtain ⟨w', hrun, g1, g2⟩ := h1.update keyedI Tryz.underlying89 (by unfold Go.maxLen; omega) (keyI hc) (plainElem_int Tryz.underlying2 (wfI hy))
  exact ⟨w', hrun, ⟨_, g1, put_read h1.isMap h2 c y⟩, (Chg.refl _ w).grown g2 fun k hk => .inl (by injection hk with hk; exact hk.symm)⟩
section
variable {w : World} {ops : Array Oper} {rest : List Oper} {o : Oper} {a : Act} {Q : Exit → Act → World → Prop}
/-- 'm[k]' -/
theorem wp_map_get (hg : o.guard = none) (m x : Operand) (hop : o.op = Op.lookup 89 m x false) (b n : Nat) (f : Int → Option Int) (hm : a.eval m = .map (some b)) (hown : MapI w b n f) (c : Int) (hx : a.eval x = .int .i64 c) (hc : I64 c)
    (hK : wpList Tryz.prog ops Q rest (a.put o.dst (.int .i64 ((f c).getD 0))) w) : wpList Tryz.prog ops Q (o :: rest) a w := by
  obtain ⟨D, h1, h2⟩ := hown
  refine wpList_lookup_own_int w hg m x _ hop 2 2 .i64 keyedI Tryz.underlying89 Tryz.underlying2 (zeroI w) b n D hm h1 _ _ hx (keyI hc) ?_
  intro c' hat _
  rw [(h2 c hc).2] at hat
  obtain rfl : (f c).getD 0 = c' := by simpa using hat
  exact hK
/-- 'v, ok := m[k]' -/
theorem wp_map_ok (hg : o.guard = none) (m x : Operand) (hop : o.op = Op.lookup 89 m x true) (b n : Nat) (f : Int → Option Int) (hm : a.eval m = .map (some b)) (hown : MapI w b n f) (c : Int) (hx : a.eval x = .int .i64 c) (hc : I64 c)
    (hK : wpList Tryz.prog ops Q rest (a.put o.dst (.tuple #[.int .i64 ((f c).getD 0), .bool (f c).isSome])) w) : wpList Tryz.prog ops Q (o :: rest) a w := by
  obtain ⟨D, h1, h2⟩ := hown
  refine wpList_lookup_own_ok_int w hg m x _ hop 2 2 .i64 keyedI Tryz.underlying89 Tryz.underlying2 (zeroI w) b n D hm h1 _ _ hx (keyI hc) ?_
  intro c' hat _
  rw [(h2 c hc).2] at hat
  obtain rfl : (f c).getD 0 = c' := by simpa using hat
  rw [(h2 c hc).1]
  exact hK
/-- 'm[k] = v' -/
theorem wp_map_put (hg : o.guard = none) (m x v : Operand) (hop : o.op = Op.mapUpdate 89 m x v) (b n : Nat) (f : Int → Option Int) (hm : a.eval m = .map (some b)) (hown : MapI w b n f) (hn : n ≤ 1000000) (c y : Int) (hx : a.eval x = .int .i64 c) (hv : a.eval v = .int .i64 y) (hc : I64 c) (hy : I64 y)
    (hK : ∀ w', MapI w' b (n + 1) (fun z => if z = c then some y else f z) → Chg (fun k => k = b) w w' → wpList Tryz.prog ops Q rest (a.put o.dst undef) w') : wpList Tryz.prog ops Q (o :: rest) a w := by
  obtain ⟨D, h1, h2⟩ := hown
  refine wpList_mapUpdate_own w hg m x v _ hop 2 2 keyedI Tryz.underlying89 _ b n D hm h1 (by unfold Go.maxLen; omega) _ _ _ hx hv (keyI hc) (.lit (.int .i64 y)) [] (plainElem_int Tryz.underlying2 (wfI hy)) ?_
  intro w' g1 g2
  exact hK w' ⟨_, g1, put_read h1.isMap h2 c y⟩ ((Chg.refl _ w).grown g2 fun k hk => .inl (by injection hk with hk; exact hk.symm))
/-- 'm := map[..]..{k: v}' -/
theorem wp_map_ins (hg : o.guard = none) (m x v : Operand) (hop : o.op = Op.insert 89 m x v) (b n : Nat) (f : Int → Option Int) (hm : a.eval m = .map (some b)) (hown : MapI w b n f) (hn : n ≤ 1000000) (c y : Int) (hx : a.eval x = .int .i64 c) (hv : a.eval v = .int .i64 y) (hc : I64 c) (hy : I64 y)
    (hK : ∀ w', MapI w' b (n + 1) (fun z => if z = c then some y else f z) → Chg (fun k => k = b) w w' → wpList Tryz.prog ops Q rest (a.put o.dst undef) w') : wpList Tryz.prog ops Q (o :: rest) a w := by
  refine wpList_plain hg fun K' hK' => ?_
  obtain ⟨w', hrun, g1, g2⟩ := hown.put_run hn hc hy
  unfold Oper.wp
  simp [execOp, hop, hm, hx, hv, hrun, Result.andThen]
  exact hK' _ _ (hK w' g1 g2)
/-- the same at a step of a region that draws its order -/
theorem step_map_ins {K : Act → World → Prop} {E : Prop} (hg : o.guard = none) (m x v : Operand) (hop : o.op = Op.insert 89 m x v) (b n : Nat) (f : Int → Option Int) (hm : a.eval m = .map (some b)) (hown : MapI w b n f) (hn : n ≤ 1000000) (c y : Int) (hx : a.eval x = .int .i64 c) (hv : a.eval v = .int .i64 y) (hc : I64 c) (hy : I64 y)
    (hK : ∀ w', MapI w' b (n + 1) (fun z => if z = c then some y else f z) → Chg (fun k => k = b) w w' → K (a.put o.dst undef) w') : if Region.wanted o (yielded ops a.tmps) = true then Oper.wp Tryz.prog o a w K Q else E := by
  have hw : Region.wanted o (yielded ops a.tmps) = true := by simp [Region.wanted, hg]
  rw [if_pos hw]
  obtain ⟨w', hrun, g1, g2⟩ := hown.put_run hn hc hy
  unfold Oper.wp
  simp [execOp, hop, hm, hx, hv, hrun, Result.andThen]
  exact hK w' g1 g2
end
end Go.Proofs.YtnjfhpgmogopnaaGreat
end
