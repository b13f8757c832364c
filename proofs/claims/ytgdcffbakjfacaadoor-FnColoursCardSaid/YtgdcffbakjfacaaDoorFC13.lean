/- The laws' helpers on nested slices. No condition. The laws' helpers on nested slices. No condition. Plain words for the comparison of proofs: lists that agree up to a place. No condition. Comparisons of lists on both sides. No condition. Copies and appends of lists of numbers. No condition. Plain words for permutations, their descents and inverses, and for normal forms. No condition. Floats: of a row and of a chart. No condition. -/
import Derived.Test.YtgdcffbakjfacaaDoorFC12
import Derived.Test.YtgdcffbakjfacaaDoorFC6
import Derived.Laws.AppendOwnNone
section
set_option linter.unusedSimpArgs false
set_option linter.unusedVariables false
set_option maxRecDepth 100000
set_option maxHeartbeats 1000000
namespace Go.Proofs.YtgdcffbakjfacaaDoor
open Go.ChangeShapes Go.WideShapes Go.ChangeAt Go.RowKit
def EvsE (L : Nat → Prop) (w : World) (vs : List Value) (x : List EvM) : Prop := ∃ A c, vs = [.slice A x.length c] ∧ Evs w L (.slice A x.length c) x ∧ x.length ≤ c ∧ c ≤ 9223372036854775807
theorem EvsE.val {L : Nat → Prop} {w : World} {vs : List Value} {x : List EvM} (h : EvsE L w vs x) : ∃ A c, vs = [.slice A x.length c] ∧ Evs w L (.slice A x.length c) x ∧ x.length ≤ c ∧ c ≤ 9223372036854775807 := h
theorem EvsE.keep {L T : Nat → Prop} {w w' : World} {vs : List Value} {x : List EvM} (h : EvsE L w vs x) (g : Chg T w w') (hd : ∀ b, b < w.heap.size → L b → ¬ T b) : EvsE L w' vs x := let ⟨A, c, h1, h2, h3⟩ := h; ⟨A, c, h1, h2.keep g hd, h3⟩
theorem EvsE.up {L : Nat → Prop} {w w' : World} {vs : List Value} {x : List EvM} (h : EvsE L w vs x) (g : Up w w') : EvsE L w' vs x := h.keep g fun _ _ _ h => h
theorem EvsE.mono {L T : Nat → Prop} {w : World} {vs : List Value} {x : List EvM} (h : EvsE L w vs x) (hs : ∀ b, b < w.heap.size → L b → T b) : EvsE T w vs x := let ⟨A, c, h1, h2, h3⟩ := h; ⟨A, c, h1, h2.mono hs, h3⟩
def EvSV (w : World) (M H L : Nat → Prop) (v : Value) (xs : List (List EvM)) : Prop := Nst 1 (EvsE L) w H v xs
theorem EvSV.keep {M H L T : Nat → Prop} {w w' : World} {v : Value} {xs : List (List EvM)} (h : EvSV w M H L v xs) (g : Chg T w w') (hd : ∀ b, M b ∨ H b ∨ L b → ¬ T b) : EvSV w' M H L v xs :=
  Nst.keep h (fun _ _ k => EvsE.keep k g (fun b _ h => hd b (.inr (.inr h)))) g (fun b _ h => hd b (.inr (.inl h)))
theorem EvSV.up {M H L : Nat → Prop} {w w' : World} {v : Value} {xs : List (List EvM)} (h : EvSV w M H L v xs) (g : Up w w') : EvSV w' M H L v xs := h.keep g fun _ _ h => h
theorem EvSV.mono {M H L M' H' L' : Nat → Prop} {w : World} {v : Value} {xs : List (List EvM)} (h : EvSV w M H L v xs) (hm : ∀ b, b < w.heap.size → M b → M' b) (hr : ∀ b, b < w.heap.size → H b → H' b) (hl : ∀ b, b < w.heap.size → L b → L' b) : EvSV w M' H' L' v xs :=
  Nst.mono h (fun _ _ k => EvsE.mono k hl) hr
theorem EvSV.shape {M H L : Nat → Prop} {w : World} {v : Value} {xs : List (List EvM)} (h : EvSV w M H L v xs) : ∃ A c, v = .slice A xs.length c ∧ xs.length ≤ c ∧ c ≤ 9223372036854775807 ∧ (A = none → c = 0) := Nst.shape h
theorem EvSV.at_ {M H L : Nat → Prop} {w : World} {v : Value} {xs : List (List EvM)} (h : EvSV w M H L v xs) {i : Nat} (hi : i < xs.length) : ∃ b o c vs, v = .slice (some ⟨b, o, none⟩) xs.length c ∧ H b ∧ b < w.heap.size ∧ vs.length = 1 ∧ EvsE L w vs xs[i] ∧
    ∀ j u, vs[j]? = some u → w.cell? ⟨b, o + i * 1 + j, none⟩ = some u ∧ w.frozen? ⟨b, o + i * 1 + j, none⟩ = false := Nst.at_ h hi
end Go.Proofs.YtgdcffbakjfacaaDoor
end
section
set_option linter.unusedSimpArgs false
set_option linter.unusedVariables false
set_option maxRecDepth 100000
set_option maxHeartbeats 1000000
namespace Go.Proofs.YtgdcffbakjfacaaDoor
open Go.ChangeShapes Go.WideShapes Go.ChangeAt Go.RowKit
structure ProofM where
  forms : List NormM
  sts : List (List EvM)
def ProofE (M H L : Nat → Prop) (w : World) (vs : List Value) (x : ProofM) : Prop := ∃ A0 c0 A1 c1, vs = [.slice A0 x.forms.length c0, .slice A1 x.sts.length c1] ∧ NormSV w M H L (.slice A0 x.forms.length c0) x.forms ∧ EvSV w M H L (.slice A1 x.sts.length c1) x.sts ∧ (x.forms.length ≤ c0 ∧ c0 ≤ 9223372036854775807) ∧ (x.sts.length ≤ c1 ∧ c1 ≤ 9223372036854775807)
theorem ProofE.keep {M H L T : Nat → Prop} {w w' : World} {vs : List Value} {x : ProofM} (h : ProofE M H L w vs x) (g : Chg T w w') (hd : ∀ b, M b ∨ H b ∨ L b → ¬ T b) : ProofE M H L w' vs x := let ⟨A0, c0, A1, c1, he, h0, h1, h2, h3⟩ := h; ⟨A0, c0, A1, c1, he, h0.keep g hd, h1.keep g hd, h2, h3⟩
theorem ProofE.up {M H L : Nat → Prop} {w w' : World} {vs : List Value} {x : ProofM} (h : ProofE M H L w vs x) (g : Up w w') : ProofE M H L w' vs x := h.keep g fun _ _ h => h
theorem ProofE.mono {M H L M' H' L' : Nat → Prop} {w : World} {vs : List Value} {x : ProofM} (h : ProofE M H L w vs x) (hm : ∀ b, b < w.heap.size → M b → M' b) (hr : ∀ b, b < w.heap.size → H b → H' b) (hl : ∀ b, b < w.heap.size → L b → L' b) : ProofE M' H' L' w vs x := let ⟨A0, c0, A1, c1, he, h0, h1, h2, h3⟩ := h; ⟨A0, c0, A1, c1, he, h0.mono hm hr hl, h1.mono hm hr hl, h2, h3⟩
def ProofV (w : World) (M H L : Nat → Prop) (v : Value) (x : ProofM) : Prop := ∃ A0 c0 A1 c1, v = .agg #[.slice A0 x.forms.length c0, .slice A1 x.sts.length c1] ∧ NormSV w M H L (.slice A0 x.forms.length c0) x.forms ∧ EvSV w M H L (.slice A1 x.sts.length c1) x.sts ∧ (x.forms.length ≤ c0 ∧ c0 ≤ 9223372036854775807) ∧ (x.sts.length ≤ c1 ∧ c1 ≤ 9223372036854775807)
theorem ProofV.keep {M H L T : Nat → Prop} {w w' : World} {v : Value} {x : ProofM} (h : ProofV w M H L v x) (g : Chg T w w') (hd : ∀ b, M b ∨ H b ∨ L b → ¬ T b) : ProofV w' M H L v x := let ⟨A0, c0, A1, c1, he, h0, h1, h2, h3⟩ := h; ⟨A0, c0, A1, c1, he, h0.keep g hd, h1.keep g hd, h2, h3⟩
theorem ProofV.up {M H L : Nat → Prop} {w w' : World} {v : Value} {x : ProofM} (h : ProofV w M H L v x) (g : Up w w') : ProofV w' M H L v x := h.keep g fun _ _ h => h
theorem ProofV.mono {M H L M' H' L' : Nat → Prop} {w : World} {v : Value} {x : ProofM} (h : ProofV w M H L v x) (hm : ∀ b, b < w.heap.size → M b → M' b) (hr : ∀ b, b < w.heap.size → H b → H' b) (hl : ∀ b, b < w.heap.size → L b → L' b) : ProofV w M' H' L' v x := let ⟨A0, c0, A1, c1, he, h0, h1, h2, h3⟩ := h; ⟨A0, c0, A1, c1, he, h0.mono hm hr hl, h1.mono hm hr hl, h2, h3⟩
theorem ProofE.val {M H L : Nat → Prop} {w : World} {vs : List Value} {x : ProofM} (h : ProofE M H L w vs x) : ∃ A0 c0 A1 c1, vs = [.slice A0 x.forms.length c0, .slice A1 x.sts.length c1] ∧ ProofV w M H L (.agg #[.slice A0 x.forms.length c0, .slice A1 x.sts.length c1]) x :=
  let ⟨A0, c0, A1, c1, he, h0, h1, h2, h3⟩ := h; ⟨A0, c0, A1, c1, he, A0, c0, A1, c1, rfl, h0, h1, h2, h3⟩
theorem ProofV.val {M H L : Nat → Prop} {w : World} {v : Value} {x : ProofM} (h : ProofV w M H L v x) : ∃ A0 c0 A1 c1, v = .agg #[.slice A0 x.forms.length c0, .slice A1 x.sts.length c1] ∧ ProofV w M H L (.agg #[.slice A0 x.forms.length c0, .slice A1 x.sts.length c1]) x := by
  obtain ⟨A0, c0, A1, c1, rfl, h0, h1, h2, h3⟩ := h
  exact ⟨_, _, _, _, rfl, _, _, _, _, rfl, h0, h1, h2, h3⟩
theorem ProofV.parts {M H L : Nat → Prop} {w : World} {v : Value} {x : ProofM} (h : ProofV w M H L v x) : ∃ A0 c0 A1 c1, v = .agg #[.slice A0 x.forms.length c0, .slice A1 x.sts.length c1] ∧ NormSV w M H L (.slice A0 x.forms.length c0) x.forms ∧ EvSV w M H L (.slice A1 x.sts.length c1) x.sts ∧ (x.forms.length ≤ c0 ∧ c0 ≤ 9223372036854775807) ∧ (x.sts.length ≤ c1 ∧ c1 ≤ 9223372036854775807) := h
theorem ProofE.mk {M H L : Nat → Prop} {w : World} {x : ProofM} {B0 B1 : Option Addr} {d0 d1 : Nat} (h : ProofV w M H L (.agg #[.slice B0 x.forms.length d0, .slice B1 x.sts.length d1]) x) : ProofE M H L w [.slice B0 x.forms.length d0, .slice B1 x.sts.length d1] x := by
  obtain ⟨A0, c0, A1, c1, he, h0, h1, h2, h3⟩ := h
  simp only [Value.agg.injEq, Array.mk.injEq, List.cons.injEq, Value.slice.injEq, true_and, and_true] at he
  obtain ⟨⟨rfl, rfl⟩, ⟨rfl, rfl⟩⟩ := he
  exact ⟨_, _, _, _, rfl, h0, h1, h2, h3⟩
end Go.Proofs.YtgdcffbakjfacaaDoor
end
namespace Go.Proofs.YtgdcffbakjfacaaDoor
theorem evM_eq {a b : EvM} : a = b ↔ a.kind = b.kind ∧ a.place = b.place ∧ a.count = b.count ∧ a.bed = b.bed ∧ a.car = b.car ∧ a.dir = b.dir := by
  cases a; cases b; simp
instance : DecidableEq EvM := fun _ _ => decidable_of_iff _ evM_eq.symm
theorem normM_eq {a b : NormM} : a = b ↔ a.n = b.n ∧ a.p = b.p ∧ a.fs = b.fs := by
  cases a; cases b; simp
instance : DecidableEq NormM := fun _ _ => decidable_of_iff _ normM_eq.symm
theorem proofM_eq {a b : ProofM} : a = b ↔ a.forms = b.forms ∧ a.sts = b.sts := by
  cases a; cases b; simp
instance : DecidableEq ProofM := fun _ _ => decidable_of_iff _ proofM_eq.symm
section
variable {α : Type}
def AgreeTo (xs ys : List α) (j : Nat) : Prop := ∀ i (h : i < xs.length) (h' : i < ys.length), i < j → xs[i] = ys[i]
theorem AgreeTo.start (xs ys : List α) : AgreeTo xs ys 0 := fun _ _ _ h => absurd h (Nat.not_lt_zero _)
theorem AgreeTo.next {xs ys : List α} {j : Nat} (h : AgreeTo xs ys j) (h1 : j < xs.length) (h2 : j < ys.length) (he : xs[j] = ys[j]) : AgreeTo xs ys (j + 1) := fun i a b c => by
  by_cases e : i = j
  · subst e
    exact he
  · exact h i a b (by omega)
theorem AgreeTo.all {xs ys : List α} (h : AgreeTo xs ys xs.length) (hl : xs.length = ys.length) : xs = ys :=
  List.ext_getElem hl fun i a b => h i a b a
theorem differ_at {xs ys : List α} {j : Nat} (h1 : j < xs.length) (h2 : j < ys.length) (he : xs[j] ≠ ys[j]) : xs ≠ ys := fun h => he (by subst h; rfl)
variable [DecidableEq α]
/-- whether two lists are the same -/
def sameL (xs ys : List α) : Bool := decide (xs = ys)
theorem sameL_all {xs ys : List α} (h : AgreeTo xs ys xs.length) (hl : xs.length = ys.length) : sameL xs ys = true := decide_eq_true (h.all hl)
theorem sameL_at {xs ys : List α} {j : Nat} (h1 : j < xs.length) (h2 : j < ys.length) (he : xs[j] ≠ ys[j]) : sameL xs ys = false := decide_eq_false (differ_at h1 h2 he)
theorem sameL_len {xs ys : List α} (h : xs.length ≠ ys.length) : sameL xs ys = false := decide_eq_false fun e => h (by rw [e])
end
def sameN (a b : NormM) : Bool := decide (a = b)
def sameP (a b : ProofM) : Bool := decide (a = b)
theorem sameN_and (a b : NormM) : sameN a b = (decide (a.n = b.n) && (decide (a.p = b.p) && sameL a.fs b.fs)) := by
  unfold sameN sameL
  rw [Bool.eq_iff_iff, decide_eq_true_eq, normM_eq, Bool.and_eq_true, Bool.and_eq_true]
  simp
theorem sameP_and (a b : ProofM) : sameP a b = (sameL a.forms b.forms && sameL a.sts b.sts) := by
  unfold sameP sameL
  rw [Bool.eq_iff_iff, decide_eq_true_eq, proofM_eq, Bool.and_eq_true]
  simp
end Go.Proofs.YtgdcffbakjfacaaDoor
section
set_option linter.unusedSimpArgs false
set_option linter.unusedVariables false
set_option maxRecDepth 100000
set_option maxHeartbeats 1000000
namespace Go.Proofs.YtgdcffbakjfacaaDoor
open Go.ChangeShapes Go.WideShapes Go.ChangeAt Go.RowKit
theorem equalInts_any (w : World) (S S' : Nat → Prop) (v u : Value) (xs ys : List Int) (h : Ints w S v xs) (h2 : Ints w S' u ys) :
    Calls Tryd.prog 32 #[v, u] w fun e w' => e = .returned (.bool (sameL xs ys)) ∧ Up w w' := by
  obtain ⟨A, c, rfl, hlc, hcm, -⟩ := h.shape
  obtain ⟨A2, c2, rfl, hlc2, hcm2, -⟩ := h2.shape
  by_cases hl : xs.length = ys.length
  rotate_left
  · have HB := Lib.hid (sameL_len hl)
    have hb : ((xs.length : Int) != ys.length) = true := by simp; omega
    clear hl h h2
    go_enter Tryd.func32, Tryd.ntmps32
    go_wp2
    go_ret
    exact ⟨ret_bool HB.out.symm, Chg.refl _ _⟩
  have HL := Lib.hid hl
  have hb : ((xs.length : Int) != ys.length) = false := by simp; omega
  have H := Lib.hid h
  have H2 := Lib.hid h2
  clear h h2 hl
  go_enter Tryd.func32, Tryd.ntmps32
  go_wp2
  go_loopw [5, 13] (fun _ i wr => ∃ (j : Nat), j ≤ xs.length ∧ i = .int .i64 j ∧ Hid (Up w wr) ∧ Hid (AgreeTo xs ys j)) (fun _ i _ => xs.length - (intOf i).toNat)
  case atStart => exact ⟨0, by omega, rfl, Chg.refl _ _, AgreeTo.start _ _⟩
  case round =>
    obtain ⟨j, hj, rfl, hu, hp⟩ := hrel
    by_cases hlt : j < xs.length
    · have hlt2 : j < ys.length := by have := HL.out; omega
      obtain ⟨b, o, rfl, -, hc⟩ := (H.out.up hu.out).ix hlt
      obtain ⟨b2, o2, rfl, -, hc2⟩ := (H2.out.up hu.out).ix hlt2
      have f0 := hc j hlt
      have e0 := hc2 j hlt2
      rw [ix_eq hlt] at f0
      rw [ix_eq hlt2] at e0
      clear hc hc2
      by_cases he : xs[j] = ys[j]
      · have HE := Lib.hid he
        have hbb : ((xs[j] : Int) != ys[j]) = false := by simp [he]
        clear he
        go_wp2
        go_quiet (fail)
        go_wp2
        go_roundw
        case rel => exact ⟨j + 1, by omega, by go_num, Lib.hid (Chg.trans hu.out (by repeat (first | exact Chg.refl _ _ | apply Chg.drew | apply Chg.drewN | refine Chg.alloc ?_ _))), Lib.hid (AgreeTo.next hp.out hlt hlt2 HE.out)⟩
        case measure => first | (simp [intOf]; done) | (simp [intOf]; omega)
      · have HB := Lib.hid (sameL_at hlt hlt2 he)
        have hbb : ((xs[j] : Int) != ys[j]) = true := by simpa using he
        clear he
        go_wp2
        go_quiet (fail)
        go_wp2
        go_ret
        exact ⟨ret_bool HB.out.symm, Chg.trans hu.out (by repeat (first | exact Chg.refl _ _ | apply Chg.drew | apply Chg.drewN | refine Chg.alloc ?_ _))⟩
    · obtain rfl : j = xs.length := by omega
      have HB := Lib.hid (sameL_all hp.out HL.out)
      go_wp2
      go_ret
      exact ⟨ret_bool HB.out.symm, hu.out⟩
theorem evEq_and (x y : EvM) : decide (x = y) = (decide (x.kind = y.kind) && (decide (x.place = y.place) && (decide (x.count = y.count) && (decide (x.bed = y.bed) && (decide (x.car = y.car) && decide (x.dir = y.dir)))))) := by
  rw [Bool.eq_iff_iff, decide_eq_true_eq, evM_eq]
  simp
end Go.Proofs.YtgdcffbakjfacaaDoor
end
section
set_option linter.unusedSimpArgs false
set_option linter.unusedVariables false
set_option maxRecDepth 100000
set_option maxHeartbeats 1000000
namespace Go.Proofs.YtgdcffbakjfacaaDoor
open Go.ChangeShapes Go.WideShapes Go.ChangeAt Go.RowKit
set_option maxRecDepth 100000 in
/-- 'out = append(out, list...)' -/
theorem wp_app_intsW {w : World} {ops : Array Oper} {rest : List Oper} {o : Oper} {a : Act} {Q : Exit → Act → World → Prop} (hgd : o.guard = none) (s x : Operand)
    (ho : o.op = .call { callee := .builtin .append, args := #[s, x], argTypes := #[31, 31] })
    (base : Nat) (v : Value) (xs : List Int) (hs : a.eval s = v) (hown : OwnI w base v xs)
    (S : Nat → Prop) (u : Value) (ys : List Int) (hx : a.eval x = u) (hsrc : Ints w S u ys) (hlen : xs.length + ys.length ≤ 1099511627776) (hbase : base ≤ w.heap.size)
    (h : ∀ v' w', OwnI w' base v' (xs ++ ys) → Chg (fun b => v.ownBlock = some b) w w' → (∀ b, v'.ownBlock = some b → v.ownBlock = some b ∨ w.heap.size ≤ b) → Chg (fun k => base ≤ k) w w' → wpList Tryd.prog ops Q rest (a.put o.dst v') w') : wpList Tryd.prog ops Q (o :: rest) a w := by
  obtain ⟨i0, hi, hz0, hz1, hz2⟩ := info_parts info2
  obtain ⟨A, c, rfl, hlc, hcm, hok, hr, hnn⟩ := hsrc
  have hok' : ∀ y ∈ xs ++ ys, I64 y := fun y hy => (List.mem_append.1 hy).elim (hown.2 y) (hok y)
  cases A with
  | none =>
    have hy : ys = [] := by
      rcases Nat.eq_zero_or_pos ys.length with h0 | h0
      · exact List.eq_nil_of_length_eq_zero h0
      · obtain ⟨b, oo, h1, _⟩ := hr h0
        cases h1
    subst hy
    obtain rfl := hnn rfl
    refine wpList_append_own_none hgd s x 31 ho base 2 i0 1 Tryd.underlying31 hi v xs.length _ hs hown.1 hx ?_
    exact h v w (by simpa using hown) (Chg.refl _ _) (fun b hb => .inl hb) (Chg.refl _ _)
  | some ad =>
    have hnews : ∀ j q, (ys.map (Value.int .i64))[j]? = some q → w.cell? (ad.add j) = some q := by
      intro j q hq
      obtain ⟨hj, he⟩ := List.getElem?_eq_some_iff.1 hq
      have hj' : j < ys.length := by simpa using hj
      obtain ⟨b, oo, h1, _, _, hc⟩ := hr (by omega)
      injection h1 with h1
      subst h1
      have := (hc j hj').1
      rw [← he, List.getElem_map, ← this]
      unfold Addr.add
      by_cases h0 : j = 0 <;> simp [h0]
    refine wpList_append_own2 (P := Tryd.prog) hgd s x 31 ho base 2 i0 (.int .i64 0) 1 8 Tryd.underlying31 hi hz0 hz1 hz2 rfl (by decide) v xs.length _ hs hown.1 ad ys.length c (ys.map (Value.int .i64)) hx (by simp) hnews ?_ ?_ ?_ hbase ?_
    · intro q hq
      obtain ⟨y, _, rfl⟩ := List.mem_map.1 hq
      rfl
    · unfold Go.maxLen; omega
    · omega
    · intro v' w' h2 h3 h4
      exact h v' w' ⟨by simpa using h2, hok'⟩ (Chg.of_grown h3) h4 ((Chg.refl _ _).grown h3 fun k hk => .inl (hown.1.lt k hk).1)
theorem eqlIn_nil {P : Program} (w : World) (d : Nat) (t e : TypeId) (a : Option Addr) (l c : Nat) (h : P.underlying t = some (.slice e)) : (Op.equalIn (d + 1) t (.slice a l c) (.slice none 0 0)).run P w = .ok a.isNone w := by
  cases a <;> simp [Op.equalIn, run_underlying h]
theorem eql_nil {P : Program} (w : World) (t e : TypeId) (a : Option Addr) (l c : Nat) (h : P.underlying t = some (.slice e)) : (binOp .eql t (.slice a l c) (.slice none 0 0)).run P w = .ok (.bool a.isNone) w := by
  have h1 : (Op.equal t (.slice a l c) (.slice none 0 0)).run P w = .ok a.isNone w := eqlIn_nil w 9999 t e a l c h
  simp only [binOp]
  simp [h1]
end Go.Proofs.YtgdcffbakjfacaaDoor
end
section
set_option linter.unusedSimpArgs false
set_option linter.unusedVariables false
namespace Go.Proofs.YtgdcffbakjfacaaDoor
open Go.ChangeShapes Go.WideShapes Go.ChangeAt Go.RowKit
/-- a slice of numbers of which one is set -/
theorem Ints.set {w : World} {S : Nat → Prop} {b o c : Nat} {xs : List Int} (h : Ints w S (.slice (some ⟨b, o, none⟩) xs.length c) xs) {k : Nat} (hk : k < xs.length) {x : Int} (hx : I64 x) : Ints (w.setCell ⟨b, o + k, none⟩ (.int .i64 x)) S (.slice (some ⟨b, o, none⟩) xs.length c) (xs.set k x) := by
  obtain ⟨A, c', hv, h1, h2, h3, h4, h5⟩ := h
  obtain ⟨rfl, rfl⟩ : some ⟨b, o, none⟩ = A ∧ c = c' := by simpa using hv
  obtain ⟨b', o', ha, hs, hb, hc⟩ := h4 (by omega)
  obtain ⟨rfl, rfl⟩ : b = b' ∧ o = o' := by simpa using ha
  refine ⟨_, c, by rw [List.length_set], by rw [List.length_set]; exact h1, h2, fun y hy => ?_, fun _ => ⟨b, o, rfl, hs, by simpa [World.setCell] using hb, fun t ht => ?_⟩, by simp⟩
  · rcases List.mem_or_eq_of_mem_set hy with h | h
    · exact h3 y h
    · rw [h]; exact hx
  · rw [List.length_set] at ht
    obtain ⟨c1, c2⟩ := hc t ht
    by_cases e : t = k
    · subst e
      rw [List.getElem_set_self]
      exact ⟨World.cell?_setCell_same _ _ _ c1, by simpa using c2⟩
    · rw [World.cell?_setCell_other _ _ _ _ (fun h => e (by injection h with _ h _; omega)), List.getElem_set_ne (fun h => e h.symm)]
      exact ⟨c1, by simpa using c2⟩
theorem ints_ixf {w : World} {S : Nat → Prop} {A : Option Addr} {c : Nat} {xs : List Int} (h : Ints w S (.slice A xs.length c) xs) {i : Nat} (hi : i < xs.length) :
    ∃ b o, A = some ⟨b, o, none⟩ ∧ b < w.heap.size ∧ ∀ j, j < xs.length → w.cell? ⟨b, o + j, none⟩ = some (.int .i64 (ix xs j)) ∧ w.frozen? ⟨b, o + j, none⟩ = false := by
  obtain ⟨A', c', he, _, _, _, hr, _⟩ := h
  obtain ⟨rfl, rfl⟩ : A = A' ∧ c = c' := by simpa using he
  obtain ⟨b, o, hA, _, hbl, hc⟩ := hr (by omega)
  exact ⟨b, o, hA, hbl, fun j hj => by rw [ix_eq hj]; exact hc j hj⟩
theorem Ints.zeros (w : World) (S : Nat → Prop) (n : Nat) (e : TypeId) (hn : n ≤ 9223372036854775807) (hS : S w.heap.size) : Ints (w.alloc (.cells (madeCells #[.int .i64 0] n) e)) S (.slice (some ⟨w.heap.size, 0, none⟩) n n) (List.replicate n 0) :=
  ⟨_, n, by rw [List.length_replicate], by rw [List.length_replicate]; exact Nat.le_refl _, hn, fun x hx => by rw [(List.mem_replicate.1 hx).2]; unfold I64; omega, fun _ => ⟨w.heap.size, 0, rfl, hS, by simp, fun t ht => by
    rw [List.length_replicate] at ht
    rw [Nat.zero_add, cell_new, madeInts_get _ _ ht, List.getElem_replicate]
    exact ⟨rfl, frozen_new _ _ _ _⟩⟩, by simp⟩
theorem ix_set_self {xs : List Int} {k : Nat} (h : k < xs.length) (x : Int) : ix (xs.set k x) k = x := by rw [ix_eq (by simpa using h), List.getElem_set_self]
/-- 0, 1, .. -/
def identTo (n : Nat) : Nat → List Int
  | 0 => List.replicate n 0
  | j + 1 => (identTo n j).set j j
theorem identTo_length (n : Nat) : ∀ j, (identTo n j).length = n
  | 0 => List.length_replicate
  | j + 1 => by rw [identTo, List.length_set, identTo_length n j]
theorem identTo_get (n : Nat) : ∀ (j t : Nat) (h : t < (identTo n j).length), (identTo n j)[t] = if t < j then (t : Int) else 0
  | 0, t, h => by simp [identTo]
  | j + 1, t, h => by
    have hn : t < (identTo n j).length := by rw [identTo_length] at *; exact h
    simp only [identTo]
    rw [List.getElem_set]
    by_cases e : j = t
    · subst e
      rw [if_pos rfl, if_pos (by omega)]
    · rw [if_neg e, identTo_get n j t hn]
      by_cases h2 : t < j
      · rw [if_pos h2, if_pos (by omega)]
      · rw [if_neg h2, if_neg (by omega)]
def identM (n : Nat) : List Int := (List.range n).map fun i : Nat => (i : Int)
theorem identM_length (n : Nat) : (identM n).length = n := by simp [identM]
theorem identTo_all (n : Nat) : identTo n n = identM n := by
  refine List.ext_getElem (by rw [identTo_length, identM_length]) fun t h1 h2 => ?_
  rw [identTo_get, identTo_length] at *
  rw [if_pos h1]
  simp [identM]
theorem identM_succ (n : Nat) : identM (n + 1) = identM n ++ [(n : Int)] := by simp [identM, List.range_succ]
theorem identM_i64 {n : Nat} (hn : n ≤ 1000000) : ∀ x ∈ identM n, I64 x := by
  intro x hx
  obtain ⟨i, hi, rfl⟩ := List.mem_map.1 hx
  have := List.mem_range.1 hi
  unfold I64
  omega
/-- n - 1, n - 2, .., the first k of them -/
def fallTo (n k : Nat) : List Int := (List.range k).map fun i : Nat => (n : Int) - 1 - i
theorem fallTo_succ (n k : Nat) : fallTo n (k + 1) = fallTo n k ++ [(n : Int) - 1 - k] := by simp [fallTo, List.range_succ]
theorem fallTo_length (n k : Nat) : (fallTo n k).length = k := by simp [fallTo]
theorem fallTo_all (n : Nat) : fallTo n n = (identM n).reverse := by
  refine List.ext_getElem (by simp [fallTo, identM]) fun t h1 h2 => ?_
  rw [fallTo_length] at h1
  rw [List.getElem_reverse]
  simp [fallTo, identM]
  omega
def halfM (n : Nat) : List Int := (identM n).reverse
/-- whether a list is a permutation of few things -/
def permB (p : List Int) : Bool := decide (p.length ≤ 12) && decide (∀ x ∈ p, 0 ≤ x ∧ x < p.length) && decide p.Nodup
theorem permB_len {p : List Int} (h : permB p = true) : p.length ≤ 12 := by
  unfold permB at h
  simp only [Bool.and_eq_true, decide_eq_true_eq] at h
  exact h.1.1
theorem permB_in {p : List Int} (h : permB p = true) : ∀ x ∈ p, 0 ≤ x ∧ x < p.length := by
  unfold permB at h
  simp only [Bool.and_eq_true, decide_eq_true_eq] at h
  exact h.1.2
theorem permB_nodup {p : List Int} (h : permB p = true) : p.Nodup := by
  unfold permB at h
  simp only [Bool.and_eq_true, decide_eq_true_eq] at h
  exact h.2
theorem permB_ix {p : List Int} (h : permB p = true) {j : Nat} (hj : j < p.length) : 0 ≤ ix p j ∧ ix p j < p.length := by
  rw [ix_eq hj]
  exact permB_in h _ (List.getElem_mem hj)
/-- the first j are fine -/
def permTo (p : List Int) (j : Nat) : Prop := ∀ i (hi : i < p.length), i < j → (0 ≤ p[i] ∧ p[i] < p.length) ∧ p[i] ∉ p.take i
theorem permTo.start (p : List Int) : permTo p 0 := fun _ _ h => absurd h (Nat.not_lt_zero _)
theorem permTo.next {p : List Int} {j : Nat} (h : permTo p j) (hj : j < p.length) (h1 : 0 ≤ p[j] ∧ p[j] < p.length) (h2 : p[j] ∉ p.take j) : permTo p (j + 1) := fun i hi hij => by
  by_cases e : i = j
  · subst e
    exact ⟨h1, h2⟩
  · exact h i hi (by omega)
theorem permTo.all {p : List Int} (h : permTo p p.length) (hl : p.length ≤ 12) : permB p = true := by
  unfold permB
  simp only [Bool.and_eq_true, decide_eq_true_eq]
  refine ⟨⟨hl, fun x hx => ?_⟩, ?_⟩
  · obtain ⟨i, hi, rfl⟩ := List.getElem_of_mem hx
    exact (h i hi hi).1
  · rw [List.nodup_iff_pairwise_ne, List.pairwise_iff_getElem]
    intro i j hi hj hij he
    refine (h j hj hj).2 ?_
    rw [← he, List.mem_take_iff_getElem]
    exact ⟨i, by omega, rfl⟩
theorem permB_long {p : List Int} (h : ¬ p.length ≤ 12) : permB p = false := by unfold permB; rw [decide_eq_false h]; rfl
theorem permB_out {p : List Int} {j : Nat} (hj : j < p.length) (h : ¬ (0 ≤ p[j] ∧ p[j] < p.length)) : permB p = false := by
  cases hb : permB p with
  | false => rfl
  | true => exact absurd (permB_in hb _ (List.getElem_mem hj)) h
theorem permB_twice {p : List Int} {j : Nat} (hj : j < p.length) (h : p[j] ∈ p.take j) : permB p = false := by
  cases hb : permB p with
  | false => rfl
  | true =>
    obtain ⟨i, hi, he⟩ := List.mem_take_iff_getElem.1 h
    have := (List.nodup_iff_pairwise_ne.1 (permB_nodup hb))
    rw [List.pairwise_iff_getElem] at this
    exact absurd he (this i j (by omega) hj (by omega))
/-- the places whose pair is an inversion, among the first j -/
def descTo (p : List Int) : Nat → List Int
  | 0 => []
  | j + 1 => if ix p (j + 1) < ix p j then descTo p j ++ [(j : Int)] else descTo p j
def descM (p : List Int) : List Int := descTo p (p.length - 1)
theorem descTo_bd (p : List Int) : ∀ j, ∀ x ∈ descTo p j, 0 ≤ x ∧ x < j
  | 0 => by simp [descTo]
  | j + 1 => by
    intro x hx
    unfold descTo at hx
    split at hx
    · rcases List.mem_append.1 hx with h | h
      · have := descTo_bd p j x h; omega
      · simp at h; omega
    · have := descTo_bd p j x hx; omega
theorem descTo_length (p : List Int) : ∀ j, (descTo p j).length ≤ j
  | 0 => by simp [descTo]
  | j + 1 => by
    have := descTo_length p j
    unfold descTo
    split
    · simp; omega
    · omega
def startTo (p : List Int) (j : Nat) : List Int := (descTo p j).map (· + 1)
def startM (p : List Int) : List Int := (descM p).map (· + 1)
theorem startTo_succ (p : List Int) (j : Nat) : startTo p (j + 1) = if ix p (j + 1) < ix p j then startTo p j ++ [(j : Int) + 1] else startTo p j := by
  unfold startTo
  rw [descTo]
  split <;> simp
theorem startTo_length (p : List Int) (j : Nat) : (startTo p j).length ≤ j := by unfold startTo; rw [List.length_map]; exact descTo_length p j
/-- the inverse -/
def invTo (p : List Int) : Nat → List Int
  | 0 => List.replicate p.length 0
  | j + 1 => (invTo p j).set (ix p j).toNat j
theorem invTo_length (p : List Int) : ∀ j, (invTo p j).length = p.length
  | 0 => List.length_replicate
  | j + 1 => by rw [invTo, List.length_set, invTo_length p j]
def invM (p : List Int) : List Int := invTo p p.length
/-- the first letter with which q begins and p does not end; 0 -/
def extraM (p q : List Int) : Int := ((startM q).find? fun k => !decide (k ∈ startM (invM p))).getD 0
def extraFrom (p q : List Int) (j : Nat) : Prop := ∀ i (hi : i < (startM q).length), i < j → (startM q)[i] ∈ startM (invM p)
theorem extraFrom.start (p q : List Int) : extraFrom p q 0 := fun _ _ h => absurd h (Nat.not_lt_zero _)
theorem extraFrom.next {p q : List Int} {j : Nat} (h : extraFrom p q j) (hj : j < (startM q).length) (h1 : (startM q)[j] ∈ startM (invM p)) : extraFrom p q (j + 1) := fun i hi hij => by
  by_cases e : i = j
  · subst e; exact h1
  · exact h i hi (by omega)
theorem extraFrom.all {p q : List Int} (h : extraFrom p q (startM q).length) : extraM p q = 0 := by
  unfold extraM
  rw [List.find?_eq_none.2]
  · rfl
  · intro x hx
    obtain ⟨i, hi, rfl⟩ := List.getElem_of_mem hx
    simpa using h i hi hi
theorem extraFrom.at_ {p q : List Int} {j : Nat} (h : extraFrom p q j) (hj : j < (startM q).length) (h1 : (startM q)[j] ∉ startM (invM p)) : extraM p q = (startM q)[j] := by
  unfold extraM
  rw [List.find?_eq_some_iff_getElem.2 ⟨by simpa using h1, j, hj, rfl, fun i hi => by simpa using h i (by omega) hi⟩]
  rfl
theorem startM_bd (q : List Int) : ∀ x ∈ startM q, 1 ≤ x ∧ x ≤ q.length := by
  intro x hx
  obtain ⟨y, hy, rfl⟩ := List.mem_map.1 hx
  have := descTo_bd q _ y hy
  omega
theorem extraM_bd (p q : List Int) : 0 ≤ extraM p q ∧ extraM p q ≤ q.length := by
  unfold extraM
  cases h : (startM q).find? fun k => !decide (k ∈ startM (invM p)) with
  | none => simp
  | some x =>
    have := startM_bd q x (List.mem_of_find?_eq_some h)
    simp only [Option.getD_some]
    omega
end Go.Proofs.YtgdcffbakjfacaaDoor
end
section
set_option linter.unusedSimpArgs false
set_option linter.unusedVariables false
set_option maxRecDepth 100000
set_option maxHeartbeats 4000000
namespace Go.Proofs.YtgdcffbakjfacaaDoor
open Go.ChangeShapes Go.WideShapes Go.ChangeAt Go.RowKit
theorem floTo_row {row : List Int} {j : Nat} (h : j < row.length) (num k : Int) : floTo row num k (j + 1) = floStep num k j row[j] (floTo row num k j) := by
  rw [floTo]
  congr 1
  simp [h]
theorem floTo_len (row : List Int) (num k : Int) (j : Nat) : (floTo row num k j).1.length ≤ j := (floTo_ok row num k j).2.2.2
/-- a colour chart by value -/
def ColV (w : World) (M H L : Nat → Prop) (v : Value) (c : ColM) : Prop := ∃ A k, v = .agg #[.int .i64 c.n, .slice A c.rs.length k] ∧ IntSSV w M H L (.slice A c.rs.length k) c.rs ∧ (c.rs.length ≤ k ∧ k ≤ 9223372036854775807) ∧ I64 c.n
theorem ColV.keep {M H L T : Nat → Prop} {w w' : World} {v : Value} {x : ColM} (h : ColV w M H L v x) (g : Chg T w w') (hd : ∀ b, M b ∨ H b ∨ L b → ¬ T b) : ColV w' M H L v x := let ⟨A0, c0, he, h0, h1⟩ := h; ⟨A0, c0, he, h0.keep g hd, h1⟩
theorem ColV.up {M H L : Nat → Prop} {w w' : World} {v : Value} {x : ColM} (h : ColV w M H L v x) (g : Up w w') : ColV w' M H L v x := h.keep g fun _ _ h => h
theorem rowFl_len4 {row : List Int} (num : Int) (n : Nat) (h : row.length ≤ 1000) (hn : n ≤ 4) : (rowFl row num n).length ≤ 4000 := by
  have h1 := rowFl_len row num n
  have h2 := Nat.mul_le_mul hn h
  omega
theorem allFl_len {rows : List (List Int)} (h : ∀ i, (colAt rows i).length ≤ 1000) : ∀ i, (allFl rows i).length ≤ 4000 * i
  | 0 => by simp [allFl]
  | i + 1 => by
    have h1 := allFl_len h i
    have h2 := rowFl_len4 (i : Int) 4 (h i) (Nat.le_refl _)
    rw [allFl, List.length_append]
    omega
theorem colAt_len {rows : List (List Int)} (h : ∀ i (hi : i < rows.length), rows[i].length ≤ 1000) (i : Nat) : (colAt rows i).length ≤ 1000 := by
  by_cases hi : i < rows.length
  · rw [colAt_eq hi]; exact h i hi
  · unfold colAt; simp [hi]
theorem floats_any (w : World) (M H L : Nat → Prop) (v : Value) (c : ColM) (h : ColV w M H L v c) (hl : c.rs.length ≤ 1000) (hr : ∀ i (hi : i < c.rs.length), c.rs[i].length ≤ 1000) :
    Calls Tryd.prog 34 #[v] w fun e w' => ∃ u, e = .returned u ∧ Flos w' (New w.heap.size w'.heap.size) u (allFl c.rs c.rs.length) ∧ Up w w' := by
  obtain ⟨A, kk, rfl, h0, ⟨hlk, hkm⟩, hi0⟩ := h
  have H0 := Lib.hid h0
  have HR := Lib.hid hr
  have HAL := Lib.hid (allFl_len (colAt_len hr))
  have q1 := (show (w.alloc (.cells #[.int .i64 c.n, .slice A c.rs.length kk] 26)).cell? ⟨w.heap.size, 1, none⟩ = some (.slice A c.rs.length kk) from cell_new _ _ _ _)
  have q1 := Chg.cell (Chg.alloc (Chg.refl Nowhere (w.alloc (.cells #[.int .i64 c.n, .slice A c.rs.length kk] 26))) (.cells #[] 72)) q1 id
  clear h0 hr hi0
  go_enter Tryd.func34, Tryd.ntmps34
  go_wp2
  go_loopw [3, 4, 5, 6, 7, 8, 9, 14] (fun q _ _ _ _ _ _ i wr => ∃ t : Nat, t ≤ c.rs.length ∧ i = .int .i64 t ∧ Hid (OwnFlos wr (w.heap.size + 1) q (allFl c.rs t)) ∧ Hid (Up w wr)) (fun _ _ _ _ _ _ _ i _ => c.rs.length - (intOf i).toNat)
  case atStart => exact ⟨0, by omega, rfl, Lib.hid (by have h := OwnFlos.made (w.alloc (.cells #[.int .i64 c.n, .slice A c.rs.length kk] 26)) (w.heap.size + 1) (by simp); have e : allFl c.rs 0 = [] := rfl; rw [e]; simpa using h), Lib.hid (((Chg.refl _ _).alloc _).alloc _)⟩
  
  clear q1
  case round =>
    obtain ⟨t, ht, rfl, ho, hu⟩ := hrel
    have hal := HAL.out t
    by_cases htl : t < c.rs.length
    · obtain ⟨b, o, k1, vs, he, -, -, -, hE, hc⟩ := H0.out.at_ htl
      obtain ⟨rfl, rfl⟩ : A = some ⟨b, o, none⟩ ∧ kk = k1 := by simpa using he
      obtain ⟨A3, k3, rfl, hv, hk3, hk3m⟩ := hE
      have f0 := Chg.cell hu.out (hc 0 _ rfl).1 id
      simp only [Nat.mul_one, Nat.add_zero] at f0
      clear hc he
      obtain ⟨row, hrow⟩ : ∃ row, row = c.rs[t] := ⟨_, rfl⟩
      have hrl : row.length ≤ 1000 := by rw [hrow]; exact HR.out t htl
      rw [← hrow] at hv hk3 f0
      have HRW := Lib.hid (hrow.trans (colAt_eq htl).symm)
      have HV := Lib.hid hv
      clear hrow hv
      go_wp2
      go_loopw [3, 6, 7, 8, 9] (fun q n _ _ _ wx => ∃ m : Nat, m ≤ 4 ∧ n = .int .i64 ((m : Int) + 1) ∧ Hid (OwnFlos wx (w.heap.size + 1) q (allFl c.rs t ++ rowFl row t m)) ∧ Hid (Up w wx)) (fun _ n _ _ _ _ => 5 - (intOf n).toNat)
      case atStart => exact ⟨0, by omega, rfl, by rw [show rowFl row (t : Int) 0 = [] from rfl, List.append_nil]; exact ho, hu⟩
      clear ho hu f0
      case round =>
        obtain ⟨m, hm, rfl, ho, hu⟩ := hrel
        have hrfl := rowFl_len4 (t : Int) m hrl hm
        by_cases hml : m < 4
        · have hdm : decide ((m : Int) + 1 ≤ 4) = true := decide_eq_true (by omega)
          go_wp2
          go_loopw [3, 7, 8, 9, 25] (fun q l _ _ i wy => ∃ j : Nat, j ≤ row.length ∧ i = .int .i64 j ∧ l = .int .i64 (floTo row t ((m : Int) + 1) j).2 ∧ Hid (OwnFlos wy (w.heap.size + 1) q (allFl c.rs t ++ rowFl row t m ++ (floTo row t ((m : Int) + 1) j).1)) ∧ Hid (Up w wy)) (fun _ _ _ _ i _ => row.length - (intOf i).toNat)
          case atStart => exact ⟨0, by omega, rfl, rfl, by rw [show (floTo row (t : Int) ((m : Int) + 1) 0).1 = [] from rfl, List.append_nil]; exact ho, hu⟩
          clear ho hu
          case round =>
            obtain ⟨j, hj, rfl, rfl, ho, hu⟩ := hrel
            by_cases hlt : j < row.length
            · obtain ⟨b2, o2, rfl, -, hc⟩ := ints_ixf (HV.out.up hu.out) hlt
              have q0 := (hc j hlt).1
              rw [ix_eq hlt] at q0
              clear hc
              have hsz := hu.out.size
              obtain ⟨st, hst⟩ : ∃ st, st = floTo row (t : Int) ((m : Int) + 1) j := ⟨_, rfl⟩
              have hbd := floTo_ok row (t : Int) ((m : Int) + 1) j
              rw [← hst] at ho hbd ⊢
              obtain ⟨fs, last⟩ := st
              obtain ⟨-, hb1, hb2, hb3⟩ := hbd
              simp only [] at ho hb1 hb2 hb3 ⊢
              have HS := Lib.hid (floTo_row hlt (t : Int) ((m : Int) + 1))
              rw [← hst] at HS
              have HLF := Lib.hid hb3
              clear hst hb3
              by_cases hx : row[j] = ((m : Int) + 1)
              · skip
                have hxq : (row[j] != ((m : Int) + 1)) = false := by rw [hx]; simp
                have HX := Lib.hid hx
                clear hx
                by_cases hp : 0 ≤ last
                · have hpd : decide (last ≥ 0) = true := decide_eq_true hp
                  by_cases hg : last + 1 < (j : Int)
                  · have hgd : decide ((j : Int) - last > 1) = true := decide_eq_true (by omega)
                    have HE := Lib.hid (show floTo row (t : Int) ((m : Int) + 1) (j + 1) = (fs ++ [⟨(t : Int), ((m : Int) + 1), last, j⟩], (j : Int)) by rw [HS.out]; unfold floStep; rw [if_pos HX.out, if_pos ⟨hp, hg⟩])
                    go_wp2_with (at_builtin; refine wp_append1Flos rfl _ _ rfl (w.heap.size + 1) _ (allFl c.rs t ++ rowFl row t m ++ fs) rfl (ho.out.alloc _) _ ⟨t, (m : Int) + 1, last, j⟩ rfl (heap_alloc_new _ _) (by unfold FloM.ok I64; simp only []; omega) (by have := HLF.out; rw [List.length_append, List.length_append]; omega) (by simp; omega) ?_; intro v1 w1 h1 h2 h3; have HO := Lib.hid h1; have UA := Lib.hid (Chg.new (hu.out.alloc _) h3 (fun i hi => by omega)); clear h1 h2 h3)
                    go_roundw
                    case rel => exact ⟨j + 1, by omega, by go_num, by rw [HE.out], by rw [HE.out]; exact (by first | exact HO | (rw [← List.append_assoc]; exact HO)), UA.out⟩
                    case measure => first | (simp [intOf]; done) | (simp [intOf]; omega)
                  · have hgd : decide ((j : Int) - last > 1) = false := decide_eq_false (by omega)
                    have HE := Lib.hid (show floTo row (t : Int) ((m : Int) + 1) (j + 1) = (fs, (j : Int)) by rw [HS.out]; unfold floStep; rw [if_pos HX.out, if_neg (by omega)])
                    go_wp2_with fail
                    go_wp2
                    go_roundw
                    case rel => exact ⟨j + 1, by omega, by go_num, by rw [HE.out], by rw [HE.out]; exact Lib.hid (ho.out), hu.out⟩
                    case measure => first | (simp [intOf]; done) | (simp [intOf]; omega)
                · have hpd : decide (last ≥ 0) = false := decide_eq_false (by omega)
                  have HE := Lib.hid (show floTo row (t : Int) ((m : Int) + 1) (j + 1) = (fs, (j : Int)) by rw [HS.out]; unfold floStep; rw [if_pos HX.out, if_neg (by omega)])
                  go_wp2_with fail
                  go_wp2
                  go_roundw
                  case rel => exact ⟨j + 1, by omega, by go_num, by rw [HE.out], by rw [HE.out]; exact Lib.hid (ho.out), hu.out⟩
                  case measure => first | (simp [intOf]; done) | (simp [intOf]; omega)
              · have hxq : (row[j] != ((m : Int) + 1)) = true := by simpa using hx
                have HE := Lib.hid (show floTo row (t : Int) ((m : Int) + 1) (j + 1) = (fs, last) by rw [HS.out]; unfold floStep; rw [if_neg hx])
                clear hx
                go_wp2
                go_roundw
                case rel => exact ⟨j + 1, by omega, by go_num, by rw [HE.out], by rw [HE.out]; exact Lib.hid (ho.out), hu.out⟩
                case measure => first | (simp [intOf]; done) | (simp [intOf]; omega)
            · obtain rfl : j = row.length := by omega
              go_wp2
              go_roundw
              case rel => exact ⟨m + 1, by omega, by go_num, by rw [rowFl, ← List.append_assoc]; exact ho, hu⟩
              case measure => first | (simp [intOf]; done) | (simp [intOf]; omega)
        · obtain rfl : m = 4 := by omega
          go_wp2
          go_roundw
          case rel => exact ⟨t + 1, by omega, by go_num, by rw [allFl, ← HRW.out]; exact ho, hu⟩
          case measure => first | (simp [intOf]; done) | (simp [intOf]; omega)
    · obtain rfl : t = c.rs.length := by omega
      go_wp2
      go_ret
      exact ⟨_, rfl, ho.out.rd.mono (fun b _ h => ⟨by have := h.1; omega, h.2⟩), hu.out⟩
end Go.Proofs.YtgdcffbakjfacaaDoor
end
