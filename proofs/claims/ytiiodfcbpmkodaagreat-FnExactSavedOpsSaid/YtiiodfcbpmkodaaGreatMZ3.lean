/- RuleAt, IsOptimal, NextSaving on both sides. No condition but room. -/
import Derived.Test.YtiiodfcbpmkodaaGreatMZ2
set_option linter.unusedSimpArgs false
set_option linter.unusedVariables false
set_option maxRecDepth 100000
set_option maxHeartbeats 2000000
namespace Go.Proofs.YtiiodfcbpmkodaaGreat
open Go.ChangeShapes Go.WideShapes Go.ChangeAt Go.RowKit
attribute [local go_sem ↓] Go.wp_at_zero Go.wp_at_succ
def idxO (p : OpM → Bool) (xs : List OpM) : Int := match xs.findIdx? p with | some i => (i : Int) | none => -1
theorem idxO_none {p : OpM → Bool} {xs : List OpM} (h : ∀ i (hi : i < xs.length), p xs[i] = false) : idxO p xs = -1 := by
  unfold idxO
  have : xs.findIdx? p = none := List.findIdx?_eq_none_iff.2 fun x hx => by
    obtain ⟨i, hi, rfl⟩ := List.getElem_of_mem hx
    exact h i hi
  rw [this]
theorem idxO_at {p : OpM → Bool} {xs : List OpM} {j : Nat} (hj : j < xs.length) (h : p xs[j] = true) (hb : ∀ i (hi : i < xs.length), i < j → p xs[i] = false) : idxO p xs = j := by
  unfold idxO
  have : xs.findIdx? p = some j := List.findIdx?_eq_some_iff_getElem.2 ⟨hj, h, fun i hi => by rw [hb i (by omega) hi]; simp⟩
  rw [this]
theorem idxO_any (p : OpM → Bool) (xs : List OpM) : decide (idxO p xs ≥ 0) = xs.any p := by
  unfold idxO
  cases hf : xs.findIdx? p with
  | none =>
    have := List.findIdx?_eq_none_iff.1 hf
    have h2 : xs.any p = false := by rw [List.any_eq_false]; intro x hx; simp [this x hx]
    simp [h2]
  | some j =>
    obtain ⟨h1, h2, _⟩ := List.findIdx?_eq_some_iff_getElem.1 hf
    have h3 : xs.any p = true := List.any_eq_true.2 ⟨_, List.getElem_mem h1, h2⟩
    simp [h3]
theorem idxO_bd (p : OpM → Bool) (xs : List OpM) : -1 ≤ idxO p xs ∧ idxO p xs ≤ xs.length := by
  unfold idxO
  cases hf : xs.findIdx? p with
  | none => simp only []; omega
  | some j =>
    obtain ⟨h1, _⟩ := List.findIdx?_eq_some_iff_getElem.1 hf
    simp only []; omega
def badO (n : Int) (x : OpM) : Bool := !okOpB n x
theorem okOpsB_bad (n : Int) (xs : List OpM) : okOpsB n xs = (inB n 1 24 && (decide (xs.length ≤ 1500) && !xs.any (badO n))) := by
  unfold okOpsB
  have : xs.all (okOpB n) = !xs.any (badO n) := by
    rw [Bool.eq_iff_iff, List.all_eq_true, Bool.not_eq_true', List.any_eq_false]
    simp [badO]
  rw [this]
  cases xs.any (badO n) <;> cases inB n 1 24 <;> cases decide (xs.length ≤ 1500) <;> rfl
theorem vf1_a (w : World) (n : Int) (g : Nat) (hc : w.cell? ⟨g, 0, none⟩ = some (.int .i64 n)) (nk nd nfb nfa ntb nta nc nr : Int) (hv : validB ⟨nk, nd, nfb, nfa, ntb, nta, nc, nr⟩ = false) :
    Calls Tryz.prog 59 #[.agg #[.int .i64 nk, .int .i64 nd, .int .i64 nfb, .int .i64 nfa, .int .i64 ntb, .int .i64 nta, .int .i64 nc, .int .i64 nr], .pointer (some ⟨g, 0, none⟩)] w fun e w' => e = .returned (.bool true) ∧ Up w w' := by
  have c := hc
  have U := Lib.hid ((Chg.refl Nowhere w))
  replace c := Chg.cell ((Chg.refl Nowhere w).alloc (.cells #[.int .i64 nk, .int .i64 nd, .int .i64 nfb, .int .i64 nfa, .int .i64 ntb, .int .i64 nta, .int .i64 nc, .int .i64 nr] 44)) c id
  replace U := Lib.hid (Chg.trans U.out ((Chg.refl Nowhere w).alloc (.cells #[.int .i64 nk, .int .i64 nd, .int .i64 nfb, .int .i64 nfa, .int .i64 ntb, .int .i64 nta, .int .i64 nc, .int .i64 nr] 44)))
  obtain ⟨b0, b1, b2, b3', b4, b5', b6, b7⟩ := box8 w (.int .i64 nk) (.int .i64 nd) (.int .i64 nfb) (.int .i64 nfa) (.int .i64 ntb) (.int .i64 nta) (.int .i64 nc) (.int .i64 nr) 44
  have hbx13 : w.heap.size < (w.alloc (.cells #[.int .i64 nk, .int .i64 nd, .int .i64 nfb, .int .i64 nfa, .int .i64 ntb, .int .i64 nta, .int .i64 nc, .int .i64 nr] 44)).heap.size := by simp
  have b3' := b3'
  have b5' := b5'
  have HV := Lib.hid hv
  go_enter Tryz.func59, Tryz.ntmps59
  go_wp2_with fail
  refine (ValidOp_any _ ⟨nk, nd, nfb, nfa, ntb, nta, nc, nr⟩).mono ?_
  rintro e w14 ⟨rfl, g1⟩
  have G1 := Lib.hid g1
  have hz14 := G1.out.size
  clear g1
  replace c := Chg.cell (tt G1.out) c id
  replace U := Lib.hid (Chg.trans U.out (tt G1.out))
  have hh := cc3 (tt G1.out) b0 b1 b2
  clear b0 b1 b2
  obtain ⟨b0, b1, b2⟩ := hh
  replace b3' := Chg.cell (tt G1.out) b3' id
  replace b4 := Chg.cell (tt G1.out) b4 id
  replace b5' := Chg.cell (tt G1.out) b5' id
  replace b6 := Chg.cell (tt G1.out) b6 id
  replace b7 := Chg.cell (tt G1.out) b7 id
  clear G1
  rw [HV.out]
  go_wp2
  go_ret
  exact ⟨rfl, U.out⟩
theorem vf1_b (w : World) (n : Int) (g : Nat) (hc : w.cell? ⟨g, 0, none⟩ = some (.int .i64 n)) (nk nd nfb nfa ntb nta nc nr : Int) (hv : validB ⟨nk, nd, nfb, nfa, ntb, nta, nc, nr⟩ = true) (h1 : ¬ nfa < n) :
    Calls Tryz.prog 59 #[.agg #[.int .i64 nk, .int .i64 nd, .int .i64 nfb, .int .i64 nfa, .int .i64 ntb, .int .i64 nta, .int .i64 nc, .int .i64 nr], .pointer (some ⟨g, 0, none⟩)] w fun e w' => e = .returned (.bool true) ∧ Up w w' := by
  have c := hc
  have U := Lib.hid ((Chg.refl Nowhere w))
  replace c := Chg.cell ((Chg.refl Nowhere w).alloc (.cells #[.int .i64 nk, .int .i64 nd, .int .i64 nfb, .int .i64 nfa, .int .i64 ntb, .int .i64 nta, .int .i64 nc, .int .i64 nr] 44)) c id
  replace U := Lib.hid (Chg.trans U.out ((Chg.refl Nowhere w).alloc (.cells #[.int .i64 nk, .int .i64 nd, .int .i64 nfb, .int .i64 nfa, .int .i64 ntb, .int .i64 nta, .int .i64 nc, .int .i64 nr] 44)))
  obtain ⟨b0, b1, b2, b3', b4, b5', b6, b7⟩ := box8 w (.int .i64 nk) (.int .i64 nd) (.int .i64 nfb) (.int .i64 nfa) (.int .i64 ntb) (.int .i64 nta) (.int .i64 nc) (.int .i64 nr) 44
  have hbx13 : w.heap.size < (w.alloc (.cells #[.int .i64 nk, .int .i64 nd, .int .i64 nfb, .int .i64 nfa, .int .i64 ntb, .int .i64 nta, .int .i64 nc, .int .i64 nr] 44)).heap.size := by simp
  have t1 : decide (n ≤ nfa) = true := decide_eq_true (by omega)
  have b3' := b3'
  have b5' := b5'
  have HV := Lib.hid hv
  go_enter Tryz.func59, Tryz.ntmps59
  go_wp2_with fail
  refine (ValidOp_any _ ⟨nk, nd, nfb, nfa, ntb, nta, nc, nr⟩).mono ?_
  rintro e w14 ⟨rfl, g1⟩
  have G1 := Lib.hid g1
  have hz14 := G1.out.size
  clear g1
  replace c := Chg.cell (tt G1.out) c id
  replace U := Lib.hid (Chg.trans U.out (tt G1.out))
  have hh := cc3 (tt G1.out) b0 b1 b2
  clear b0 b1 b2
  obtain ⟨b0, b1, b2⟩ := hh
  replace b3' := Chg.cell (tt G1.out) b3' id
  replace b4 := Chg.cell (tt G1.out) b4 id
  replace b5' := Chg.cell (tt G1.out) b5' id
  replace b6 := Chg.cell (tt G1.out) b6 id
  replace b7 := Chg.cell (tt G1.out) b7 id
  clear G1
  rw [HV.out]
  go_wp2
  go_ret
  exact ⟨rfl, U.out⟩
theorem vf1_c (w : World) (n : Int) (g : Nat) (hc : w.cell? ⟨g, 0, none⟩ = some (.int .i64 n)) (nk nd nfb nfa ntb nta nc nr : Int) (hv : validB ⟨nk, nd, nfb, nfa, ntb, nta, nc, nr⟩ = true) (h1 : nfa < n) (h2 : ¬ nta < n) :
    Calls Tryz.prog 59 #[.agg #[.int .i64 nk, .int .i64 nd, .int .i64 nfb, .int .i64 nfa, .int .i64 ntb, .int .i64 nta, .int .i64 nc, .int .i64 nr], .pointer (some ⟨g, 0, none⟩)] w fun e w' => e = .returned (.bool true) ∧ Up w w' := by
  have c := hc
  have U := Lib.hid ((Chg.refl Nowhere w))
  replace c := Chg.cell ((Chg.refl Nowhere w).alloc (.cells #[.int .i64 nk, .int .i64 nd, .int .i64 nfb, .int .i64 nfa, .int .i64 ntb, .int .i64 nta, .int .i64 nc, .int .i64 nr] 44)) c id
  replace U := Lib.hid (Chg.trans U.out ((Chg.refl Nowhere w).alloc (.cells #[.int .i64 nk, .int .i64 nd, .int .i64 nfb, .int .i64 nfa, .int .i64 ntb, .int .i64 nta, .int .i64 nc, .int .i64 nr] 44)))
  obtain ⟨b0, b1, b2, b3', b4, b5', b6, b7⟩ := box8 w (.int .i64 nk) (.int .i64 nd) (.int .i64 nfb) (.int .i64 nfa) (.int .i64 ntb) (.int .i64 nta) (.int .i64 nc) (.int .i64 nr) 44
  have hbx13 : w.heap.size < (w.alloc (.cells #[.int .i64 nk, .int .i64 nd, .int .i64 nfb, .int .i64 nfa, .int .i64 ntb, .int .i64 nta, .int .i64 nc, .int .i64 nr] 44)).heap.size := by simp
  have t1 : decide (n ≤ nfa) = false := decide_eq_false (by omega)
  have t2 : decide (n ≤ nta) = true := decide_eq_true (by omega)
  have b3' := b3'
  have b5' := b5'
  have HV := Lib.hid hv
  go_enter Tryz.func59, Tryz.ntmps59
  go_wp2_with fail
  refine (ValidOp_any _ ⟨nk, nd, nfb, nfa, ntb, nta, nc, nr⟩).mono ?_
  rintro e w14 ⟨rfl, g1⟩
  have G1 := Lib.hid g1
  have hz14 := G1.out.size
  clear g1
  replace c := Chg.cell (tt G1.out) c id
  replace U := Lib.hid (Chg.trans U.out (tt G1.out))
  have hh := cc3 (tt G1.out) b0 b1 b2
  clear b0 b1 b2
  obtain ⟨b0, b1, b2⟩ := hh
  replace b3' := Chg.cell (tt G1.out) b3' id
  replace b4 := Chg.cell (tt G1.out) b4 id
  replace b5' := Chg.cell (tt G1.out) b5' id
  replace b6 := Chg.cell (tt G1.out) b6 id
  replace b7 := Chg.cell (tt G1.out) b7 id
  clear G1
  rw [HV.out]
  go_wp2
  go_ret
  exact ⟨rfl, U.out⟩
theorem vf1_d (w : World) (n : Int) (g : Nat) (hc : w.cell? ⟨g, 0, none⟩ = some (.int .i64 n)) (nk nd nfb nfa ntb nta nc nr : Int) (hv : validB ⟨nk, nd, nfb, nfa, ntb, nta, nc, nr⟩ = true) (h1 : nfa < n) (h2 : nta < n) :
    Calls Tryz.prog 59 #[.agg #[.int .i64 nk, .int .i64 nd, .int .i64 nfb, .int .i64 nfa, .int .i64 ntb, .int .i64 nta, .int .i64 nc, .int .i64 nr], .pointer (some ⟨g, 0, none⟩)] w fun e w' => e = .returned (.bool false) ∧ Up w w' := by
  have c := hc
  have U := Lib.hid ((Chg.refl Nowhere w))
  replace c := Chg.cell ((Chg.refl Nowhere w).alloc (.cells #[.int .i64 nk, .int .i64 nd, .int .i64 nfb, .int .i64 nfa, .int .i64 ntb, .int .i64 nta, .int .i64 nc, .int .i64 nr] 44)) c id
  replace U := Lib.hid (Chg.trans U.out ((Chg.refl Nowhere w).alloc (.cells #[.int .i64 nk, .int .i64 nd, .int .i64 nfb, .int .i64 nfa, .int .i64 ntb, .int .i64 nta, .int .i64 nc, .int .i64 nr] 44)))
  obtain ⟨b0, b1, b2, b3', b4, b5', b6, b7⟩ := box8 w (.int .i64 nk) (.int .i64 nd) (.int .i64 nfb) (.int .i64 nfa) (.int .i64 ntb) (.int .i64 nta) (.int .i64 nc) (.int .i64 nr) 44
  have hbx13 : w.heap.size < (w.alloc (.cells #[.int .i64 nk, .int .i64 nd, .int .i64 nfb, .int .i64 nfa, .int .i64 ntb, .int .i64 nta, .int .i64 nc, .int .i64 nr] 44)).heap.size := by simp
  have t1 : decide (n ≤ nfa) = false := decide_eq_false (by omega)
  have t2 : decide (n ≤ nta) = false := decide_eq_false (by omega)
  have b3' := b3'
  have b5' := b5'
  have HV := Lib.hid hv
  go_enter Tryz.func59, Tryz.ntmps59
  go_wp2_with fail
  refine (ValidOp_any _ ⟨nk, nd, nfb, nfa, ntb, nta, nc, nr⟩).mono ?_
  rintro e w14 ⟨rfl, g1⟩
  have G1 := Lib.hid g1
  have hz14 := G1.out.size
  clear g1
  replace c := Chg.cell (tt G1.out) c id
  replace U := Lib.hid (Chg.trans U.out (tt G1.out))
  have hh := cc3 (tt G1.out) b0 b1 b2
  clear b0 b1 b2
  obtain ⟨b0, b1, b2⟩ := hh
  replace b3' := Chg.cell (tt G1.out) b3' id
  replace b4 := Chg.cell (tt G1.out) b4 id
  replace b5' := Chg.cell (tt G1.out) b5' id
  replace b6 := Chg.cell (tt G1.out) b6 id
  replace b7 := Chg.cell (tt G1.out) b7 id
  clear G1
  rw [HV.out]
  go_wp2
  go_ret
  exact ⟨rfl, U.out⟩
theorem vf1_any (w : World) (n : Int) (g : Nat) (hc : w.cell? ⟨g, 0, none⟩ = some (.int .i64 n)) (x : OpM) {v : Bool} (hv : badO n x = v) :
    Calls Tryz.prog 59 #[x.val, .pointer (some ⟨g, 0, none⟩)] w fun e w' => e = .returned (.bool v) ∧ Up w w' := by
  subst hv
  obtain ⟨nk, nd, nfb, nfa, ntb, nta, nc, nr⟩ := x
  unfold badO okOpB
  cases hv : validB ⟨nk, nd, nfb, nfa, ntb, nta, nc, nr⟩ with
  | false => exact vf1_a w n g hc nk nd nfb nfa ntb nta nc nr hv
  | true =>
    dsimp only
    by_cases h1 : nfa < n
    · by_cases h2 : nta < n
      · rw [decide_eq_true h1, decide_eq_true h2]; exact vf1_d w n g hc nk nd nfb nfa ntb nta nc nr hv h1 h2
      · rw [decide_eq_true h1, decide_eq_false h2]; exact vf1_c w n g hc nk nd nfb nfa ntb nta nc nr hv h1 h2
    · rw [decide_eq_false h1]; exact vf1_b w n g hc nk nd nfb nfa ntb nta nc nr hv h1
theorem vfIdx_any (w : World) (S : Nat → Prop) (v : Value) (xs : List OpM) (h : Ops w S v xs) (n : Int) (g : Nat) (hc : w.cell? ⟨g, 0, none⟩ = some (.int .i64 n)) :
    Calls Tryz.prog 72 #[v, .func (.func 59) #[] #[.pointer (some ⟨g, 0, none⟩)]] w fun e w' => e = .returned (.int .i64 (idxO (badO n) xs)) ∧ Up w w' := by
  obtain ⟨A, c, rfl, hlc, hcm, -⟩ := h.1.shape
  have H := Lib.hid h
  clear h
  go_enter Tryz.func72, Tryz.ntmps72
  go_wp2
  go_loopw [5, 8] (fun _ i wr => ∃ j : Nat, j ≤ xs.length ∧ i = .int .i64 j ∧ Hid (∀ i (hi : i < xs.length), i < j → badO n xs[i] = false) ∧ Hid (Up w wr)) (fun _ i _ => xs.length - (intOf i).toNat)
  case atStart => exact ⟨0, by omega, rfl, fun i hi h => by omega, Chg.refl _ _⟩
  case round =>
    obtain ⟨j, hj, rfl, hp, hg⟩ := hrel
    by_cases hlt : j < xs.length
    rotate_left
    · have HB := Lib.hid (idxO_none (p := badO n) (xs := xs) (fun i hi => hp.out i hi (by omega)))
      go_wp2
      go_ret
      exact ⟨ret_int HB.out.symm, hg.out⟩
    obtain ⟨b, o, c', he, hS, hat⟩ := (Ops.up H.out hg.out).opAt hlt
    obtain ⟨rfl, rfl⟩ : A = some ⟨b, o, none⟩ ∧ c = c' := by simpa using he
    have hop := hat.opC
    have hcg := Chg.cell hg.out hc id
    clear hat he
    cases hk : badO n xs[j] with
    | true =>
      have HB := Lib.hid (idxO_at hlt hk hp.out)
      generalize hxy : xs[j] = y at hop hk
      obtain ⟨nk, nd, nfb, nfa, ntb, nta, nc, nr⟩ := y
      have e0 := hop.c0
      have e1 := hop.c1
      have e2 := hop.c2
      have e3 := hop.c3
      have e4 := hop.c4
      have e5 := hop.c5
      have e6 := hop.c6
      have e7 := hop.c7
      dsimp only at e0 e1 e2 e3 e4 e5 e6 e7
      clear hop hxy
      have HK := Lib.hid hk
      have HCG := Lib.hid hcg
      clear hk hcg
      go_wp2_with fail
      refine (vf1_any _ n g HCG.out ⟨nk, nd, nfb, nfa, ntb, nta, nc, nr⟩ HK.out).mono ?_
      rintro e w2 ⟨rfl, g2⟩
      have G2 := Lib.hid (Chg.trans hg.out g2 : Up w w2)
      clear g2 e0 e1 e2 e3 e4 e5 e6 e7
      go_wp2
      go_ret
      exact ⟨ret_int HB.out.symm, G2.out⟩
    | false =>
      have HK2 := Lib.hid hk
      generalize hxy : xs[j] = y at hop hk
      obtain ⟨nk, nd, nfb, nfa, ntb, nta, nc, nr⟩ := y
      have e0 := hop.c0
      have e1 := hop.c1
      have e2 := hop.c2
      have e3 := hop.c3
      have e4 := hop.c4
      have e5 := hop.c5
      have e6 := hop.c6
      have e7 := hop.c7
      dsimp only at e0 e1 e2 e3 e4 e5 e6 e7
      clear hop hxy
      have HK := Lib.hid hk
      have HCG := Lib.hid hcg
      clear hk hcg
      go_wp2_with fail
      refine (vf1_any _ n g HCG.out ⟨nk, nd, nfb, nfa, ntb, nta, nc, nr⟩ HK.out).mono ?_
      rintro e w2 ⟨rfl, g2⟩
      have G2 := Lib.hid (Chg.trans hg.out g2 : Up w w2)
      clear g2 e0 e1 e2 e3 e4 e5 e6 e7
      go_wp2
      go_roundw
      case rel => exact ⟨j + 1, by omega, by go_num, fun i hi h => by
        by_cases e : i = j
        · subst e; exact HK2.out
        · exact hp.out i hi (by omega), G2.out⟩
      case measure => first | (simp [intOf]; done) | (simp [intOf]; omega)
theorem vfHas_any (w : World) (S : Nat → Prop) (v : Value) (xs : List OpM) (h : Ops w S v xs) (n : Int) (g : Nat) (hc : w.cell? ⟨g, 0, none⟩ = some (.int .i64 n)) {b : Bool} (hb0 : xs.any (badO n) = b) :
    Calls Tryz.prog 58 #[v, .func (.func 59) #[] #[.pointer (some ⟨g, 0, none⟩)]] w fun e w' => e = .returned (.bool b) ∧ Up w w' := by
  subst hb0
  obtain ⟨A, c, rfl, hlc, hcm, -⟩ := h.1.shape
  have H := Lib.hid h
  have HA := Lib.hid (idxO_any (badO n) xs)
  have hb := idxO_bd (badO n) xs
  have HC := Lib.hid hc
  clear h hc
  go_enter Tryz.func58, Tryz.ntmps58
  go_wp2_with fail
  refine (vfIdx_any _ S _ xs H.out n g HC.out).mono ?_
  rintro e w' ⟨rfl, g1⟩
  have G1 := Lib.hid g1
  clear g1
  go_wp2
  go_ret
  exact ⟨ret_bool (by rw [← HA.out]), G1.out⟩
theorem vf_a (w : World) (S : Nat → Prop) (v : Value) (xs : List OpM) (h : Ops w S v xs) (n : Int) (h1 : inB n 1 24 = false) :
    Calls Tryz.prog 40 #[.int .i64 n, v] w fun e w' => e = .returned (.bool false) ∧ Up w w' := by
  obtain ⟨A, c, rfl, hlc, hcm, -⟩ := h.1.shape
  have H := Lib.hid (Ops.up h ((Chg.refl Nowhere w).alloc _) : Ops (w.alloc (.cells #[.int .i64 n] 2)) S (.slice A xs.length c) xs)
  have HC := Lib.hid (cell_new w #[.int .i64 n] 2 0 : (w.alloc (.cells #[.int .i64 n] 2)).cell? ⟨w.heap.size, 0, none⟩ = some (.int .i64 n))
  have G0 := Lib.hid ((Chg.refl Nowhere w).alloc _ : Up w (w.alloc (.cells #[.int .i64 n] 2)))
  clear h
  have HW := Lib.hid h1
  go_enter Tryz.func40, Tryz.ntmps40
  go_wp2_with fail
  refine (within_any _ _ _ _).mono ?_
  rintro e w' ⟨rfl, rfl⟩
  rw [HW.out]
  go_wp2
  go_ret
  exact ⟨rfl, G0.out⟩
theorem vf_b (w : World) (S : Nat → Prop) (v : Value) (xs : List OpM) (h : Ops w S v xs) (n : Int) (h1 : inB n 1 24 = true) (h2 : ¬ xs.length ≤ 1500) :
    Calls Tryz.prog 40 #[.int .i64 n, v] w fun e w' => e = .returned (.bool false) ∧ Up w w' := by
  obtain ⟨A, c, rfl, hlc, hcm, -⟩ := h.1.shape
  have H := Lib.hid (Ops.up h ((Chg.refl Nowhere w).alloc _) : Ops (w.alloc (.cells #[.int .i64 n] 2)) S (.slice A xs.length c) xs)
  have HC := Lib.hid (cell_new w #[.int .i64 n] 2 0 : (w.alloc (.cells #[.int .i64 n] 2)).cell? ⟨w.heap.size, 0, none⟩ = some (.int .i64 n))
  have G0 := Lib.hid ((Chg.refl Nowhere w).alloc _ : Up w (w.alloc (.cells #[.int .i64 n] 2)))
  clear h
  have HW := Lib.hid h1
  have t1 : decide ((xs.length : Int) ≤ 1500) = false := decide_eq_false (by omega)
  go_enter Tryz.func40, Tryz.ntmps40
  go_wp2_with fail
  refine (within_any _ _ _ _).mono ?_
  rintro e w' ⟨rfl, rfl⟩
  rw [HW.out]
  go_wp2
  go_ret
  exact ⟨rfl, G0.out⟩
theorem vf_c (w : World) (S : Nat → Prop) (v : Value) (xs : List OpM) (h : Ops w S v xs) (n : Int) (h1 : inB n 1 24 = true) (h2 : xs.length ≤ 1500) (h3 : xs.any (badO n) = true) :
    Calls Tryz.prog 40 #[.int .i64 n, v] w fun e w' => e = .returned (.bool false) ∧ Up w w' := by
  obtain ⟨A, c, rfl, hlc, hcm, -⟩ := h.1.shape
  have H := Lib.hid (Ops.up h ((Chg.refl Nowhere w).alloc _) : Ops (w.alloc (.cells #[.int .i64 n] 2)) S (.slice A xs.length c) xs)
  have HC := Lib.hid (cell_new w #[.int .i64 n] 2 0 : (w.alloc (.cells #[.int .i64 n] 2)).cell? ⟨w.heap.size, 0, none⟩ = some (.int .i64 n))
  have G0 := Lib.hid ((Chg.refl Nowhere w).alloc _ : Up w (w.alloc (.cells #[.int .i64 n] 2)))
  clear h
  have HW := Lib.hid h1
  have H3 := Lib.hid h3
  clear h3
  have t1 : decide ((xs.length : Int) ≤ 1500) = true := decide_eq_true (by omega)
  go_enter Tryz.func40, Tryz.ntmps40
  go_wp2_with fail
  refine (within_any _ _ _ _).mono ?_
  rintro e w' ⟨rfl, rfl⟩
  rw [HW.out]
  go_wp2_with fail
  refine (vfHas_any _ S _ xs H.out n _ HC.out H3.out).mono ?_
  rintro e w2 ⟨rfl, g2⟩
  have G2 := Lib.hid (Chg.trans G0.out g2)
  clear g2
  go_wp2
  go_ret
  exact ⟨rfl, G2.out⟩
theorem vf_d (w : World) (S : Nat → Prop) (v : Value) (xs : List OpM) (h : Ops w S v xs) (n : Int) (h1 : inB n 1 24 = true) (h2 : xs.length ≤ 1500) (h3 : xs.any (badO n) = false) :
    Calls Tryz.prog 40 #[.int .i64 n, v] w fun e w' => e = .returned (.bool true) ∧ Up w w' := by
  obtain ⟨A, c, rfl, hlc, hcm, -⟩ := h.1.shape
  have H := Lib.hid (Ops.up h ((Chg.refl Nowhere w).alloc _) : Ops (w.alloc (.cells #[.int .i64 n] 2)) S (.slice A xs.length c) xs)
  have HC := Lib.hid (cell_new w #[.int .i64 n] 2 0 : (w.alloc (.cells #[.int .i64 n] 2)).cell? ⟨w.heap.size, 0, none⟩ = some (.int .i64 n))
  have G0 := Lib.hid ((Chg.refl Nowhere w).alloc _ : Up w (w.alloc (.cells #[.int .i64 n] 2)))
  clear h
  have HW := Lib.hid h1
  have H3 := Lib.hid h3
  clear h3
  have t1 : decide ((xs.length : Int) ≤ 1500) = true := decide_eq_true (by omega)
  go_enter Tryz.func40, Tryz.ntmps40
  go_wp2_with fail
  refine (within_any _ _ _ _).mono ?_
  rintro e w' ⟨rfl, rfl⟩
  rw [HW.out]
  go_wp2_with fail
  refine (vfHas_any _ S _ xs H.out n _ HC.out H3.out).mono ?_
  rintro e w2 ⟨rfl, g2⟩
  have G2 := Lib.hid (Chg.trans G0.out g2)
  clear g2
  go_wp2
  go_ret
  exact ⟨rfl, G2.out⟩
theorem validFor_any (w : World) (S : Nat → Prop) (v : Value) (xs : List OpM) (h : Ops w S v xs) (n : Int) {b : Bool} (hb : okOpsB n xs = b) :
    Calls Tryz.prog 40 #[.int .i64 n, v] w fun e w' => e = .returned (.bool b) ∧ Up w w' := by
  subst hb
  rw [okOpsB_bad]
  cases h1 : inB n 1 24 with
  | false => exact vf_a w S v xs h n h1
  | true =>
    by_cases h2 : xs.length ≤ 1500
    · rw [decide_eq_true h2]
      cases h3 : xs.any (badO n) with
      | true => exact vf_c w S v xs h n h1 h2 h3
      | false => exact vf_d w S v xs h n h1 h2 h3
    · rw [decide_eq_false h2]
      exact vf_b w S v xs h n h1 h2
end Go.Proofs.YtiiodfcbpmkodaaGreat
namespace Go.Proofs.YtiiodfcbpmkodaaGreat
open Go.ChangeShapes Go.WideShapes Go.ChangeAt Go.RowKit
attribute [local go_sem ↓] Go.wp_at_zero Go.wp_at_succ
/-- a machine's struct as a value, whatever it holds -/
def MachAny (v : Value) : Prop := ∃ (a b : Int) (A1 A2 A3 A4 A5 : Option Addr) (n1 n2 n3 n4 n5 c1 c2 c3 c4 c5 : Nat), v = .agg #[.int .i64 a, .int .i64 b, .slice A1 n1 c1, .slice A2 n2 c2, .slice A3 n3 c3, .slice A4 n4 c4, .slice A5 n5 c5]
theorem MachX.shapes {w : World} {S : Nat → Prop} {K p : Nat} {m : MachM} {F B C L D : Value} {fs bs : List Value} (h : MachX w S K p m F B C L D fs bs) : (∃ A n c, F = .slice A n c) ∧ (∃ A n c, B = .slice A n c) ∧ (∃ A n c, C = .slice A n c) ∧ (∃ A n c, L = .slice A n c) ∧ (∃ A n c, D = .slice A n c) := by
  obtain ⟨A1, d1, h1, -⟩ := ownsRow_shape h.f
  obtain ⟨A2, d2, h2, -⟩ := ownsRow_shape h.b
  obtain ⟨A3, d3, h3, -⟩ := ownsRow_shape h.c
  obtain ⟨_, hl⟩ := h.l
  obtain ⟨A4, d4, h4, -⟩ := ownsRow_shape hl
  obtain ⟨_, hd, _⟩ := h.d
  obtain ⟨A5, d5, h5, -⟩ := ownsRow_shape hd.1
  exact ⟨⟨_, _, _, h1⟩, ⟨_, _, _, h2⟩, ⟨_, _, _, h3⟩, ⟨_, _, _, h4⟩, ⟨_, _, _, h5⟩⟩
theorem run_any (w : World) (S : Nat → Prop) (v : Value) (xs : List OpM) (h : Ops w S v xs) (n : Int) (hok : okOpsB n xs = true) :
    Calls Tryz.prog 53 #[.int .i64 n, v] w fun e w' => ∃ (u : Value) (c : Int), e = .returned (.tuple #[u, .int .i64 c, .int .i64 (runM (newM n) xs)]) ∧ MachAny u ∧ Up w w' := by
  obtain ⟨A, c, rfl, hlc, hcm, -⟩ := h.1.shape
  have H := Lib.hid h
  clear h
  obtain ⟨hall, hn, hlen⟩ := okOpsB_of hok
  obtain ⟨nn, rfl⟩ : ∃ nn : Nat, n = nn := ⟨n.toNat, by omega⟩
  have HAL := Lib.hid hall
  have HI0 := Lib.hid (newM_inv hn)
  clear hall hok
  go_enter Tryz.func53, Tryz.ntmps53
  go_wp2_with fail
  refine (newMachine_any _ nn ⟨by omega, by omega⟩).mono ?_
  rintro e w2 ⟨F, B, C, rfl, mv, g2⟩
  obtain ⟨⟨A1, d1, rfl⟩, ⟨A2, d2, rfl⟩, ⟨A3, d3, rfl⟩⟩ := machV_shape mv
  have MV := Lib.hid mv
  have G2 := Lib.hid g2
  have hz2 : w.heap.size + 1 ≤ w2.heap.size := by have := g2.size; simpa using this
  clear mv g2
  unfold machVal
  go_wp2
  go_loopw [15] (fun i wr => ∃ j : Nat, j ≤ xs.length ∧ i = .int .i64 j ∧ Hid (Mach wr (fun b => w.heap.size + 1 ≤ b) (4 * j) w2.heap.size (stM (newM nn) xs j)) ∧ Hid (Up (w.alloc (.cells #[.int .i64 0, .int .i64 0, .slice none 0 0, .slice none 0 0, .slice none 0 0, .slice none 0 0, .slice none 0 0] 60)) wr) ∧ Hid (okTo (newM nn) xs j) ∧ w.heap.size + 1 ≤ wr.heap.size) (fun i _ => xs.length - (intOf i).toNat)
  case atStart =>
    have hx := ((MV.out.mono (T := (fun b => w.heap.size + 1 ≤ b)) (fun b _ h => by have h : (w.alloc _).heap.size < b := h; simp at h; show w.heap.size + 1 ≤ b; omega)).box (fun b hb => by show w.heap.size + 1 ≤ b; omega) 60)
    simp only [List.length_replicate] at hx
    refine ⟨0, by omega, rfl, by rw [stM_zero]; exact hx.mach, G2.out.alloc _, okTo_zero _ _, by simp; omega⟩
  case round =>
    obtain ⟨j, hj, rfl, HM, HU, hk, hzr⟩ := hrel
    have hN : NewIn (fun b => w.heap.size + 1 ≤ b) wr := fun b hb => by show w.heap.size + 1 ≤ b; omega
    by_cases hlt : j < xs.length
    rotate_left
    · obtain rfl : j = xs.length := by omega
      have HRC := Lib.hid (run_good _ _ hk.out)
      obtain ⟨F1, B1, C1, L1, D1, fs1, bs1, hx1⟩ := HM.out
      obtain ⟨⟨E1, m1, k1, rfl⟩, ⟨E2, m2, k2, rfl⟩, ⟨E3, m3, k3, rfl⟩, ⟨E4, m4, k4, rfl⟩, ⟨E5, m5, k5, rfl⟩⟩ := hx1.shapes
      have r0 := hx1.c0.1
      have r1 := hx1.c1.1
      have r2 := hx1.c2.1
      have r3 := hx1.c3.1
      have r4 := hx1.c4.1
      have r5 := hx1.c5.1
      have r6 := hx1.c6.1
      generalize MachM.wd _ = ma at r0
      generalize MachM.rack _ = mb at r1
      have z0 : wr.cell? ⟨w.heap.size, 0, none⟩ = some (.int .i64 0) := Chg.cell HU.out (cell_new _ _ _ _) id
      have y0 : wr.frozen? ⟨w.heap.size, 0, none⟩ = false := (Chg.frozen HU.out (show (w.alloc (.cells #[.int .i64 0, .int .i64 0, .slice none 0 0, .slice none 0 0, .slice none 0 0, .slice none 0 0, .slice none 0 0] 60)).cell? ⟨w.heap.size, 0, none⟩ = some (.int .i64 0) from cell_new _ _ _ _) id).trans (frozen_new _ _ _ _)
      have z1 : wr.cell? ⟨w.heap.size, 1, none⟩ = some (.int .i64 0) := Chg.cell HU.out (cell_new _ _ _ _) id
      have y1 : wr.frozen? ⟨w.heap.size, 1, none⟩ = false := (Chg.frozen HU.out (show (w.alloc (.cells #[.int .i64 0, .int .i64 0, .slice none 0 0, .slice none 0 0, .slice none 0 0, .slice none 0 0, .slice none 0 0] 60)).cell? ⟨w.heap.size, 1, none⟩ = some (.int .i64 0) from cell_new _ _ _ _) id).trans (frozen_new _ _ _ _)
      have z2 : wr.cell? ⟨w.heap.size, 2, none⟩ = some (.slice none 0 0) := Chg.cell HU.out (cell_new _ _ _ _) id
      have y2 : wr.frozen? ⟨w.heap.size, 2, none⟩ = false := (Chg.frozen HU.out (show (w.alloc (.cells #[.int .i64 0, .int .i64 0, .slice none 0 0, .slice none 0 0, .slice none 0 0, .slice none 0 0, .slice none 0 0] 60)).cell? ⟨w.heap.size, 2, none⟩ = some (.slice none 0 0) from cell_new _ _ _ _) id).trans (frozen_new _ _ _ _)
      have z3 : wr.cell? ⟨w.heap.size, 3, none⟩ = some (.slice none 0 0) := Chg.cell HU.out (cell_new _ _ _ _) id
      have y3 : wr.frozen? ⟨w.heap.size, 3, none⟩ = false := (Chg.frozen HU.out (show (w.alloc (.cells #[.int .i64 0, .int .i64 0, .slice none 0 0, .slice none 0 0, .slice none 0 0, .slice none 0 0, .slice none 0 0] 60)).cell? ⟨w.heap.size, 3, none⟩ = some (.slice none 0 0) from cell_new _ _ _ _) id).trans (frozen_new _ _ _ _)
      have z4 : wr.cell? ⟨w.heap.size, 4, none⟩ = some (.slice none 0 0) := Chg.cell HU.out (cell_new _ _ _ _) id
      have y4 : wr.frozen? ⟨w.heap.size, 4, none⟩ = false := (Chg.frozen HU.out (show (w.alloc (.cells #[.int .i64 0, .int .i64 0, .slice none 0 0, .slice none 0 0, .slice none 0 0, .slice none 0 0, .slice none 0 0] 60)).cell? ⟨w.heap.size, 4, none⟩ = some (.slice none 0 0) from cell_new _ _ _ _) id).trans (frozen_new _ _ _ _)
      have z5 : wr.cell? ⟨w.heap.size, 5, none⟩ = some (.slice none 0 0) := Chg.cell HU.out (cell_new _ _ _ _) id
      have y5 : wr.frozen? ⟨w.heap.size, 5, none⟩ = false := (Chg.frozen HU.out (show (w.alloc (.cells #[.int .i64 0, .int .i64 0, .slice none 0 0, .slice none 0 0, .slice none 0 0, .slice none 0 0, .slice none 0 0] 60)).cell? ⟨w.heap.size, 5, none⟩ = some (.slice none 0 0) from cell_new _ _ _ _) id).trans (frozen_new _ _ _ _)
      have z6 : wr.cell? ⟨w.heap.size, 6, none⟩ = some (.slice none 0 0) := Chg.cell HU.out (cell_new _ _ _ _) id
      have y6 : wr.frozen? ⟨w.heap.size, 6, none⟩ = false := (Chg.frozen HU.out (show (w.alloc (.cells #[.int .i64 0, .int .i64 0, .slice none 0 0, .slice none 0 0, .slice none 0 0, .slice none 0 0, .slice none 0 0] 60)).cell? ⟨w.heap.size, 6, none⟩ = some (.slice none 0 0) from cell_new _ _ _ _) id).trans (frozen_new _ _ _ _)
      clear hx1
      clear hN hlt hj hn hlen hzr hz2 HM MV G2 HAL HI0 hk
      go_wp2
      exact bodyPost_ret (v := .tuple #[.agg #[.int .i64 ma, .int .i64 mb, .slice E1 m1 k1, .slice E2 m2 k2, .slice E3 m3 k3, .slice E4 m4 k4, .slice E5 m5 k5], .int .i64 xs.length, .int .i64 0]) (by simp [results, Tryz.results53, go_sem, z0, z1, z2, z3, z4, z5, z6]) rfl ⟨_, _, by rw [HRC.out], ⟨ma, mb, E1, E2, E3, E4, E5, m1, m2, m3, m4, m5, k1, k2, k3, k4, k5, rfl⟩, Chg.new (Chg.trans ((Chg.refl _ _).alloc _) HU.out) (((((((((Chg.refl (fun b => b = w.heap.size) wr).setCell (.inl rfl) _).setCell (.inl rfl) _).setCell (.inl rfl) _).setCell (.inl rfl) _).setCell (.inl rfl) _).setCell (.inl rfl) _).setCell (.inl rfl) _)) (fun i hi hd => by omega)⟩
    have hzu : w.heap.size ≤ wr.heap.size := by omega
    have HUw := Lib.hid (Chg.trans ((Chg.refl Nowhere w).alloc (.cells #[.int .i64 0, .int .i64 0, .slice none 0 0, .slice none 0 0, .slice none 0 0, .slice none 0 0, .slice none 0 0] 60)) HU.out : Up w wr)
    obtain ⟨b, o, c', he, hS, hat⟩ := (Ops.up H.out HUw.out).opAt hlt
    obtain ⟨rfl, rfl⟩ : A = some ⟨b, o, none⟩ ∧ c = c' := by simpa using he
    have hop := hat.opC
    clear hat he
    have HX : Hid (okOp nn xs[j]) := Lib.hid (HAL.out _ (List.getElem_mem hlt))
    have HGD : Hid (xs.getD j opZ = xs[j]) := Lib.hid (by rw [List.getD_eq_getElem?_getD, List.getElem?_eq_getElem hlt]; rfl)
    have HIj : Hid (MInv (stM (newM nn) xs j)) := Lib.hid (HI0.out.st (by exact HAL.out) j (by omega) hk.out)
    have HWD : Hid ((stM (newM nn) xs j).wd = nn) := Lib.hid (stM_wd _ _ _)
    have HSC := Lib.hid (stM_succ (newM nn) xs j hlt)
    have HRB := Lib.hid (run_bad (newM nn) xs j hlt hk.out)
    have HOS := Lib.hid (fun h => okTo_succ (i := j) hk.out h)
    rw [HGD.out] at HSC HRB HOS
    generalize xs[j] = y at hop HX HSC HRB HOS HGD
    obtain ⟨nk, nd, nfb, nfa, ntb, nta, nc, nr⟩ := y
    have e0 := hop.c0
    have e1 := hop.c1
    have e2 := hop.c2
    have e3 := hop.c3
    have e4 := hop.c4
    have e5 := hop.c5
    have e6 := hop.c6
    have e7 := hop.c7
    dsimp only at e0 e1 e2 e3 e4 e5 e6 e7
    clear hop
    have hxw : okOp (stM (newM nn) xs j).wd ⟨nk, nd, nfb, nfa, ntb, nta, nc, nr⟩ := by rw [HWD.out]; exact HX.out
    have HMY := Lib.hid (HM.out.up ((Chg.refl Nowhere wr).alloc (.cells #[.int .i64 nk, .int .i64 nd, .int .i64 nfb, .int .i64 nfa, .int .i64 ntb, .int .i64 nta, .int .i64 nc, .int .i64 nr] 44)))
    have hNY : NewIn (fun b => w.heap.size + 1 ≤ b) (wr.alloc (.cells #[.int .i64 nk, .int .i64 nd, .int .i64 nfb, .int .i64 nfa, .int .i64 ntb, .int .i64 nta, .int .i64 nc, .int .i64 nr] 44)) := fun b hb => by simp at hb; show w.heap.size + 1 ≤ b; omega
    go_wp2_with fail
    clear e0 e1 e2 e3 e4 e5 e6 e7
    refine (execute_any _ HMY.out hNY HIj.out ⟨nk, nd, nfb, nfa, ntb, nta, nc, nr⟩ hxw (by omega)).mono ?_
    rintro e w3 ⟨rfl, x3, g3⟩
    obtain ⟨cd, HCD⟩ : ∃ cd, Hid (codeM (stM (newM nn) xs j) ⟨nk, nd, nfb, nfa, ntb, nta, nc, nr⟩ = cd) := ⟨_, Lib.hid rfl⟩
    rw [HCD.out]
    have HUN := Lib.hid (Chg.new (HU.out.alloc (.cells #[.int .i64 nk, .int .i64 nd, .int .i64 nfb, .int .i64 nfa, .int .i64 ntb, .int .i64 nta, .int .i64 nc, .int .i64 nr] 44)) g3 (fun i hi h => by have h : w.heap.size + 1 ≤ i := h; simp at hi; omega) : Up (w.alloc (.cells #[.int .i64 0, .int .i64 0, .slice none 0 0, .slice none 0 0, .slice none 0 0, .slice none 0 0, .slice none 0 0] 60)) w3)
    have hz3 := g3.size
    have hz3b : (wr.alloc (.cells #[.int .i64 nk, .int .i64 nd, .int .i64 nfb, .int .i64 nfa, .int .i64 ntb, .int .i64 nta, .int .i64 nc, .int .i64 nr] 44)).heap.size = wr.heap.size + 1 := by simp
    have M3 := Lib.hid x3
    clear g3 x3 hNY HMY HU HM
    have HU := HUN
    by_cases hcd : cd = 0
    rotate_left
    · have t2 : (cd == 0) = false := by simpa using hcd
      have t3 : (cd != 0) = true := by simpa using hcd
      have HRC : Hid (runM (newM nn) xs = cd) := Lib.hid (by rw [HRB.out (by rw [HCD.out]; exact hcd), HCD.out])
      obtain ⟨F1, B1, C1, L1, D1, fs1, bs1, hx1⟩ := M3.out
      obtain ⟨⟨E1, m1, k1, rfl⟩, ⟨E2, m2, k2, rfl⟩, ⟨E3, m3, k3, rfl⟩, ⟨E4, m4, k4, rfl⟩, ⟨E5, m5, k5, rfl⟩⟩ := hx1.shapes
      have r0 := hx1.c0.1
      have r1 := hx1.c1.1
      have r2 := hx1.c2.1
      have r3 := hx1.c3.1
      have r4 := hx1.c4.1
      have r5 := hx1.c5.1
      have r6 := hx1.c6.1
      generalize MachM.wd _ = ma at r0
      generalize MachM.rack _ = mb at r1
      have z0 : w3.cell? ⟨w.heap.size, 0, none⟩ = some (.int .i64 0) := Chg.cell HU.out (cell_new _ _ _ _) id
      have y0 : w3.frozen? ⟨w.heap.size, 0, none⟩ = false := (Chg.frozen HU.out (show (w.alloc (.cells #[.int .i64 0, .int .i64 0, .slice none 0 0, .slice none 0 0, .slice none 0 0, .slice none 0 0, .slice none 0 0] 60)).cell? ⟨w.heap.size, 0, none⟩ = some (.int .i64 0) from cell_new _ _ _ _) id).trans (frozen_new _ _ _ _)
      have z1 : w3.cell? ⟨w.heap.size, 1, none⟩ = some (.int .i64 0) := Chg.cell HU.out (cell_new _ _ _ _) id
      have y1 : w3.frozen? ⟨w.heap.size, 1, none⟩ = false := (Chg.frozen HU.out (show (w.alloc (.cells #[.int .i64 0, .int .i64 0, .slice none 0 0, .slice none 0 0, .slice none 0 0, .slice none 0 0, .slice none 0 0] 60)).cell? ⟨w.heap.size, 1, none⟩ = some (.int .i64 0) from cell_new _ _ _ _) id).trans (frozen_new _ _ _ _)
      have z2 : w3.cell? ⟨w.heap.size, 2, none⟩ = some (.slice none 0 0) := Chg.cell HU.out (cell_new _ _ _ _) id
      have y2 : w3.frozen? ⟨w.heap.size, 2, none⟩ = false := (Chg.frozen HU.out (show (w.alloc (.cells #[.int .i64 0, .int .i64 0, .slice none 0 0, .slice none 0 0, .slice none 0 0, .slice none 0 0, .slice none 0 0] 60)).cell? ⟨w.heap.size, 2, none⟩ = some (.slice none 0 0) from cell_new _ _ _ _) id).trans (frozen_new _ _ _ _)
      have z3 : w3.cell? ⟨w.heap.size, 3, none⟩ = some (.slice none 0 0) := Chg.cell HU.out (cell_new _ _ _ _) id
      have y3 : w3.frozen? ⟨w.heap.size, 3, none⟩ = false := (Chg.frozen HU.out (show (w.alloc (.cells #[.int .i64 0, .int .i64 0, .slice none 0 0, .slice none 0 0, .slice none 0 0, .slice none 0 0, .slice none 0 0] 60)).cell? ⟨w.heap.size, 3, none⟩ = some (.slice none 0 0) from cell_new _ _ _ _) id).trans (frozen_new _ _ _ _)
      have z4 : w3.cell? ⟨w.heap.size, 4, none⟩ = some (.slice none 0 0) := Chg.cell HU.out (cell_new _ _ _ _) id
      have y4 : w3.frozen? ⟨w.heap.size, 4, none⟩ = false := (Chg.frozen HU.out (show (w.alloc (.cells #[.int .i64 0, .int .i64 0, .slice none 0 0, .slice none 0 0, .slice none 0 0, .slice none 0 0, .slice none 0 0] 60)).cell? ⟨w.heap.size, 4, none⟩ = some (.slice none 0 0) from cell_new _ _ _ _) id).trans (frozen_new _ _ _ _)
      have z5 : w3.cell? ⟨w.heap.size, 5, none⟩ = some (.slice none 0 0) := Chg.cell HU.out (cell_new _ _ _ _) id
      have y5 : w3.frozen? ⟨w.heap.size, 5, none⟩ = false := (Chg.frozen HU.out (show (w.alloc (.cells #[.int .i64 0, .int .i64 0, .slice none 0 0, .slice none 0 0, .slice none 0 0, .slice none 0 0, .slice none 0 0] 60)).cell? ⟨w.heap.size, 5, none⟩ = some (.slice none 0 0) from cell_new _ _ _ _) id).trans (frozen_new _ _ _ _)
      have z6 : w3.cell? ⟨w.heap.size, 6, none⟩ = some (.slice none 0 0) := Chg.cell HU.out (cell_new _ _ _ _) id
      have y6 : w3.frozen? ⟨w.heap.size, 6, none⟩ = false := (Chg.frozen HU.out (show (w.alloc (.cells #[.int .i64 0, .int .i64 0, .slice none 0 0, .slice none 0 0, .slice none 0 0, .slice none 0 0, .slice none 0 0] 60)).cell? ⟨w.heap.size, 6, none⟩ = some (.slice none 0 0) from cell_new _ _ _ _) id).trans (frozen_new _ _ _ _)
      clear hx1
      clear hN hlt hj hn hlen hzr hz2 M3 MV G2 HAL HI0 hk hzu hxw hz3 hz3b
      go_wp2
      exact bodyPost_ret (v := .tuple #[.agg #[.int .i64 ma, .int .i64 mb, .slice E1 m1 k1, .slice E2 m2 k2, .slice E3 m3 k3, .slice E4 m4 k4, .slice E5 m5 k5], .int .i64 j, .int .i64 cd]) (by simp [results, Tryz.results53, go_sem, z0, z1, z2, z3, z4, z5, z6]) rfl ⟨_, _, by rw [HRC.out], ⟨ma, mb, E1, E2, E3, E4, E5, m1, m2, m3, m4, m5, k1, k2, k3, k4, k5, rfl⟩, Chg.new (Chg.trans ((Chg.refl _ _).alloc _) HU.out) (((((((((Chg.refl (fun b => b = w.heap.size) w3).setCell (.inl rfl) _).setCell (.inl rfl) _).setCell (.inl rfl) _).setCell (.inl rfl) _).setCell (.inl rfl) _).setCell (.inl rfl) _).setCell (.inl rfl) _)) (fun i hi hd => by omega)⟩
    subst hcd
    have hnx : nextM (stM (newM nn) xs j) ⟨nk, nd, nfb, nfa, ntb, nta, nc, nr⟩ = stM (newM nn) xs (j + 1) := by unfold nextM; rw [if_pos HCD.out, HSC.out]
    have M4 := Lib.hid (hnx ▸ M3.out)
    have HOK := Lib.hid (HOS.out HCD.out)
    clear M3 hnx
    go_wp2
    go_roundw
    case rel => exact ⟨j + 1, by omega, by go_num, by rw [show 4 * (j + 1) = 4 * j + 4 by omega]; exact M4.out, HU.out, HOK.out, by omega⟩
    case measure => first | (simp [intOf]; done) | (simp [intOf]; omega)
theorem MachAny.zero : MachAny (.agg #[.int .i64 0, .int .i64 0, .slice none 0 0, .slice none 0 0, .slice none 0 0, .slice none 0 0, .slice none 0 0]) := ⟨_, _, _, _, _, _, _, _, _, _, _, _, _, _, _, _, _, rfl⟩
theorem RunMachine_any (w : World) (S : Nat → Prop) (v : Value) (xs : List OpM) (h : Ops w S v xs) (n : Int) :
    Calls Tryz.prog 35 #[.int .i64 n, v] w fun e w' => ∃ (u : Value) (c : Int), e = .returned (.tuple #[u, .int .i64 c, .int .i64 (optCode n xs)]) ∧ MachAny u ∧ Up w w' := by
  obtain ⟨A, c, rfl, hlc, hcm, -⟩ := h.1.shape
  have H := Lib.hid (Ops.up h ((Chg.refl Nowhere w).alloc (.cells #[.int .i64 0, .int .i64 0, .slice none 0 0, .slice none 0 0, .slice none 0 0, .slice none 0 0, .slice none 0 0] 60)) : Ops (w.alloc (.cells #[.int .i64 0, .int .i64 0, .slice none 0 0, .slice none 0 0, .slice none 0 0, .slice none 0 0, .slice none 0 0] 60)) S (.slice A xs.length c) xs)
  clear h
  cases hok : okOpsB n xs with
  | false =>
    have HC := Lib.hid (show optCode n xs = 1 by unfold optCode; rw [hok]; rfl)
    have HOK := Lib.hid hok
    clear hok
    go_enter Tryz.func35, Tryz.ntmps35
    go_wp2_with fail
    refine (validFor_any _ S _ xs H.out n HOK.out).mono ?_
    rintro e w1 ⟨rfl, g1⟩
    have HU := Lib.hid g1
    clear g1
    have z0 : w1.cell? ⟨w.heap.size, 0, none⟩ = some (.int .i64 0) := Chg.cell HU.out (cell_new _ _ _ _) id
    have y0 : w1.frozen? ⟨w.heap.size, 0, none⟩ = false := (Chg.frozen HU.out (show (w.alloc (.cells #[.int .i64 0, .int .i64 0, .slice none 0 0, .slice none 0 0, .slice none 0 0, .slice none 0 0, .slice none 0 0] 60)).cell? ⟨w.heap.size, 0, none⟩ = some (.int .i64 0) from cell_new _ _ _ _) id).trans (frozen_new _ _ _ _)
    have z1 : w1.cell? ⟨w.heap.size, 1, none⟩ = some (.int .i64 0) := Chg.cell HU.out (cell_new _ _ _ _) id
    have y1 : w1.frozen? ⟨w.heap.size, 1, none⟩ = false := (Chg.frozen HU.out (show (w.alloc (.cells #[.int .i64 0, .int .i64 0, .slice none 0 0, .slice none 0 0, .slice none 0 0, .slice none 0 0, .slice none 0 0] 60)).cell? ⟨w.heap.size, 1, none⟩ = some (.int .i64 0) from cell_new _ _ _ _) id).trans (frozen_new _ _ _ _)
    have z2 : w1.cell? ⟨w.heap.size, 2, none⟩ = some (.slice none 0 0) := Chg.cell HU.out (cell_new _ _ _ _) id
    have y2 : w1.frozen? ⟨w.heap.size, 2, none⟩ = false := (Chg.frozen HU.out (show (w.alloc (.cells #[.int .i64 0, .int .i64 0, .slice none 0 0, .slice none 0 0, .slice none 0 0, .slice none 0 0, .slice none 0 0] 60)).cell? ⟨w.heap.size, 2, none⟩ = some (.slice none 0 0) from cell_new _ _ _ _) id).trans (frozen_new _ _ _ _)
    have z3 : w1.cell? ⟨w.heap.size, 3, none⟩ = some (.slice none 0 0) := Chg.cell HU.out (cell_new _ _ _ _) id
    have y3 : w1.frozen? ⟨w.heap.size, 3, none⟩ = false := (Chg.frozen HU.out (show (w.alloc (.cells #[.int .i64 0, .int .i64 0, .slice none 0 0, .slice none 0 0, .slice none 0 0, .slice none 0 0, .slice none 0 0] 60)).cell? ⟨w.heap.size, 3, none⟩ = some (.slice none 0 0) from cell_new _ _ _ _) id).trans (frozen_new _ _ _ _)
    have z4 : w1.cell? ⟨w.heap.size, 4, none⟩ = some (.slice none 0 0) := Chg.cell HU.out (cell_new _ _ _ _) id
    have y4 : w1.frozen? ⟨w.heap.size, 4, none⟩ = false := (Chg.frozen HU.out (show (w.alloc (.cells #[.int .i64 0, .int .i64 0, .slice none 0 0, .slice none 0 0, .slice none 0 0, .slice none 0 0, .slice none 0 0] 60)).cell? ⟨w.heap.size, 4, none⟩ = some (.slice none 0 0) from cell_new _ _ _ _) id).trans (frozen_new _ _ _ _)
    have z5 : w1.cell? ⟨w.heap.size, 5, none⟩ = some (.slice none 0 0) := Chg.cell HU.out (cell_new _ _ _ _) id
    have y5 : w1.frozen? ⟨w.heap.size, 5, none⟩ = false := (Chg.frozen HU.out (show (w.alloc (.cells #[.int .i64 0, .int .i64 0, .slice none 0 0, .slice none 0 0, .slice none 0 0, .slice none 0 0, .slice none 0 0] 60)).cell? ⟨w.heap.size, 5, none⟩ = some (.slice none 0 0) from cell_new _ _ _ _) id).trans (frozen_new _ _ _ _)
    have z6 : w1.cell? ⟨w.heap.size, 6, none⟩ = some (.slice none 0 0) := Chg.cell HU.out (cell_new _ _ _ _) id
    have y6 : w1.frozen? ⟨w.heap.size, 6, none⟩ = false := (Chg.frozen HU.out (show (w.alloc (.cells #[.int .i64 0, .int .i64 0, .slice none 0 0, .slice none 0 0, .slice none 0 0, .slice none 0 0, .slice none 0 0] 60)).cell? ⟨w.heap.size, 6, none⟩ = some (.slice none 0 0) from cell_new _ _ _ _) id).trans (frozen_new _ _ _ _)
    go_wp2
    exact bodyPost_ret (v := .tuple #[.agg #[.int .i64 0, .int .i64 0, .slice none 0 0, .slice none 0 0, .slice none 0 0, .slice none 0 0, .slice none 0 0], .int .i64 0, .int .i64 1]) (by simp [results, Tryz.results35, go_sem, z0, z1, z2, z3, z4, z5, z6]) rfl ⟨_, _, by rw [HC.out], MachAny.zero, Chg.new (Chg.trans ((Chg.refl _ _).alloc _) HU.out) (((((((((Chg.refl (fun b => b = w.heap.size) w1).setCell (.inl rfl) _).setCell (.inl rfl) _).setCell (.inl rfl) _).setCell (.inl rfl) _).setCell (.inl rfl) _).setCell (.inl rfl) _).setCell (.inl rfl) _)) (fun i hi hd => by omega)⟩
  | true =>
    have HC := Lib.hid (show optCode n xs = runM (newM n) xs by unfold optCode; rw [hok]; rfl)
    have HOK := Lib.hid hok
    clear hok
    go_enter Tryz.func35, Tryz.ntmps35
    go_wp2_with fail
    refine (validFor_any _ S _ xs H.out n HOK.out).mono ?_
    rintro e w1 ⟨rfl, g1⟩
    have H1 := Lib.hid (Ops.up H.out g1)
    have G1 := Lib.hid g1
    clear g1
    go_wp2_with fail
    refine (run_any _ S _ xs H1.out n HOK.out).mono ?_
    rintro e w2 ⟨u, cc, rfl, ⟨ma, mb, E1, E2, E3, E4, E5, m1, m2, m3, m4, m5, k1, k2, k3, k4, k5, rfl⟩, g2⟩
    have HU := Lib.hid (Chg.trans G1.out g2)
    clear g2
    have z0 : w2.cell? ⟨w.heap.size, 0, none⟩ = some (.int .i64 0) := Chg.cell HU.out (cell_new _ _ _ _) id
    have y0 : w2.frozen? ⟨w.heap.size, 0, none⟩ = false := (Chg.frozen HU.out (show (w.alloc (.cells #[.int .i64 0, .int .i64 0, .slice none 0 0, .slice none 0 0, .slice none 0 0, .slice none 0 0, .slice none 0 0] 60)).cell? ⟨w.heap.size, 0, none⟩ = some (.int .i64 0) from cell_new _ _ _ _) id).trans (frozen_new _ _ _ _)
    have z1 : w2.cell? ⟨w.heap.size, 1, none⟩ = some (.int .i64 0) := Chg.cell HU.out (cell_new _ _ _ _) id
    have y1 : w2.frozen? ⟨w.heap.size, 1, none⟩ = false := (Chg.frozen HU.out (show (w.alloc (.cells #[.int .i64 0, .int .i64 0, .slice none 0 0, .slice none 0 0, .slice none 0 0, .slice none 0 0, .slice none 0 0] 60)).cell? ⟨w.heap.size, 1, none⟩ = some (.int .i64 0) from cell_new _ _ _ _) id).trans (frozen_new _ _ _ _)
    have z2 : w2.cell? ⟨w.heap.size, 2, none⟩ = some (.slice none 0 0) := Chg.cell HU.out (cell_new _ _ _ _) id
    have y2 : w2.frozen? ⟨w.heap.size, 2, none⟩ = false := (Chg.frozen HU.out (show (w.alloc (.cells #[.int .i64 0, .int .i64 0, .slice none 0 0, .slice none 0 0, .slice none 0 0, .slice none 0 0, .slice none 0 0] 60)).cell? ⟨w.heap.size, 2, none⟩ = some (.slice none 0 0) from cell_new _ _ _ _) id).trans (frozen_new _ _ _ _)
    have z3 : w2.cell? ⟨w.heap.size, 3, none⟩ = some (.slice none 0 0) := Chg.cell HU.out (cell_new _ _ _ _) id
    have y3 : w2.frozen? ⟨w.heap.size, 3, none⟩ = false := (Chg.frozen HU.out (show (w.alloc (.cells #[.int .i64 0, .int .i64 0, .slice none 0 0, .slice none 0 0, .slice none 0 0, .slice none 0 0, .slice none 0 0] 60)).cell? ⟨w.heap.size, 3, none⟩ = some (.slice none 0 0) from cell_new _ _ _ _) id).trans (frozen_new _ _ _ _)
    have z4 : w2.cell? ⟨w.heap.size, 4, none⟩ = some (.slice none 0 0) := Chg.cell HU.out (cell_new _ _ _ _) id
    have y4 : w2.frozen? ⟨w.heap.size, 4, none⟩ = false := (Chg.frozen HU.out (show (w.alloc (.cells #[.int .i64 0, .int .i64 0, .slice none 0 0, .slice none 0 0, .slice none 0 0, .slice none 0 0, .slice none 0 0] 60)).cell? ⟨w.heap.size, 4, none⟩ = some (.slice none 0 0) from cell_new _ _ _ _) id).trans (frozen_new _ _ _ _)
    have z5 : w2.cell? ⟨w.heap.size, 5, none⟩ = some (.slice none 0 0) := Chg.cell HU.out (cell_new _ _ _ _) id
    have y5 : w2.frozen? ⟨w.heap.size, 5, none⟩ = false := (Chg.frozen HU.out (show (w.alloc (.cells #[.int .i64 0, .int .i64 0, .slice none 0 0, .slice none 0 0, .slice none 0 0, .slice none 0 0, .slice none 0 0] 60)).cell? ⟨w.heap.size, 5, none⟩ = some (.slice none 0 0) from cell_new _ _ _ _) id).trans (frozen_new _ _ _ _)
    have z6 : w2.cell? ⟨w.heap.size, 6, none⟩ = some (.slice none 0 0) := Chg.cell HU.out (cell_new _ _ _ _) id
    have y6 : w2.frozen? ⟨w.heap.size, 6, none⟩ = false := (Chg.frozen HU.out (show (w.alloc (.cells #[.int .i64 0, .int .i64 0, .slice none 0 0, .slice none 0 0, .slice none 0 0, .slice none 0 0, .slice none 0 0] 60)).cell? ⟨w.heap.size, 6, none⟩ = some (.slice none 0 0) from cell_new _ _ _ _) id).trans (frozen_new _ _ _ _)
    obtain ⟨cd, HCD⟩ : ∃ cd, Hid (runM (newM n) xs = cd) := ⟨_, Lib.hid rfl⟩
    rw [HCD.out]
    go_wp2
    exact bodyPost_ret (v := .tuple #[.agg #[.int .i64 ma, .int .i64 mb, .slice E1 m1 k1, .slice E2 m2 k2, .slice E3 m3 k3, .slice E4 m4 k4, .slice E5 m5 k5], .int .i64 cc, .int .i64 cd]) (by simp [results, Tryz.results35, go_sem, z0, z1, z2, z3, z4, z5, z6]) rfl ⟨_, _, by rw [HC.out, HCD.out], ⟨ma, mb, E1, E2, E3, E4, E5, m1, m2, m3, m4, m5, k1, k2, k3, k4, k5, rfl⟩, Chg.new (Chg.trans ((Chg.refl _ _).alloc _) HU.out) (((((((((Chg.refl (fun b => b = w.heap.size) w2).setCell (.inl rfl) _).setCell (.inl rfl) _).setCell (.inl rfl) _).setCell (.inl rfl) _).setCell (.inl rfl) _).setCell (.inl rfl) _).setCell (.inl rfl) _)) (fun i hi hd => by omega)⟩
theorem runCode_any (w : World) (S : Nat → Prop) (v : Value) (xs : List OpM) (h : Ops w S v xs) (n : Int) :
    Calls Tryz.prog 22 #[.int .i64 n, v] w fun e w' => e = .returned (.int .i64 (optCode n xs)) ∧ Up w w' := by
  obtain ⟨A, c, rfl, hlc, hcm, -⟩ := h.1.shape
  have H := Lib.hid h
  clear h
  obtain ⟨cd, HCD⟩ : ∃ cd, Hid (optCode n xs = cd) := ⟨_, Lib.hid rfl⟩
  rw [HCD.out]
  go_enter Tryz.func22, Tryz.ntmps22
  go_wp2_with fail
  refine (RunMachine_any _ S _ xs H.out n).mono ?_
  rintro e w2 ⟨u, cc, rfl, ⟨ma, mb, E1, E2, E3, E4, E5, m1, m2, m3, m4, m5, k1, k2, k3, k4, k5, rfl⟩, g2⟩
  have G2 := Lib.hid g2
  clear g2
  rw [HCD.out]
  go_wp2
  go_ret
  exact ⟨rfl, G2.out.alloc _⟩
end Go.Proofs.YtiiodfcbpmkodaaGreat
namespace Go.Proofs.YtiiodfcbpmkodaaGreat
open Go.ChangeShapes Go.WideShapes Go.ChangeAt Go.RowKit
attribute [local go_sem ↓] Go.wp_at_zero Go.wp_at_succ
theorem rules_getD (m : MachM) (xs : List OpM) (j : Nat) (h : j < xs.length) : (rulesM m xs).getD j 0 = ruleM (stM m xs j) (xs.getD j opZ) (xs.getD (j + 1) opZ) := by
  rw [List.getD_eq_getElem?_getD, rules_at m xs j h]
  rfl
theorem firstI_at : ∀ (rs : List Int) (k j : Nat), j < rs.length → (∀ i, i < j → rs.getD i 0 = 0) → rs.getD j 0 ≠ 0 → firstI rs k = (rs.getD j 0, k + j)
  | [], _, _, h, _, _ => by simp at h
  | r :: rs, k, 0, _, _, h => by
    have h : r ≠ 0 := h
    unfold firstI
    rw [if_neg h]
    rfl
  | r :: rs, k, j + 1, hl, hz, h => by
    have h0 : r = 0 := hz 0 (by omega)
    unfold firstI
    rw [if_pos h0, firstI_at rs (k + 1) j (by simpa using hl) (fun i hi => hz (i + 1) (by omega)) h]
    simp
    omega
theorem firstI_none : ∀ (rs : List Int) (k : Nat), (∀ i, i < rs.length → rs.getD i 0 = 0) → firstI rs k = (0, 0)
  | [], _, _ => rfl
  | r :: rs, k, h => by
    have h0 : r = 0 := h 0 (by simp)
    unfold firstI
    rw [if_pos h0, firstI_none rs (k + 1) fun i hi => h (i + 1) (by simpa using hi)]
theorem ns1_z (w : World) (k : Int) (g : Nat) :
    Calls Tryz.prog 55 #[.int .i64 k, .int .i64 0, .pointer (some ⟨g, 0, none⟩)] w fun e w' => e = .returned (.bool true) ∧ w = w' := by
  go_enter Tryz.func55, Tryz.ntmps55
  go_wp2
  go_ret
  exact ⟨rfl, rfl⟩
theorem ns1_r (w : World) (k r x y : Int) (g : Nat) (hr : r ≠ 0) (h1 : w.cell? ⟨g, 0, none⟩ = some (.int .i64 x)) (f1 : w.frozen? ⟨g, 0, none⟩ = false) (h2 : w.cell? ⟨g, 1, none⟩ = some (.int .i64 y)) (f2 : w.frozen? ⟨g, 1, none⟩ = false) :
    Calls Tryz.prog 55 #[.int .i64 k, .int .i64 r, .pointer (some ⟨g, 0, none⟩)] w fun e w' => e = .returned (.bool false) ∧ w' = (w.setCell ⟨g, 0, none⟩ (.int .i64 r)).setCell ⟨g, 1, none⟩ (.int .i64 k) := by
  have t1 : (r == 0) = false := by simpa using hr
  have t2 : (r != 0) = true := by simpa using hr
  go_enter Tryz.func55, Tryz.ntmps55
  go_wp2
  go_ret
  exact ⟨rfl, rfl⟩
theorem Chg.new' {S T : Nat → Prop} {a w w' : World} (h : Chg S a w) (g : Chg T w w') (hn : ∀ i, i < a.heap.size → ¬ T i) : Chg S a w' :=
  ⟨g.os.trans h.os, g.tape.trans h.tape, g.output.trans h.output, Nat.le_trans h.size g.size, fun i hi hs => (g.block i (Nat.lt_of_lt_of_le hi h.size) (hn i hi)).trans (h.block i hi hs)⟩
theorem rulesNs_any (w : World) (S : Nat → Prop) (v : Value) (xs : List OpM) (h : Ops w S v xs) (n : Int) (hok : okOpsB n xs = true) (hrun : runM (newM n) xs = 0) (g1 : Nat) (hgS : ¬ S g1) (hl1 : g1 < w.heap.size) (h1 : w.cell? ⟨g1, 0, none⟩ = some (.int .i64 0)) (f1 : w.frozen? ⟨g1, 0, none⟩ = false) (h2 : w.cell? ⟨g1, 1, none⟩ = some (.int .i64 0)) (f2 : w.frozen? ⟨g1, 1, none⟩ = false) :
    Calls Tryz.prog 54 #[.int .i64 n, v, .func (.func 55) #[] #[.pointer (some ⟨g1, 0, none⟩)]] w fun e w' => e = .returned (.tuple #[]) ∧ w'.cell? ⟨g1, 0, none⟩ = some (.int .i64 (firstM n xs).1) ∧ w'.cell? ⟨g1, 1, none⟩ = some (.int .i64 (firstM n xs).2) ∧ Chg (fun b => b = g1) w w' := by
  obtain ⟨A, c, rfl, hlc, hcm, -⟩ := h.1.shape
  have H := Lib.hid h
  clear h
  obtain ⟨hall, hn, hlen⟩ := okOpsB_of hok
  obtain ⟨nn, rfl⟩ : ∃ nn : Nat, n = nn := ⟨n.toNat, by omega⟩
  have HAL := Lib.hid hall
  have HI0 := Lib.hid (newM_inv hn)
  have HOKT := Lib.hid (run_to _ _ hrun)
  clear hall hok hrun
  go_enter Tryz.func54, Tryz.ntmps54
  go_wp2_with fail
  refine (newMachine_any _ nn ⟨by omega, by omega⟩).mono ?_
  rintro e w2 ⟨F, B, C, rfl, mv, g2⟩
  obtain ⟨⟨A1, d1, rfl⟩, ⟨A2, d2, rfl⟩, ⟨A3, d3, rfl⟩⟩ := machV_shape mv
  have MV := Lib.hid mv
  have G2 := Lib.hid g2
  have hz2 := g2.size
  clear mv g2
  unfold machVal
  go_wp2
  go_loopw [14] (fun i wr => ∃ j : Nat, j ≤ xs.length ∧ i = .int .i64 j ∧ Hid (Mach wr (fun b => w.heap.size ≤ b) (4 * j) w2.heap.size (stM (newM nn) xs j)) ∧ Hid (Chg (fun b => b = g1) w wr) ∧ Hid (∀ i, i < j → (rulesM (newM nn) xs).getD i 0 = 0) ∧ Hid (wr.cell? ⟨g1, 0, none⟩ = some (.int .i64 0)) ∧ Hid (wr.frozen? ⟨g1, 0, none⟩ = false) ∧ Hid (wr.cell? ⟨g1, 1, none⟩ = some (.int .i64 0)) ∧ Hid (wr.frozen? ⟨g1, 1, none⟩ = false)) (fun i _ => xs.length - (intOf i).toNat)
  case atStart =>
    have hx := ((MV.out.mono (T := (fun b => w.heap.size ≤ b)) (fun b _ h => by have h : w.heap.size < b := h; show w.heap.size ≤ b; omega)).box (fun b hb => by show w.heap.size ≤ b; omega) 60)
    simp only [List.length_replicate] at hx
    have up2 : Up w (w2.alloc (.cells #[.int .i64 (newM nn).wd, .int .i64 (newM nn).rack, .slice A1 nn d1, .slice A2 nn d2, .slice A3 (newM nn).cs.length d3, .slice none 0 0, .slice none 0 0] 60)) := G2.out.alloc _
    refine ⟨0, by omega, by first | rfl | (simp; done), by rw [stM_zero]; exact hx.mach, Chg.of_up up2, fun i hi => by omega, Chg.cell up2 h1 id, (Chg.frozen up2 h1 id).trans f1, Chg.cell up2 h2 id, (Chg.frozen up2 h2 id).trans f2⟩
  case round =>
    obtain ⟨j, hj, rfl, HM, HU, hp, c1, c1f, c2, c2f⟩ := hrel
    have hzr := HU.out.size
    have hN : NewIn (fun b => w.heap.size ≤ b) wr := fun b hb => by show w.heap.size ≤ b; omega
    by_cases hlt : j < xs.length
    rotate_left
    · obtain rfl : j = xs.length := by omega
      have HF : Hid (firstM nn xs = (0, 0)) := Lib.hid (by unfold firstM; exact firstI_none _ _ fun i hi => hp.out i (by rwa [rulesM_length] at hi))
      go_wp2
      go_end0
      exact ⟨rfl, by rw [HF.out]; exact c1.out, by rw [HF.out]; exact c2.out, HU.out⟩
    have hkeep : ∀ b, b < w.heap.size → S b → ¬ b = g1 := fun b _ h e => hgS (e ▸ h)
    obtain ⟨b, o, c', he, hS, hat⟩ := (Ops.keep H.out HU.out hkeep).opAt hlt
    obtain ⟨rfl, rfl⟩ : A = some ⟨b, o, none⟩ ∧ c = c' := by simpa using he
    have hop := hat.opC
    clear hat he
    have HX : Hid (okOp nn xs[j]) := Lib.hid (HAL.out _ (List.getElem_mem hlt))
    have HGD : Hid (xs.getD j opZ = xs[j]) := Lib.hid (by rw [List.getD_eq_getElem?_getD, List.getElem?_eq_getElem hlt]; rfl)
    have HIj : Hid (MInv (stM (newM nn) xs j)) := Lib.hid (HI0.out.st (by exact HAL.out) j (by omega) (fun i hi => HOKT.out i (by omega)))
    have HWD : Hid ((stM (newM nn) xs j).wd = nn) := Lib.hid (stM_wd _ _ _)
    have HSC := Lib.hid (stM_succ (newM nn) xs j hlt)
    have HCJ := Lib.hid (HOKT.out j hlt)
    have HRJ := Lib.hid (rules_getD (newM nn) xs j hlt)
    rw [HGD.out] at HSC HCJ HRJ
    obtain ⟨j1, HJ1⟩ : ∃ j1 : Nat, Hid (j1 = j + 1) := ⟨_, Lib.hid rfl⟩
    have y1 : IntKind.i64.wrap ((j : Int) + 1) = (j1 : Int) := (IntWalk.i64_in _ (by omega)).trans (by have := HJ1.out; omega)
    by_cases hl2 : j1 < xs.length
    · have t1 : decide ((j1 : Int) < (xs.length : Int)) = true := decide_eq_true (by omega)
      obtain ⟨b9, o9, c9, he9, hS9, hat9⟩ := (Ops.keep H.out HU.out hkeep).opAt hl2
      obtain ⟨rfl, rfl, rfl⟩ : b = b9 ∧ o = o9 ∧ c = c9 := by (simp at he9; omega)
      have hop9 := hat9.opC
      have hyb0 : 0 ≤ (xs[j1]).fa ∧ (xs[j1]).fa ≤ 1000 := fa_ok (HAL.out _ (List.getElem_mem hl2))
      have hye0 : xs.getD (j + 1) opZ = xs[j1] := by rw [← HJ1.out, List.getD_eq_getElem?_getD, List.getElem?_eq_getElem hl2]; rfl
      generalize xs[j1] = z at hop9 hyb0 hye0
      obtain ⟨nk, nd, nfb, nfa, ntb, nta, nc, nr⟩ := z
      have HYB := Lib.hid hyb0
      have HYE := Lib.hid hye0
      clear hat9 he9 hyb0 hye0
      generalize xs[j] = y at hop HX HSC HCJ HRJ HGD
      obtain ⟨yk, yd, yfb, yfa, ytb, yta, yc, yr⟩ := y
      have e0 := hop.c0
      have e1 := hop.c1
      have e2 := hop.c2
      have e3 := hop.c3
      have e4 := hop.c4
      have e5 := hop.c5
      have e6 := hop.c6
      have e7 := hop.c7
      dsimp only at e0 e1 e2 e3 e4 e5 e6 e7
      clear hop
      have hop8 := hop9.up (((Chg.refl Nowhere wr).alloc (.cells #[.int .i64 yk, .int .i64 yd, .int .i64 yfb, .int .i64 yfa, .int .i64 ytb, .int .i64 yta, .int .i64 yc, .int .i64 yr] 44)).alloc (.cells #[.int .i64 0, .int .i64 0, .int .i64 0, .int .i64 0, .int .i64 0, .int .i64 0, .int .i64 0, .int .i64 0] 44))
      clear hop9
      have a0 := hop8.c0
      have a1 := hop8.c1
      have a2 := hop8.c2
      have a3 := hop8.c3
      have a4 := hop8.c4
      have a5 := hop8.c5
      have a6 := hop8.c6
      have a7 := hop8.c7
      dsimp only at a0 a1 a2 a3 a4 a5 a6 a7
      clear hop8
      obtain ⟨⟨d0, d1, d2, d3, d4, d5, d6, d7⟩, ⟨n0, n1, n2, n3, n4, n5, n6, n7⟩, upN⟩ := box88 wr (.int .i64 yk) (.int .i64 yd) (.int .i64 yfb) (.int .i64 yfa) (.int .i64 ytb) (.int .i64 yta) (.int .i64 yc) (.int .i64 yr) (.int .i64 nk) (.int .i64 nd) (.int .i64 nfb) (.int .i64 nfa) (.int .i64 ntb) (.int .i64 nta) (.int .i64 nc) (.int .i64 nr) 44
      have hszN : ((wr.alloc (.cells #[.int .i64 yk, .int .i64 yd, .int .i64 yfb, .int .i64 yfa, .int .i64 ytb, .int .i64 yta, .int .i64 yc, .int .i64 yr] 44)).alloc (.cells #[.int .i64 nk, .int .i64 nd, .int .i64 nfb, .int .i64 nfa, .int .i64 ntb, .int .i64 nta, .int .i64 nc, .int .i64 nr] 44)).heap.size = wr.heap.size + 1 + 1 := by simp
      obtain ⟨F1, B1, C1, L1, D1, fs1, bs1, hx1⟩ := HM.out
      have HXN := Lib.hid (hx1.up upN)
      have HMN := Lib.hid (HM.out.up upN)
      clear hx1
      have HUN := Lib.hid upN
      clear upN
      have hxw : okOp (stM (newM nn) xs j).wd ⟨yk, yd, yfb, yfa, ytb, yta, yc, yr⟩ := by rw [HWD.out]; exact HX.out
      go_wp2_with fail
      clear n0 n1 n2 n3 n4 n5 n6 n7
      refine (ruleFor_any _ HXN.out HIj.out ⟨yk, yd, yfb, yfa, ytb, yta, yc, yr⟩ ⟨nk, nd, nfb, nfa, ntb, nta, nc, nr⟩ hxw HYB.out).mono ?_
      rintro e w3 ⟨rfl, g3⟩
      rw [HYE.out] at HRJ
      obtain ⟨r, HRE⟩ : ∃ r, Hid (ruleM (stM (newM nn) xs j) ⟨yk, yd, yfb, yfa, ytb, yta, yc, yr⟩ ⟨nk, nd, nfb, nfa, ntb, nta, nc, nr⟩ = r) := ⟨_, Lib.hid rfl⟩
      rw [HRE.out] at HRJ
      rw [HRE.out]
      have hh := cc8 g3 d0 d1 d2 d3 d4 d5 d6 d7
      obtain ⟨d0, d1, d2, d3, d4, d5, d6, d7⟩ := hh
      have G3 := Lib.hid (Chg.trans HUN.out g3 : Up wr w3)
      have hz3 := G3.out.size
      have hz3b := g3.size
      rw [hszN] at hz3b
      have M3 := Lib.hid (HMN.out.up g3)
      clear g3 HXN HMN HM
      have C1f := Lib.hid ((Chg.frozen G3.out c1.out id).trans c1f.out)
      have C2f := Lib.hid ((Chg.frozen G3.out c2.out id).trans c2f.out)
      have C1 := Lib.hid (Chg.cell G3.out c1.out id)
      have C2 := Lib.hid (Chg.cell G3.out c2.out id)
      clear c1 c1f c2 c2f
      have HU4 := Lib.hid (Chg.trans HU.out (Chg.of_up G3.out) : Chg (fun b => b = g1) w w3)
      by_cases hr : r = 0
      rotate_left
      · have HF : Hid (firstM nn xs = (r, j)) := Lib.hid (by unfold firstM; have := firstI_at (rulesM (newM nn) xs) 0 j (by rw [rulesM_length]; exact hlt) hp.out (by rw [HRJ.out]; exact hr); rw [this, HRJ.out]; simp)
        clear d0 d1 d2 d3 d4 d5 d6 d7
        go_wp2_with fail
        refine (ns1_r _ _ r 0 0 g1 hr C1.out C1f.out C2.out C2f.out).mono ?_
        rintro e w4 ⟨rfl, rfl⟩
        have HU5 := Lib.hid (Chg.setCell (S := (fun b => b = g1)) (Chg.setCell HU4.out (.inl rfl) (.int .i64 r)) (.inl rfl) (.int .i64 j) : Chg (fun b => b = g1) w ((w3.setCell ⟨g1, 0, none⟩ (.int .i64 r)).setCell ⟨g1, 1, none⟩ (.int .i64 j)))
        go_wp2
        refine bodyPost_ret (results_none rfl _ _ _) rfl ?_
        exact ⟨rfl, by rw [HF.out]; exact keepO (World.cell?_setCell_same _ _ _ C1.out) (by omega), by rw [HF.out]; exact World.cell?_setCell_same _ _ _ (keepO C2.out (by omega)), HU5.out⟩
      subst hr
      go_wp2_with fail
      refine (ns1_z _ _ g1).mono ?_
      rintro e w4 ⟨rfl, rfl⟩
      have hzw4 : w3.heap.size = w3.heap.size := rfl
      have M4 := Lib.hid (M3.out)
      have hN4 : NewIn (fun b => w.heap.size ≤ b) w3 := fun b hb => by show w.heap.size ≤ b; omega
      go_wp2_with fail
      clear d0 d1 d2 d3 d4 d5 d6 d7
      refine (execute_any _ M4.out hN4 HIj.out ⟨yk, yd, yfb, yfa, ytb, yta, yc, yr⟩ hxw (by omega)).mono ?_
      rintro e w5 ⟨rfl, x5, g5⟩
      have hnx : nextM (stM (newM nn) xs j) ⟨yk, yd, yfb, yfa, ytb, yta, yc, yr⟩ = stM (newM nn) xs (j + 1) := by unfold nextM; rw [if_pos HCJ.out, HSC.out]
      have M5 := Lib.hid (hnx ▸ x5)
      have HU5 := Lib.hid (Chg.new' HU4.out g5 (fun i hi h => by have h : w.heap.size ≤ i := h; omega) : Chg (fun b => b = g1) w w5)
      have hn1 : ¬ (fun b => w.heap.size ≤ b) g1 := fun h => by have h : w.heap.size ≤ g1 := h; omega
      have D1 := Lib.hid (Chg.cell g5 C1.out hn1)
      have D2 := Lib.hid ((Chg.frozen g5 C1.out hn1).trans C1f.out)
      have D3 := Lib.hid (Chg.cell g5 C2.out hn1)
      have D4 := Lib.hid ((Chg.frozen g5 C2.out hn1).trans C2f.out)
      have HP : Hid (∀ i, i < j + 1 → (rulesM (newM nn) xs).getD i 0 = 0) := Lib.hid (fun i hi => by
        by_cases e : i = j
        · subst e; exact HRJ.out
        · exact hp.out i (by omega))
      clear x5 g5 hnx
      go_wp2
      go_roundw
      case rel => exact ⟨j + 1, by omega, by first | go_num | rw [HJ1.out], by rw [show 4 * (j + 1) = 4 * j + 4 by omega]; exact M5.out, HU5.out, HP.out, D1.out, D2.out, D3.out, D4.out⟩
      case measure => have hjj := HJ1.out; first | (simp [intOf]; done) | (simp [intOf]; omega)
    · have t1 : decide ((j1 : Int) < (xs.length : Int)) = false := decide_eq_false (by omega)
      have HYB : Hid ((0 : Int) ≤ opZ.fa ∧ opZ.fa ≤ 1000) := Lib.hid (by decide)
      have HYE : Hid (xs.getD (j + 1) opZ = ⟨0, 0, 0, 0, 0, 0, 0, 0⟩) := Lib.hid (by rw [← HJ1.out, List.getD_eq_getElem?_getD, List.getElem?_eq_none (by omega)]; rfl)
      generalize xs[j] = y at hop HX HSC HCJ HRJ HGD
      obtain ⟨yk, yd, yfb, yfa, ytb, yta, yc, yr⟩ := y
      have e0 := hop.c0
      have e1 := hop.c1
      have e2 := hop.c2
      have e3 := hop.c3
      have e4 := hop.c4
      have e5 := hop.c5
      have e6 := hop.c6
      have e7 := hop.c7
      dsimp only at e0 e1 e2 e3 e4 e5 e6 e7
      clear hop
      obtain ⟨⟨d0, d1, d2, d3, d4, d5, d6, d7⟩, ⟨n0, n1, n2, n3, n4, n5, n6, n7⟩, upN⟩ := box88 wr (.int .i64 yk) (.int .i64 yd) (.int .i64 yfb) (.int .i64 yfa) (.int .i64 ytb) (.int .i64 yta) (.int .i64 yc) (.int .i64 yr) (.int .i64 0) (.int .i64 0) (.int .i64 0) (.int .i64 0) (.int .i64 0) (.int .i64 0) (.int .i64 0) (.int .i64 0) 44
      have hszN : ((wr.alloc (.cells #[.int .i64 yk, .int .i64 yd, .int .i64 yfb, .int .i64 yfa, .int .i64 ytb, .int .i64 yta, .int .i64 yc, .int .i64 yr] 44)).alloc (.cells #[.int .i64 0, .int .i64 0, .int .i64 0, .int .i64 0, .int .i64 0, .int .i64 0, .int .i64 0, .int .i64 0] 44)).heap.size = wr.heap.size + 1 + 1 := by simp
      obtain ⟨F1, B1, C1, L1, D1, fs1, bs1, hx1⟩ := HM.out
      have HXN := Lib.hid (hx1.up upN)
      have HMN := Lib.hid (HM.out.up upN)
      clear hx1
      have HUN := Lib.hid upN
      clear upN
      have hxw : okOp (stM (newM nn) xs j).wd ⟨yk, yd, yfb, yfa, ytb, yta, yc, yr⟩ := by rw [HWD.out]; exact HX.out
      go_wp2_with fail
      clear n0 n1 n2 n3 n4 n5 n6 n7
      refine (ruleFor_any _ HXN.out HIj.out ⟨yk, yd, yfb, yfa, ytb, yta, yc, yr⟩ ⟨0, 0, 0, 0, 0, 0, 0, 0⟩ hxw HYB.out).mono ?_
      rintro e w3 ⟨rfl, g3⟩
      rw [HYE.out] at HRJ
      obtain ⟨r, HRE⟩ : ∃ r, Hid (ruleM (stM (newM nn) xs j) ⟨yk, yd, yfb, yfa, ytb, yta, yc, yr⟩ ⟨0, 0, 0, 0, 0, 0, 0, 0⟩ = r) := ⟨_, Lib.hid rfl⟩
      rw [HRE.out] at HRJ
      rw [HRE.out]
      have hh := cc8 g3 d0 d1 d2 d3 d4 d5 d6 d7
      obtain ⟨d0, d1, d2, d3, d4, d5, d6, d7⟩ := hh
      have G3 := Lib.hid (Chg.trans HUN.out g3 : Up wr w3)
      have hz3 := G3.out.size
      have hz3b := g3.size
      rw [hszN] at hz3b
      have M3 := Lib.hid (HMN.out.up g3)
      clear g3 HXN HMN HM
      have C1f := Lib.hid ((Chg.frozen G3.out c1.out id).trans c1f.out)
      have C2f := Lib.hid ((Chg.frozen G3.out c2.out id).trans c2f.out)
      have C1 := Lib.hid (Chg.cell G3.out c1.out id)
      have C2 := Lib.hid (Chg.cell G3.out c2.out id)
      clear c1 c1f c2 c2f
      have HU4 := Lib.hid (Chg.trans HU.out (Chg.of_up G3.out) : Chg (fun b => b = g1) w w3)
      by_cases hr : r = 0
      rotate_left
      · have HF : Hid (firstM nn xs = (r, j)) := Lib.hid (by unfold firstM; have := firstI_at (rulesM (newM nn) xs) 0 j (by rw [rulesM_length]; exact hlt) hp.out (by rw [HRJ.out]; exact hr); rw [this, HRJ.out]; simp)
        clear d0 d1 d2 d3 d4 d5 d6 d7
        go_wp2_with fail
        refine (ns1_r _ _ r 0 0 g1 hr C1.out C1f.out C2.out C2f.out).mono ?_
        rintro e w4 ⟨rfl, rfl⟩
        have HU5 := Lib.hid (Chg.setCell (S := (fun b => b = g1)) (Chg.setCell HU4.out (.inl rfl) (.int .i64 r)) (.inl rfl) (.int .i64 j) : Chg (fun b => b = g1) w ((w3.setCell ⟨g1, 0, none⟩ (.int .i64 r)).setCell ⟨g1, 1, none⟩ (.int .i64 j)))
        go_wp2
        refine bodyPost_ret (results_none rfl _ _ _) rfl ?_
        exact ⟨rfl, by rw [HF.out]; exact keepO (World.cell?_setCell_same _ _ _ C1.out) (by omega), by rw [HF.out]; exact World.cell?_setCell_same _ _ _ (keepO C2.out (by omega)), HU5.out⟩
      subst hr
      go_wp2_with fail
      refine (ns1_z _ _ g1).mono ?_
      rintro e w4 ⟨rfl, rfl⟩
      have hzw4 : w3.heap.size = w3.heap.size := rfl
      have M4 := Lib.hid (M3.out)
      have hN4 : NewIn (fun b => w.heap.size ≤ b) w3 := fun b hb => by show w.heap.size ≤ b; omega
      go_wp2_with fail
      clear d0 d1 d2 d3 d4 d5 d6 d7
      refine (execute_any _ M4.out hN4 HIj.out ⟨yk, yd, yfb, yfa, ytb, yta, yc, yr⟩ hxw (by omega)).mono ?_
      rintro e w5 ⟨rfl, x5, g5⟩
      have hnx : nextM (stM (newM nn) xs j) ⟨yk, yd, yfb, yfa, ytb, yta, yc, yr⟩ = stM (newM nn) xs (j + 1) := by unfold nextM; rw [if_pos HCJ.out, HSC.out]
      have M5 := Lib.hid (hnx ▸ x5)
      have HU5 := Lib.hid (Chg.new' HU4.out g5 (fun i hi h => by have h : w.heap.size ≤ i := h; omega) : Chg (fun b => b = g1) w w5)
      have hn1 : ¬ (fun b => w.heap.size ≤ b) g1 := fun h => by have h : w.heap.size ≤ g1 := h; omega
      have D1 := Lib.hid (Chg.cell g5 C1.out hn1)
      have D2 := Lib.hid ((Chg.frozen g5 C1.out hn1).trans C1f.out)
      have D3 := Lib.hid (Chg.cell g5 C2.out hn1)
      have D4 := Lib.hid ((Chg.frozen g5 C2.out hn1).trans C2f.out)
      have HP : Hid (∀ i, i < j + 1 → (rulesM (newM nn) xs).getD i 0 = 0) := Lib.hid (fun i hi => by
        by_cases e : i = j
        · subst e; exact HRJ.out
        · exact hp.out i (by omega))
      clear x5 g5 hnx
      go_wp2
      go_roundw
      case rel => exact ⟨j + 1, by omega, by first | go_num | rw [HJ1.out], by rw [show 4 * (j + 1) = 4 * j + 4 by omega]; exact M5.out, HU5.out, HP.out, D1.out, D2.out, D3.out, D4.out⟩
      case measure => have hjj := HJ1.out; first | (simp [intOf]; done) | (simp [intOf]; omega)
end Go.Proofs.YtiiodfcbpmkodaaGreat
namespace Go.Proofs.YtiiodfcbpmkodaaGreat
open Go.ChangeShapes Go.WideShapes Go.ChangeAt Go.RowKit
attribute [local go_sem ↓] Go.wp_at_zero Go.wp_at_succ
theorem opt_ok {n : Int} {xs : List OpM} (h : optCode n xs = 0) : okOpsB n xs = true ∧ runM (newM n) xs = 0 := by
  unfold optCode at h
  by_cases hk : okOpsB n xs = true
  · rw [if_pos hk] at h; exact ⟨hk, h⟩
  · rw [if_neg hk] at h; omega
theorem rulesOut_ok {n : Int} {xs : List OpM} (h : optCode n xs = 0) : rulesOut n xs = rulesM (newM n) xs := by unfold rulesOut; rw [if_pos h]
end Go.Proofs.YtiiodfcbpmkodaaGreat
