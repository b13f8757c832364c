/- CarrierPlan, CompileRows and CompileChart on both sides. No condition. Arguments that are slices of records of whole numbers, as lists. No condition. Arguments that are structs with a slice of numbers. No condition. Arguments that are charts: a number and a slice of rows. No condition. -/
import Derived.Test.YtnjfhpgmogopnaaGreatCmpI
import Derived.Test.YtnjfhpgmogopnaaGreatCmpS
import Derived.Test.YtnjfhpgmogopnaaGreatPG4
import Derived.Test.YtnjfhpgmogopnaaGreatPG1
import Derived.Deep.Slices
import Derived.Deep.Fields
import Derived.ChangeSame
import Derived.Test.YtnjfhpgmogopnaaGreatPG2
import Derived.Lib.SmallJoins
import Derived.Test.YtnjfhpgmogopnaaGreatPG7
section
set_option linter.unusedSimpArgs false
set_option linter.unusedVariables false
set_option maxRecDepth 100000
set_option maxHeartbeats 1000000
namespace Go.Proofs.YtnjfhpgmogopnaaGreat
open Go.ChangeShapes Go.WideShapes Go.ChangeAt Go.RowKit
def planC (c : ChartM) : Int := if chartB c then 0 else 1
def planO (c : ChartM) : List Int := if chartB c then planQ c else []
theorem plan_no {c : ChartM} (h : chartB c = false) : planC c = 1 ∧ planO c = [] := by unfold planC planO; rw [h]; exact ⟨rfl, rfl⟩
theorem plan_yes {c : ChartM} (h : chartB c = true) : planC c = 0 ∧ planO c = planQ c := by unfold planC planO; rw [h]; exact ⟨rfl, rfl⟩
theorem planO_len (c : ChartM) : (planO c).length ≤ 8 := by
  cases hb : chartB c with
  | false => rw [(plan_no hb).2]; simp
  | true => rw [(plan_yes hb).2]; unfold planQ; rw [plan_length]; exact (chart_size hb).2
def lenC (c : ChartM) : Nat := sumLen (partsM c) (partsM c).length
def rowsC (c : ChartM) : Int := if chartB c then (if lenC c ≤ 1500 then 0 else 5) else 1
def rowsO (c : ChartM) : List (List OpM) := if rowsC c = 0 then partsM c else []
def chO (c : ChartM) : List OpM := if rowsC c = 0 then (partsM c).flatten else []
theorem rows_no {c : ChartM} (h : chartB c = false) : rowsC c = 1 ∧ rowsO c = [] ∧ chO c = [] := by
  have e : rowsC c = 1 := by unfold rowsC; rw [h]; rfl
  exact ⟨e, by unfold rowsO; rw [e]; rfl, by unfold chO; rw [e]; rfl⟩
theorem rows_full {c : ChartM} (h : chartB c = true) (h2 : ¬ lenC c ≤ 1500) : rowsC c = 5 ∧ rowsO c = [] ∧ chO c = [] := by
  have e : rowsC c = 5 := by unfold rowsC; rw [h, if_pos rfl, if_neg h2]
  exact ⟨e, by unfold rowsO; rw [e]; rfl, by unfold chO; rw [e]; rfl⟩
theorem rows_yes {c : ChartM} (h : chartB c = true) (h2 : lenC c ≤ 1500) : rowsC c = 0 ∧ rowsO c = partsM c ∧ chO c = (partsM c).flatten := by
  have e : rowsC c = 0 := by unfold rowsC; rw [h, if_pos rfl, if_pos h2]
  exact ⟨e, by unfold rowsO; rw [e]; rfl, by unfold chO; rw [e]; rfl⟩
theorem sumLen_le_mul {α : Type} (l : List (List α)) (b : Nat) (h : ∀ p ∈ l, p.length ≤ b) : ∀ i, i ≤ l.length → sumLen l i ≤ b * i
  | 0, _ => by simp [sumLen]
  | i + 1, hi => by
    have h1 := sumLen_le_mul l b h i (by omega)
    have h2 := h _ (List.getElem_mem (show i < l.length by omega))
    rw [sumLen_succ l i (by omega), Nat.mul_succ]
    omega
theorem lenC_le {c : ChartM} (h : chartB c = true) : lenC c ≤ 50010 := by
  obtain ⟨h1, h2⟩ := partsM_len (chartOk_of h)
  have h3 := sumLen_le_mul (partsM c) 5001 h2 _ (Nat.le_refl _)
  have := (chart_size h).2
  unfold lenC
  have h4 : 5001 * (partsM c).length ≤ 5001 * 10 := Nat.mul_le_mul_left _ (by omega)
  omega
theorem flat_lenC (c : ChartM) : (partsM c).flatten.length = lenC c := by
  have := flat_take_length (partsM c) (partsM c).length
  rw [List.take_length] at this
  exact this
theorem rowsO_cnt (c : ChartM) : cntOpSS (rowsO c) ≤ 1000000 := by
  unfold rowsO
  split
  · rename_i h
    have hb : chartB c = true := by
      cases hb : chartB c with
      | true => rfl
      | false => rw [(rows_no hb).1] at h; omega
    have h1 := lenC_le hb
    have h2 : ∀ l : List (List OpM), cntOpSS l = 8 * l.flatten.length := by
      intro l
      induction l with
      | nil => rfl
      | cons a l ih =>
        unfold cntOpSS at *
        rw [List.map_cons, List.sum_cons, ih, List.flatten_cons, List.length_append]
        unfold cntOps
        omega
    rw [h2, flat_lenC]
    omega
  · simp [cntOpSS]
theorem chO_cnt (c : ChartM) : cntOps (chO c) ≤ 1000000 := by
  unfold chO cntOps
  split
  · rename_i h
    have hb : chartB c = true := by
      cases hb : chartB c with
      | true => rfl
      | false => rw [(rows_no hb).1] at h; omega
    have h1 := lenC_le hb
    rw [flat_lenC]
    omega
  · simp
theorem OpSS.new {w : World} {lo lo' hi : Nat} {v : Value} {xss : List (List OpM)} (h : OpSS w (New lo hi) v xss) (hl : lo' ≤ lo) : OpSS w (New lo' hi) v xss := h.mono fun b hb => ⟨by have := hb.1; omega, hb.2⟩
theorem Ints.new {w : World} {lo lo' hi : Nat} {v : Value} {xs : List Int} (h : Ints w (New lo hi) v xs) (hl : lo' ≤ lo) : Ints w (New lo' hi) v xs := h.mono fun b _ hb => ⟨by have := hb.1; omega, hb.2⟩
theorem Ops.new {w : World} {lo lo' hi : Nat} {v : Value} {xs : List OpM} (h : Ops w (New lo hi) v xs) (hl : lo' ≤ lo) : Ops w (New lo' hi) v xs := h.mono fun b _ hb => ⟨by have := hb.1; omega, hb.2⟩
theorem CarrierPlan_X (w : World) (S : Nat → Prop) (v : Value) (c : ChartM) (h0 : ChartX w S v c) :
    Calls Tryz.prog 10 #[v] w fun e w' => ∃ v', e = .returned (.tuple #[v', .int .i64 (planC c)]) ∧ Ints w' (New w.heap.size w'.heap.size) v' (planO c) ∧ Up w w' := by
  have h := h0.cv
  clear h0
  obtain ⟨A, k, rfl, -⟩ := h.shape
  have U0 := Lib.hid ((Chg.refl Nowhere w).alloc (.cells #[.int .i64 c.n, .slice A c.rs.length k] 31))
  have H := Lib.hid (h.up U0.out)
  have HB0 := Lib.hid h.box
  have B0 := Lib.hid (show (w.alloc (.cells #[.int .i64 c.n, .slice A c.rs.length k] 31)).cell? ⟨w.heap.size, 0, none⟩ = some (.int .i64 c.n) ∧ (w.alloc (.cells #[.int .i64 c.n, .slice A c.rs.length k] 31)).cell? ⟨w.heap.size, 1, none⟩ = some (.slice A c.rs.length k) from ⟨cell_new _ _ _ _, cell_new _ _ _ _⟩)
  obtain ⟨q0, q1⟩ := B0.out
  clear h
  go_enter Tryz.func10, Tryz.ntmps10
  go_wp2_with fail
  with_reducible refine (ValidChart_any _ _ _ c H.out).mono ?_
  rintro e w1 ⟨rfl, g1⟩
  have G1 := Lib.hid (Chg.trans U0.out g1)
  have hz1 := G1.out.size
  have H1 := Lib.hid (H.out.up g1)
  have HA1 := Lib.hid (HB0.out.up g1)
  replace q0 := Chg.cell g1 B0.out.1 id
  replace q1 := Chg.cell g1 B0.out.2 id
  clear g1
  cases hb : chartB c with
  | false =>
    have HV := Lib.hid (plan_no hb)
    clear hb
    go_wp2
    go_ret2
    rw [HV.out.1, HV.out.2]
    exact ⟨_, rfl, Ints.nil _ _ _ _ (by omega), G1.out⟩
  | true =>
    have HV := Lib.hid (plan_yes hb)
    have HKO := Lib.hid (chartOk_of hb)
    clear hb
    go_wp2_with fail
    with_reducible refine (compiled_any _ _ _ c H1.out HKO.out).mono ?_
    rintro e w2 ⟨v1, v2, rfl, k1, k2, g2⟩
    have K2 := Lib.hid (k2.new hz1)
    have G2 := Lib.hid (Chg.trans G1.out g2)
    clear g2 k1 k2 q0 q1
    go_wp2
    go_ret2
    rw [HV.out.1, HV.out.2]
    exact ⟨_, rfl, K2.out, G2.out⟩
theorem sCarrierPlan_X (w : World) (S : Nat → Prop) (v : Value) (c : ChartM) (h0 : ChartX w S v c) :
    Calls Tryz.prog 8 #[v] w fun e w' => ∃ v', e = .returned (.tuple #[v', .int .i64 (planC c)]) ∧ Ints w' (New w.heap.size w'.heap.size) v' (planO c) ∧ Up w w' := by
  have h := h0.cv
  clear h0
  obtain ⟨A, k, rfl, -⟩ := h.shape
  have U0 := Lib.hid ((Chg.refl Nowhere w).alloc (.cells #[.int .i64 c.n, .slice A c.rs.length k] 31))
  have H := Lib.hid (h.up U0.out)
  have HB0 := Lib.hid h.box
  have B0 := Lib.hid (show (w.alloc (.cells #[.int .i64 c.n, .slice A c.rs.length k] 31)).cell? ⟨w.heap.size, 0, none⟩ = some (.int .i64 c.n) ∧ (w.alloc (.cells #[.int .i64 c.n, .slice A c.rs.length k] 31)).cell? ⟨w.heap.size, 1, none⟩ = some (.slice A c.rs.length k) from ⟨cell_new _ _ _ _, cell_new _ _ _ _⟩)
  obtain ⟨q0, q1⟩ := B0.out
  clear h
  go_enter Tryz.func8, Tryz.ntmps8
  go_wp2_with fail
  with_reducible refine (sValidChart_any _ _ _ c H.out).mono ?_
  rintro e w1 ⟨rfl, g1⟩
  have G1 := Lib.hid (Chg.trans U0.out g1)
  have hz1 := G1.out.size
  have H1 := Lib.hid (H.out.up g1)
  have HA1 := Lib.hid (HB0.out.up g1)
  replace q0 := Chg.cell g1 B0.out.1 id
  replace q1 := Chg.cell g1 B0.out.2 id
  clear g1
  cases hb : chartB c with
  | false =>
    have HV := Lib.hid (plan_no hb)
    clear hb
    go_wp2
    go_ret2
    rw [HV.out.1, HV.out.2]
    exact ⟨_, rfl, Ints.nil _ _ _ _ (by omega), G1.out⟩
  | true =>
    have HV := Lib.hid (plan_yes hb)
    have HKO := Lib.hid (chartOk_of hb)
    clear hb
    go_wp2_with fail
    with_reducible refine (l24Made_any _ _ _ _ c HA1.out HKO.out).mono ?_
    rintro e w2 ⟨v1, v2, rfl, k1, k2, g2⟩
    have K2 := Lib.hid (k2.new hz1)
    have G2 := Lib.hid (Chg.trans G1.out g2)
    clear g2 k1 k2 q0 q1
    go_wp2
    go_ret2
    rw [HV.out.1, HV.out.2]
    exact ⟨_, rfl, K2.out, G2.out⟩
theorem CompileRows_any (w : World) (S : Nat → Prop) (v : Value) (c : ChartM) (h : ChartV w S v c) :
    Calls Tryz.prog 24 #[v] w fun e w' => ∃ v', e = .returned (.tuple #[v', .int .i64 (rowsC c)]) ∧ OpSS w' (New w.heap.size w'.heap.size) v' (rowsO c) ∧ Up w w' := by
  obtain ⟨A, k, rfl, -⟩ := h.shape
  have U0 := Lib.hid ((Chg.refl Nowhere w).alloc (.cells #[.int .i64 c.n, .slice A c.rs.length k] 31))
  have H := Lib.hid (h.up U0.out)
  have HB0 := Lib.hid h.box
  have B0 := Lib.hid (show (w.alloc (.cells #[.int .i64 c.n, .slice A c.rs.length k] 31)).cell? ⟨w.heap.size, 0, none⟩ = some (.int .i64 c.n) ∧ (w.alloc (.cells #[.int .i64 c.n, .slice A c.rs.length k] 31)).cell? ⟨w.heap.size, 1, none⟩ = some (.slice A c.rs.length k) from ⟨cell_new _ _ _ _, cell_new _ _ _ _⟩)
  obtain ⟨q0, q1⟩ := B0.out
  clear h
  go_enter Tryz.func24, Tryz.ntmps24
  go_wp2_with fail
  with_reducible refine (ValidChart_any _ _ _ c H.out).mono ?_
  rintro e w1 ⟨rfl, g1⟩
  have G1 := Lib.hid (Chg.trans U0.out g1)
  have hz1 := G1.out.size
  have H1 := Lib.hid (H.out.up g1)
  have HA1 := Lib.hid (HB0.out.up g1)
  replace q0 := Chg.cell g1 B0.out.1 id
  replace q1 := Chg.cell g1 B0.out.2 id
  clear g1
  cases hb : chartB c with
  | false =>
    have HV := Lib.hid (rows_no hb)
    clear hb
    go_wp2
    go_ret2
    rw [HV.out.1, HV.out.2.1]
    exact ⟨_, rfl, OpSS.nil _ _ _ _ (by omega), G1.out⟩
  | true =>
    have HKO := Lib.hid (chartOk_of hb)
    have HB := Lib.hid hb
    have HLE := Lib.hid (lenC_le hb)
    clear hb
    go_wp2_with fail
    with_reducible refine (compiled_any _ _ _ c H1.out HKO.out).mono ?_
    rintro e w2 ⟨v1, v2, rfl, k1, k2, g2⟩
    have hz2 := g2.size
    have K1 := Lib.hid (k1.new hz1)
    have G2 := Lib.hid (Chg.trans G1.out g2)
    obtain ⟨A1, c1, rfl, hl1, hc1, -⟩ := k1.shape
    obtain ⟨vs, R, Q, r1, r2, r3, r4, r5⟩ := k1
    have HCC := Lib.hid (concatOps_any w2 R (New w1.heap.size w2.heap.size) (.slice A1 (partsM c).length c1) vs (partsM c) (by simpa using r1.1) r1 (fun i u y hu hy => by
      obtain ⟨hi, rfl⟩ := List.getElem?_eq_some_iff.1 hy
      obtain ⟨u', hu', hk'⟩ := r5 i hi
      obtain rfl : u' = u := by rw [hu] at hu'; injection hu' with h9; exact h9.symm
      exact hk'.mono fun b _ hq => (r3 i b hq).1) (show lenC c ≤ 1073741824 by have := HLE.out; omega))
    obtain ⟨FL, HF0⟩ : ∃ F, Hid (F = (partsM c).flatten) := ⟨_, Lib.hid rfl⟩
    rw [← HF0.out] at HCC
    have HFL : Hid (FL.length = lenC c) := Lib.hid (by rw [HF0.out]; exact flat_lenC c)
    clear g2 k2 q0 q1 r1 r2 r3 r4 r5
    go_wp2_with fail
    with_reducible refine (HCC.out).mono ?_
    rintro e w3 ⟨v3, rfl, k3, g3⟩
    obtain ⟨A3, c3, rfl, -⟩ := k3.shape
    have G3 := Lib.hid (Chg.trans G2.out g3)
    have K3 := Lib.hid ((K1.out.up g3).mono (T := New w.heap.size w3.heap.size) (fun b hb => ⟨hb.1, Nat.lt_of_lt_of_le hb.2 g3.size⟩))
    rw [HFL.out]
    clear k3 g3 HCC
    by_cases hf : lenC c ≤ 1500
    · have HV := Lib.hid (rows_yes HB.out hf)
      have t1 : decide ((1500 : Int) < (lenC c : Int)) = false := decide_eq_false (by omega)
      clear hf
      go_wp2
      go_ret2
      rw [HV.out.1, HV.out.2.1]
      exact ⟨_, rfl, K3.out, G3.out⟩
    · have HV := Lib.hid (rows_full HB.out hf)
      have t1 : decide ((1500 : Int) < (lenC c : Int)) = true := decide_eq_true (by omega)
      clear hf
      go_wp2
      go_ret2
      rw [HV.out.1, HV.out.2.1]
      exact ⟨_, rfl, OpSS.nil _ _ _ _ (by omega), G3.out⟩
theorem CompileRows_X (w : World) (S : Nat → Prop) (v : Value) (c : ChartM) (h0 : ChartX w S v c) :
    Calls Tryz.prog 24 #[v] w fun e w' => ∃ v', e = .returned (.tuple #[v', .int .i64 (rowsC c)]) ∧ OpSS w' (New w.heap.size w'.heap.size) v' (rowsO c) ∧ Up w w' := CompileRows_any w S v c h0.cv
theorem l24Rows_any (w : World) (S : Nat → Prop) (b o : Nat) (c : ChartM) (h : ChartAt w S b o c) :
    Calls Tryz.prog 36 #[.pointer (some ⟨b, o, none⟩)] w fun e w' => ∃ v', e = .returned (.tuple #[v', .int .i64 (rowsC c)]) ∧ OpSS w' (New w.heap.size w'.heap.size) v' (rowsO c) ∧ Up w w' := by
  have HA := Lib.hid h
  obtain ⟨A, k, q0, q1, hr, hlk, hkm, h64, -⟩ := h
  have HV0 := Lib.hid (show ChartV w S (.agg #[.int .i64 c.n, .slice A c.rs.length k]) c from ⟨_, rfl, hr, h64⟩)
  clear hr h64
  go_enter Tryz.func36, Tryz.ntmps36
  go_wp2_with fail
  with_reducible refine (sValidChart_any _ _ _ c HV0.out).mono ?_
  rintro e w1 ⟨rfl, g1⟩
  have G1 := Lib.hid g1
  have hz1 := G1.out.size
  have HA1 := Lib.hid (HA.out.up g1)
  clear g1 q0 q1
  cases hb : chartB c with
  | false =>
    have HV := Lib.hid (rows_no hb)
    clear hb
    go_wp2
    go_ret2
    rw [HV.out.1, HV.out.2.1]
    exact ⟨_, rfl, OpSS.nil _ _ _ _ (by omega), G1.out⟩
  | true =>
    have HKO := Lib.hid (chartOk_of hb)
    have HB := Lib.hid hb
    have HLE := Lib.hid (lenC_le hb)
    clear hb
    go_wp2_with fail
    with_reducible refine (l24Made_any _ _ _ _ c HA1.out HKO.out).mono ?_
    rintro e w2 ⟨v1, v2, rfl, k1, k2, g2⟩
    have K1 := Lib.hid (k1.new hz1)
    have G2 := Lib.hid (Chg.trans G1.out g2)
    obtain ⟨P, HP⟩ : ∃ P, Hid (P = partsM c) := ⟨_, Lib.hid rfl⟩
    rw [← HP.out] at k1
    have HLN : Hid (lenC c = sumLen P P.length) := Lib.hid (by rw [HP.out]; rfl)
    have K9 := Lib.hid k1
    obtain ⟨A1, c1, rfl, hl1, hc1, -⟩ := k1.shape
    clear g2 k2 k1
    go_wp2
    go_loopw [6, 7] (fun n i wr => ∃ (j : Nat), j ≤ P.length ∧ i = .int .i64 j ∧ n = .int .i64 (sumLen P j : Int) ∧ w2 = wr) (fun _ i _ => P.length - (intOf i).toNat)
    case atStart => exact ⟨0, by omega, rfl, by simp [sumLen], rfl⟩
    case round =>
      obtain ⟨j, hj, rfl, rfl, rfl⟩ := hrel
      by_cases hlt : j < P.length
      · obtain ⟨b9, o9, c9, A9, ci, he, -, -, f9, -, -, -⟩ := K9.out.at_ hlt
        obtain ⟨rfl, rfl⟩ : A1 = some ⟨b9, o9, none⟩ ∧ c1 = c9 := by simpa using he
        have HS := Lib.hid (sumLen_succ P j hlt)
        have hs1 : sumLen P (j + 1) ≤ sumLen P P.length := by
          have h1 := sumLen_le (P.take (j + 1)) (j + 1)
          have h2 : sumLen P (j + 1) = (P.take (j + 1)).flatten.length := (flat_take_length P (j + 1)).symm
          have h3 : sumLen P P.length = P.flatten.length := by rw [← flat_take_length, List.take_length]
          rw [h2, h3]
          conv => rhs; rw [← List.take_append_drop (j + 1) P, List.flatten_append, List.length_append]
          omega
        have hs2 : sumLen P j + P[j].length ≤ 50010 := by have := HLE.out; rw [HLN.out] at this; rw [← HS.out]; omega
        clear he hs1
        go_wp2
        go_roundw
        case rel => exact ⟨j + 1, by omega, by go_num, by rw [HS.out]; simp only [Value.int.injEq, true_and]; omega, by first | rfl | trivial⟩
        case measure => first | (simp [intOf]; done) | (simp [intOf]; omega)
      · obtain rfl : j = P.length := by omega
        by_cases hf : sumLen P P.length ≤ 1500
        · have HV := Lib.hid (rows_yes HB.out (by rw [HLN.out]; exact hf))
          have t1 : decide ((1500 : Int) < (sumLen P P.length : Int)) = false := decide_eq_false (by omega)
          clear hf
          go_wp2
          go_ret2
          rw [HV.out.1, HV.out.2.1]
          exact ⟨_, rfl, by rw [← HP.out] at *; exact K1.out, G2.out⟩
        · have HV := Lib.hid (rows_full HB.out (by rw [HLN.out]; exact hf))
          have t1 : decide ((1500 : Int) < (sumLen P P.length : Int)) = true := decide_eq_true (by omega)
          clear hf
          go_wp2
          go_ret2
          rw [HV.out.1, HV.out.2.1]
          exact ⟨_, rfl, OpSS.nil _ _ _ _ (by omega), G2.out⟩
theorem sCompileRows_X (w : World) (S : Nat → Prop) (v : Value) (c : ChartM) (h0 : ChartX w S v c) :
    Calls Tryz.prog 23 #[v] w fun e w' => ∃ v', e = .returned (.tuple #[v', .int .i64 (rowsC c)]) ∧ OpSS w' (New w.heap.size w'.heap.size) v' (rowsO c) ∧ Up w w' := by
  have h := h0.cv
  clear h0
  obtain ⟨A, k, rfl, -⟩ := h.shape
  have U0 := Lib.hid ((Chg.refl Nowhere w).alloc (.cells #[.int .i64 c.n, .slice A c.rs.length k] 31))
  have H := Lib.hid (h.up U0.out)
  have HB0 := Lib.hid h.box
  have B0 := Lib.hid (show (w.alloc (.cells #[.int .i64 c.n, .slice A c.rs.length k] 31)).cell? ⟨w.heap.size, 0, none⟩ = some (.int .i64 c.n) ∧ (w.alloc (.cells #[.int .i64 c.n, .slice A c.rs.length k] 31)).cell? ⟨w.heap.size, 1, none⟩ = some (.slice A c.rs.length k) from ⟨cell_new _ _ _ _, cell_new _ _ _ _⟩)
  obtain ⟨q0, q1⟩ := B0.out
  clear h
  go_enter Tryz.func23, Tryz.ntmps23
  go_wp2_with fail
  with_reducible refine (l24Rows_any _ _ _ _ c HB0.out).mono ?_
  rintro e w1 ⟨v1, rfl, k1, g1⟩
  obtain ⟨A1, c1, rfl, -⟩ := k1.shape
  have K1 := Lib.hid (k1.new U0.out.size)
  have G1 := Lib.hid (Chg.trans U0.out g1)
  clear k1 g1 q0 q1
  go_wp2
  go_ret2
  exact ⟨_, rfl, K1.out, G1.out⟩
theorem CompileChart_X (w : World) (S : Nat → Prop) (v : Value) (c : ChartM) (h0 : ChartX w S v c) :
    Calls Tryz.prog 19 #[v] w fun e w' => ∃ v', e = .returned (.tuple #[v', .int .i64 (rowsC c)]) ∧ Ops w' (New w.heap.size w'.heap.size) v' (chO c) ∧ Up w w' := by
  have h := h0.cv
  clear h0
  obtain ⟨A, k, rfl, -⟩ := h.shape
  have U0 := Lib.hid ((Chg.refl Nowhere w).alloc (.cells #[.int .i64 c.n, .slice A c.rs.length k] 31))
  have H := Lib.hid (h.up U0.out)
  have HB0 := Lib.hid h.box
  have B0 := Lib.hid (show (w.alloc (.cells #[.int .i64 c.n, .slice A c.rs.length k] 31)).cell? ⟨w.heap.size, 0, none⟩ = some (.int .i64 c.n) ∧ (w.alloc (.cells #[.int .i64 c.n, .slice A c.rs.length k] 31)).cell? ⟨w.heap.size, 1, none⟩ = some (.slice A c.rs.length k) from ⟨cell_new _ _ _ _, cell_new _ _ _ _⟩)
  obtain ⟨q0, q1⟩ := B0.out
  clear h
  go_enter Tryz.func19, Tryz.ntmps19
  go_wp2_with fail
  with_reducible refine (CompileRows_any _ _ _ c H.out).mono ?_
  rintro e w2 ⟨v1, rfl, k1, g1⟩
  have G1 := Lib.hid (Chg.trans U0.out g1)
  have hz1 := G1.out.size
  clear q0 q1
  by_cases hc : rowsC c = 0
  · have HCO : Hid (rowsO c = partsM c ∧ chO c = (partsM c).flatten) := Lib.hid (by unfold rowsO chO; rw [if_pos hc, if_pos hc]; exact ⟨rfl, rfl⟩)
    have hb : chartB c = true := by
      cases hb : chartB c with
      | true => rfl
      | false => have := (rows_no hb).1; omega
    have hle := lenC_le hb
    rw [HCO.out.1] at k1
    obtain ⟨A1, c1, rfl, hl1, hc1, -⟩ := k1.shape
    obtain ⟨vs, R, Q, r1, r2, r3, r4, r5⟩ := k1
    have HCC := Lib.hid (concatOps_any w2 R (fun _ => True) (.slice A1 (partsM c).length c1) vs (partsM c) (by simpa using r1.1) r1 (fun i u y hu hy => by
      obtain ⟨hi, rfl⟩ := List.getElem?_eq_some_iff.1 hy
      obtain ⟨u', hu', hk'⟩ := r5 i hi
      obtain rfl : u' = u := by rw [hu] at hu'; injection hu' with h9; exact h9.symm
      exact hk'.mono fun b _ hq => trivial) (show lenC c ≤ 1073741824 by omega))
    obtain ⟨FL, HF0⟩ : ∃ F, Hid (F = (partsM c).flatten) := ⟨_, Lib.hid rfl⟩
    rw [← HF0.out] at HCC HCO
    have HC0 := Lib.hid hc
    have t1 : (rowsC c != 0) = false := by simpa using hc
    rw [HC0.out] at t1 ⊢
    clear r1 r2 r3 r4 r5 hle hb hc g1
    go_wp2_with fail
    with_reducible refine (HCC.out).mono ?_
    rintro e w3 ⟨v3, rfl, k3, g3⟩
    obtain ⟨A3, c3, rfl, -⟩ := k3.shape
    have K3 := Lib.hid (k3.new hz1)
    have G3 := Lib.hid (Chg.trans G1.out g3)
    clear k3 g3
    go_wp2
    go_ret2
    rw [HC0.out, HCO.out.2]
    exact ⟨_, rfl, K3.out, G3.out⟩
  · have HCO : Hid (chO c = []) := Lib.hid (by unfold chO; rw [if_neg hc])
    have t1 : (rowsC c != 0) = true := by simpa using hc
    obtain ⟨A1, c1, rfl, -⟩ := k1.shape
    clear k1 g1 hc
    go_wp2
    go_ret2
    rw [HCO.out]
    exact ⟨_, rfl, Ops.nil _ _ _ _ (by omega), G1.out⟩
theorem sCompileChart_X (w : World) (S : Nat → Prop) (v : Value) (c : ChartM) (h0 : ChartX w S v c) :
    Calls Tryz.prog 18 #[v] w fun e w' => ∃ v', e = .returned (.tuple #[v', .int .i64 (rowsC c)]) ∧ Ops w' (New w.heap.size w'.heap.size) v' (chO c) ∧ Up w w' := by
  have HCH : ∀ (w : World) (S : Nat → Prop) (b o : Nat), ChartAt w S b o c → Calls Tryz.prog 37 #[.pointer (some ⟨b, o, none⟩)] w fun e w' => ∃ v', e = .returned (.tuple #[v', .int .i64 (rowsC c)]) ∧ Ops w' (New w.heap.size w'.heap.size) v' (chO c) ∧ Up w w' := by
    clear h0
    intro w S b o h
    have HA := Lib.hid h
    clear h
    go_enter Tryz.func37, Tryz.ntmps37
    go_wp2_with fail
    with_reducible refine (l24Rows_any _ _ _ _ c HA.out).mono ?_
    rintro e w2 ⟨v1, rfl, k1, g1⟩
    have G1 := Lib.hid g1
    have hz1 := G1.out.size
    by_cases hc : rowsC c = 0
    · have HCO : Hid (rowsO c = partsM c ∧ chO c = (partsM c).flatten) := Lib.hid (by unfold rowsO chO; rw [if_pos hc, if_pos hc]; exact ⟨rfl, rfl⟩)
      have hb : chartB c = true := by
        cases hb : chartB c with
        | true => rfl
        | false => have := (rows_no hb).1; omega
      have HLE := Lib.hid (lenC_le hb)
      rw [HCO.out.1] at k1
      obtain ⟨P, HP⟩ : ∃ P, Hid (P = partsM c) := ⟨_, Lib.hid rfl⟩
      rw [← HP.out] at k1
      have HLN : Hid (lenC c = sumLen P P.length) := Lib.hid (by rw [HP.out]; rfl)
      obtain ⟨A1, c1, rfl, hl1, hc1, -⟩ := k1.shape
      have K9 := Lib.hid (k1.mono (T := fun x => x < w2.heap.size) (fun x hx => hx.2))
      have HC0 := Lib.hid hc
      have t1 : (rowsC c != 0) = false := by simpa using hc
      rw [HC0.out] at t1 ⊢
      clear hb hc g1 k1
      go_wp2
      go_loopw [6, 7] (fun q0 i wr => ∃ (j : Nat) (q : Value), q = q0 ∧ j ≤ P.length ∧ i = .int .i64 j ∧ Hid (OwnO wr w2.heap.size q (P.take j).flatten) ∧ Hid (Up w2 wr)) (fun _ i _ => P.length - (intOf i).toNat)
      case atStart => exact ⟨0, _, rfl, by omega, rfl, Lib.hid (OwnO.made w2 _ (Nat.le_refl _)), Lib.hid ((Chg.refl _ _).alloc _)⟩
      case round =>
        obtain ⟨j, q, rfl, hj, rfl, hq, hu⟩ := hrel
        have hzr : w2.heap.size ≤ wr.heap.size := hu.out.size
        by_cases hlt : j < P.length
        · obtain ⟨b9, o9, c9, A9, ci, he, -, -, f9, k9, -, -⟩ := (K9.out.up hu.out).at_ hlt
          obtain ⟨rfl, rfl⟩ : A1 = some ⟨b9, o9, none⟩ ∧ c1 = c9 := by simpa using he
          have K10 := Lib.hid k9
          have HF := Lib.hid (flat_take P j hlt)
          have HLL : Hid ((P.take j).flatten.length + P[j].length ≤ 1099511627776) := Lib.hid (by
            have h1 : (P.take (j + 1)).flatten.length ≤ P.flatten.length := by
              conv => rhs; rw [← List.take_append_drop (j + 1) P, List.flatten_append, List.length_append]
              omega
            have h3 : sumLen P P.length = P.flatten.length := by rw [← flat_take_length, List.take_length]
            rw [HF.out, List.length_append] at h1
            have := HLE.out
            rw [HLN.out, h3] at this
            omega)
          clear he k9
          go_wp2_with (first | (at_builtin; refine wp_append_ops rfl _ _ rfl w2.heap.size _ (P.take j).flatten rfl hq.out _ _ P[j] rfl K10.out HLL.out hzr ?_; intro v5 w5 ho5 _ g5; have HO5 := Lib.hid ho5; have HU5 := Lib.hid (show Up w2 w5 from Chg.new hu.out g5 (fun i hi h9 => by omega)); clear ho5 g5))
          go_roundw
          case rel => exact ⟨j + 1, _, rfl, by omega, by go_num, Lib.hid (by rw [HF.out]; exact HO5.out), HU5⟩
          case measure => first | (simp [intOf]; done) | (simp [intOf]; omega)
        · obtain rfl : j = P.length := by omega
          obtain ⟨FL, HFL⟩ : ∃ F, Hid (F = (P.take P.length).flatten) := ⟨_, Lib.hid rfl⟩
          rw [← HFL.out] at hq
          have HFE : Hid (chO c = FL) := Lib.hid (by rw [HCO.out.2, ← HP.out, HFL.out, List.take_length])
          obtain ⟨A6, c6, rfl, -⟩ := hq.out.ops.shape
          go_wp2
          go_ret2
          rw [HC0.out, HFE.out]
          exact ⟨_, rfl, hq.out.ops.new hz1, Chg.trans G1.out hu.out⟩
    · have HCO : Hid (chO c = []) := Lib.hid (by unfold chO; rw [if_neg hc])
      have t1 : (rowsC c != 0) = true := by simpa using hc
      obtain ⟨A1, c1, rfl, -⟩ := k1.shape
      clear k1 g1 hc
      go_wp2
      go_ret2
      rw [HCO.out]
      exact ⟨_, rfl, Ops.nil _ _ _ _ (by omega), G1.out⟩
  have HCH := Lib.hid HCH
  have h := h0.cv
  clear h0
  obtain ⟨A, k, rfl, -⟩ := h.shape
  have U0 := Lib.hid ((Chg.refl Nowhere w).alloc (.cells #[.int .i64 c.n, .slice A c.rs.length k] 31))
  have H := Lib.hid (h.up U0.out)
  have HB0 := Lib.hid h.box
  have B0 := Lib.hid (show (w.alloc (.cells #[.int .i64 c.n, .slice A c.rs.length k] 31)).cell? ⟨w.heap.size, 0, none⟩ = some (.int .i64 c.n) ∧ (w.alloc (.cells #[.int .i64 c.n, .slice A c.rs.length k] 31)).cell? ⟨w.heap.size, 1, none⟩ = some (.slice A c.rs.length k) from ⟨cell_new _ _ _ _, cell_new _ _ _ _⟩)
  obtain ⟨q0, q1⟩ := B0.out
  clear h
  go_enter Tryz.func18, Tryz.ntmps18
  go_wp2_with fail
  with_reducible refine (HCH.out _ _ _ _ HB0.out).mono ?_
  rintro e w1 ⟨v1, rfl, k1, g1⟩
  obtain ⟨A1, c1, rfl, -⟩ := k1.shape
  have K1 := Lib.hid (k1.new U0.out.size)
  have G1 := Lib.hid (Chg.trans U0.out g1)
  clear k1 g1 q0 q1
  go_wp2
  go_ret2
  exact ⟨_, rfl, K1.out, G1.out⟩
end Go.Proofs.YtnjfhpgmogopnaaGreat
end
namespace Go.Proofs.YtnjfhpgmogopnaaGreat
open Go.ChangeShapes Go.WideShapes Go.ChangeAt Go.RowKit Go.Deep
section
variable {H : Type} {enc : TypeId × Value → H} {P : Program} {w : World}
/-- from 'each of the first m elements reads as a record' to one list -/
theorem rows_of {α : Type} {Q : Nat → α → Prop} : ∀ (m : Nat), (∀ i, i < m → ∃ y, Q i y) → ∃ ys : List α, ys.length = m ∧ ∀ i (h : i < ys.length), Q i ys[i]
  | 0, _ => ⟨[], rfl, fun i h => absurd h (by simp)⟩
  | m + 1, h => by
    obtain ⟨ys, hl, hq⟩ := rows_of m (fun i hi => h i (by omega))
    obtain ⟨y, hy⟩ := h m (by omega)
    refine ⟨ys ++ [y], by simp [hl], fun i hi => ?_⟩
    by_cases e : i < ys.length
    · rw [List.getElem_append_left e]; exact hq i e
    · have hi' : i = m := by simp at hi; omega
      subst hi'
      rw [List.getElem_append_right (by omega)]
      simpa [hl] using hy
theorem open_rows {α : Type} (f : α → List Value) (k : Nat) (ok : α → Prop) (hf : ∀ x, (f x).length = k) {t e : TypeId} {v : Value} {d : DataW H} {p : List MemPlace} {base : Nat}
    (ht : P.underlying t = some (.slice e)) (hC : P.cellsOf e = k) (hv : Value.okWide P w .any base t v) (hk : 0 < k)
    (hdec : ∀ n cs x, DataW.trod enc P w 0 (fun _ => true) true n e cs = some x → ∃ y, cs = f y ∧ ok y)
    (h : DataW.Trod enc P w 0 (fun _ => true) true t v d p) (hz : ∀ b off, MemPlace.cell b off ∈ p → w.frozen? ⟨b, off, none⟩ = false) :
    ∃ xs : List α, Raw w (fun b => b < w.heap.size) k v xs.length (xs.flatMap f) ∧ ∀ x ∈ xs, ok x := by
  obtain ⟨a0, len, cap, rfl⟩ := okWide_slice ht hv
  obtain ⟨fuel, hfu⟩ := h
  rcases open_slice ht hfu with ⟨hcs, hx⟩ | ⟨a, len', cap', m, n, D, Pl, hcs, _, hl, hm, hmm, hx, hi⟩
  · simp [Value.cells] at hcs
    obtain ⟨rfl, rfl, rfl⟩ := hcs
    exact ⟨[], Raw.nil _ _ _ _ _ (by omega) (by simp), by simp⟩
  · simp [Value.cells] at hcs
    obtain ⟨rfl, rfl, rfl⟩ := hcs
    simp at hmm
    rw [hC] at hi hx
    obtain ⟨ys, hyl, hy⟩ := rows_of (Q := fun i y => ok y ∧ ∀ j u, (f y)[j]? = some u → w.cell? (a.add (i * k + j)) = some u) len (fun i hil => by
      obtain ⟨cs', hc, htr⟩ := hi i (by omega)
      obtain ⟨y, rfl, hok⟩ := hdec _ _ _ htr
      obtain ⟨_, hcl, hat⟩ := World.cells?_some hc
      refine ⟨y, hok, fun j u hu => ?_⟩
      have hj : j < k := by
        obtain ⟨h1, _⟩ := List.getElem?_eq_some_iff.1 hu
        rw [hf] at h1; exact h1
      rw [← Go.Deep.add_add, hat j hj, hu])
    subst hyl
    unfold Go.maxLen at hm
    have hspot : 0 < ys.length → ∃ b o, a = ⟨b, o, none⟩ := fun hp => by
      obtain ⟨b, o, s⟩ := a
      have h0 := (hy 0 hp).2 0 _ (List.getElem?_eq_getElem (by rw [hf]; exact hk))
      have hs : s = none := by simpa [Addr.add] using World.cell?_spot h0
      subst hs
      exact ⟨b, o, rfl⟩
    refine ⟨ys, ⟨?_, some a, cap, rfl, hl, by omega, fun hp => ?_, by simp⟩, fun x hx => ?_⟩
    · exact flat_length f k hf ys
    · obtain ⟨b, o, rfl⟩ := hspot hp
      have h0 := (hy 0 hp).2 0 _ (List.getElem?_eq_getElem (by rw [hf]; exact hk))
      have hb : b < w.heap.size := by
        have := World.block_lt_of_cell? w _ h0
        simpa [Addr.add] using this
      refine ⟨b, o, rfl, hb, hb, fun q hq => ?_⟩
      have hlen := flat_length f k hf ys
      have hqk : q < ys.length * k := by omega
      have hdi : q / k < ys.length := Nat.div_lt_of_lt_mul (by rw [Nat.mul_comm]; exact hqk)
      have hmo : q % k < k := Nat.mod_lt _ hk
      have hde : q / k * k + q % k = q := by rw [Nat.mul_comm]; exact Nat.div_add_mod q k
      have hg := flat_get f k hf ys (q / k) hdi (q % k) hmo
      rw [hde] at hg
      have hcell := (hy (q / k) hdi).2 (q % k) _ (by rw [← hg]; exact List.getElem?_eq_getElem hq)
      rw [hde, Go.WideShapes.add_plain] at hcell
      refine ⟨hcell, hz b (o + q) ?_⟩
      simp only [Prod.mk.injEq] at hx
      rw [hx.2]
      refine List.mem_append_left _ ?_
      simp [MemPlace.row]
      have : ys.length * k ≤ m * k := Nat.mul_le_mul_right k (by omega)
      omega
    · obtain ⟨i, hi, rfl⟩ := List.getElem_of_mem hx
      exact (hy i hi).1
theorem struct_sub {t : TypeId} {n : Nat} {cs : List Value} {x : DataW H × List MemPlace} {fs : Array Field} (ht : P.underlying t = some (.struct fs)) (h : DataW.trod enc P w 0 (fun _ => true) true n t cs = some x)
    {i : Nat} {f : Field} (hf : fs[i]? = some f) : ∃ m y, DataW.trod enc P w 0 (fun _ => true) true m f.type ((cs.drop f.offset).take (P.cellsOf f.type)) = some y := by
  obtain ⟨ys, m, _, _, _, hl, hg⟩ := DataW.trod_struct ht h
  have hi := (Array.getElem?_eq_some_iff.1 hf).1
  exact ⟨m, ys[i]'(by omega), (hg i f hf).trans (List.getElem?_eq_getElem (by omega))⟩
theorem struct_int {t : TypeId} {n : Nat} {cs : List Value} {x : DataW H × List MemPlace} {fs : Array Field} (ht : P.underlying t = some (.struct fs)) (h : DataW.trod enc P w 0 (fun _ => true) true n t cs = some x)
    {i : Nat} {f : Field} (hf : fs[i]? = some f) (hu : P.underlying f.type = some (.int .i64)) (hc : P.cellsOf f.type = 1) : ∃ z, cs[f.offset]? = some (.int .i64 z) ∧ I64 z := by
  obtain ⟨m, y, hy⟩ := struct_sub ht h hf
  rw [hc] at hy
  obtain ⟨z, he, _, hw⟩ := DataW.trod_int hu hy
  refine ⟨z, ?_, I64.of_wf hw⟩
  have := congrArg (fun l => l[0]?) he
  simpa using this
theorem struct_len {t : TypeId} {n : Nat} {cs : List Value} {x : DataW H × List MemPlace} {fs : Array Field} (ht : P.underlying t = some (.struct fs)) (h : DataW.trod enc P w 0 (fun _ => true) true n t cs = some x) :
    cs.length = P.cellsOf t := by
  obtain ⟨_, _, _, _, hl, _⟩ := DataW.trod_struct ht h
  exact hl
theorem len2 {cs : List Value} (h : cs.length = 2) : ∃ a b, cs = [a, b] := by
  match cs, h with
  | [a, b], _ => exact ⟨a, b, rfl⟩
theorem len8 {cs : List Value} (h : cs.length = 8) : ∃ a b c d e f g i, cs = [a, b, c, d, e, f, g, i] := by
  match cs, h with
  | [a, b, c, d, e, f, g, i], _ => exact ⟨a, b, c, d, e, f, g, i, rfl⟩
end
theorem int1 : Tryz.prog.cellsOf 2 = 1 := by kernel_rfl
section
variable {H : Type} {enc : TypeId × Value → H} {w : World}
end
end Go.Proofs.YtnjfhpgmogopnaaGreat
namespace Go.Proofs.YtnjfhpgmogopnaaGreat
open Go.ChangeShapes Go.WideShapes Go.ChangeAt Go.RowKit Go.Deep
theorem open_IntsT {H : Type} {enc : TypeId × Value → H} {P : Program} {w : World} {t e : TypeId} {n : Nat} {u : Value} {y : DataW H × List MemPlace}
    (ht : P.underlying t = some (.slice e)) (he : P.underlying e = some (.int .i64)) (hC : P.cellsOf e = 1)
    (h : DataW.trod enc P w 0 (fun _ => true) true n t [u] = some y) (hz : ∀ b off, MemPlace.cell b off ∈ y.2 → w.frozen? ⟨b, off, none⟩ = false) :
    ∃ xs, Ints w (fun b => b < w.heap.size) u xs := by
  rcases open_ints ht he hC h with ⟨hcs, hx⟩ | ⟨a, len', cap', zs, hcs, _, hl, hm, hlen, hx, hcell, hwz⟩
  · simp at hcs
    subst hcs
    exact ⟨[], Ints.nil _ _ _ _ (by omega)⟩
  · simp at hcs
    subst hcs
    unfold Go.maxLen at hm
    simp at hlen
    have hzl : (zs.take len').length = len' := by simp; omega
    refine ⟨zs.take len', some a, cap', by rw [hzl], by rw [hzl]; exact hl, by omega, fun x hx => I64.of_wf (hwz x (List.mem_of_mem_take hx)), fun hp => ?_, by simp⟩
    rw [hzl] at hp
    obtain ⟨b, off, rfl, hc⟩ := ints_at hcell (by omega)
    have hb : b < w.heap.size := World.block_lt_of_cell? w _ (hc 0 (by omega))
    refine ⟨b, off, rfl, hb, hb, fun j hj => ?_⟩
    have hj' : j < len' := by rwa [hzl] at hj
    have hjz : j < zs.length := by omega
    refine ⟨by rw [hc j hjz]; simp [hjz], hz b (off + j) ?_⟩
    rw [hx]
    simp [MemPlace.row]
    exact hjz
set_option maxRecDepth 100000 in
theorem open_Row {H : Type} {enc : TypeId × Value → H} {w : World} {v : Value} {d : DataW H} {p : List MemPlace} {base : Nat}
    (hv : Value.okWide Tryz.prog w .any base 70 v) (h : DataW.Trod enc Tryz.prog w 0 (fun _ => true) true 70 v d p)
    (hz : ∀ b off, MemPlace.cell b off ∈ p → w.frozen? ⟨b, off, none⟩ = false) : ∃ r, RowV w (fun b => b < w.heap.size) v r := by
  obtain ⟨v0, v1, v2, y0, y1, y2, n, rfl, -, rfl, h0, h1, h2⟩ := Go.Joins.open_agg3 Tryz.underlying70 (by kernel_rfl) (show Tryz.prog.cellsOf 70 = 3 by kernel_rfl) hv h
  obtain ⟨a0, e0, -, w0⟩ := DataW.trod_int Tryz.underlying2 h0
  obtain ⟨a1, e1, -, w1⟩ := DataW.trod_int Tryz.underlying2 h1
  simp only [List.cons.injEq, and_true] at e0 e1
  subst e0 e1
  obtain ⟨xs, hx⟩ := open_IntsT Tryz.underlying26 Tryz.underlying2 (by kernel_rfl) h2 (fun b off hm => hz b off (by simp [hm]))
  exact ⟨⟨a0, a1, xs⟩, _, rfl, hx, I64.of_wf w0, I64.of_wf w1⟩
end Go.Proofs.YtnjfhpgmogopnaaGreat
namespace Go.Proofs.YtnjfhpgmogopnaaGreat
open Go.ChangeShapes Go.WideShapes Go.ChangeAt Go.RowKit Go.Deep
set_option maxRecDepth 100000 in
theorem dec_RowT {H : Type} {enc : TypeId × Value → H} {w : World} {n : Nat} {cs : List Value} {x : DataW H × List MemPlace}
    (h : DataW.trod enc Tryz.prog w 0 (fun _ => true) true n 70 cs = some x) (hz : ∀ b off, MemPlace.cell b off ∈ x.2 → w.frozen? ⟨b, off, none⟩ = false) :
    ∃ r : RowM, ∃ A c, cs = [.int .i64 r.d, .int .i64 r.c, .slice A r.xs.length c] ∧ Ints w (fun b => b < w.heap.size) (.slice A r.xs.length c) r.xs ∧ r.xs.length ≤ c ∧ c ≤ 9223372036854775807 ∧ I64 r.d ∧ I64 r.c := by
  obtain ⟨y0, y1, y2, m, rfl, hl, h0, h1, h2⟩ := trod_struct3 Tryz.underlying70 h
  have hl3 : cs.length = 3 := hl.trans (by kernel_rfl)
  obtain ⟨u0, u1, u2, rfl⟩ : ∃ a b c, cs = [a, b, c] := by
    match cs, hl3 with
    | [a, b, c], _ => exact ⟨a, b, c, rfl⟩
  have c1 : Tryz.prog.cellsOf 2 = 1 := by kernel_rfl
  have c2 : Tryz.prog.cellsOf 26 = 1 := by kernel_rfl
  simp only [c1, c2] at h0 h1 h2
  obtain ⟨a0, e0, -, w0⟩ := DataW.trod_int Tryz.underlying2 h0
  obtain ⟨a1, e1, -, w1⟩ := DataW.trod_int Tryz.underlying2 h1
  simp at e0 e1
  subst e0 e1
  obtain ⟨xs, hx⟩ := open_IntsT (u := u2) Tryz.underlying26 Tryz.underlying2 (by kernel_rfl) (by simpa using h2) (fun b off hm => hz b off (by simp [hm]))
  obtain ⟨A, c, rfl, k1, k2, k3⟩ := hx.shape
  exact ⟨⟨a0, a1, xs⟩, A, c, rfl, hx, k1, k2, I64.of_wf w0, I64.of_wf w1⟩
set_option maxRecDepth 100000 in
theorem open_RowsT {H : Type} {enc : TypeId × Value → H} {w : World} {n : Nat} {u : Value} {y : DataW H × List MemPlace}
    (h : DataW.trod enc Tryz.prog w 0 (fun _ => true) true n 22 [u] = some y) (hz : ∀ b off, MemPlace.cell b off ∈ y.2 → w.frozen? ⟨b, off, none⟩ = false) :
    ∃ rs, RowsV w (fun b => b < w.heap.size) u rs := by
  have hC : Tryz.prog.cellsOf 70 = 3 := by kernel_rfl
  rcases open_slice (e := 70) Tryz.underlying22 h with ⟨hcs, hx⟩ | ⟨a, len, cap, m, n, D, Pl, hcs, _, hl, hm, hmm, hx, hi⟩
  · simp at hcs
    subst hcs
    exact ⟨[], none, 0, rfl, by simp, by omega, fun h => by simp at h, by simp⟩
  · simp at hcs
    subst hcs
    simp at hmm
    rw [hC] at hi hx
    unfold Go.maxLen at hm
    obtain ⟨rs, hrl, hr⟩ := rows_of (Q := fun i (r : RowM) => ∃ A c, (∀ j v, ([Value.int .i64 r.d, .int .i64 r.c, .slice A r.xs.length c] : List Value)[j]? = some v → w.cell? (a.add (i * 3 + j)) = some v) ∧ Ints w (fun b => b < w.heap.size) (.slice A r.xs.length c) r.xs ∧ r.xs.length ≤ c ∧ c ≤ 9223372036854775807 ∧ I64 r.d ∧ I64 r.c) len (fun i hil => by
      obtain ⟨cs', hc, htr⟩ := hi i (by omega)
      obtain ⟨r, A, c, rfl, k1, k2⟩ := dec_RowT htr (fun b off hm9 => hz b off (by
        rw [hx]
        exact List.mem_append_right _ (List.mem_flatMap.2 ⟨i, by simp; omega, hm9⟩)))
      obtain ⟨_, hcl, hat⟩ := World.cells?_some hc
      refine ⟨r, A, c, fun j v hv => ?_, k1, k2⟩
      have hj : j < 3 := by
        obtain ⟨h1, _⟩ := List.getElem?_eq_some_iff.1 hv
        exact h1
      rw [← Go.Deep.add_add, hat j hj, hv])
    subst hrl
    refine ⟨rs, some a, cap, rfl, hl, by omega, fun hp => ?_, by simp⟩
    obtain ⟨b, o, s⟩ := a
    obtain ⟨A0, c0, q0, -⟩ := hr 0 hp
    have h0 := q0 0 _ rfl
    have hs : s = none := by simpa [Addr.add] using World.cell?_spot h0
    subst hs
    have hb : b < w.heap.size := by
      have := World.block_lt_of_cell? w _ h0
      simpa [Addr.add] using this
    refine ⟨b, o, rfl, hb, fun i hi' => ?_⟩
    obtain ⟨A, c, q, k1, k2, k3, k4⟩ := hr i hi'
    have g0 := q 0 _ rfl
    have g1 := q 1 _ rfl
    have g2 := q 2 _ rfl
    rw [Go.WideShapes.add_plain] at g0 g1 g2
    exact ⟨A, c, g0, g1, g2, k1, k2, k3, k4, hb⟩
set_option maxRecDepth 100000 in
theorem open_Chart {H : Type} {enc : TypeId × Value → H} {w : World} {v : Value} {d : DataW H} {p : List MemPlace} {base : Nat}
    (hv : Value.okWide Tryz.prog w .any base 24 v) (h : DataW.Trod enc Tryz.prog w 0 (fun _ => true) true 24 v d p)
    (hz : ∀ b off, MemPlace.cell b off ∈ p → w.frozen? ⟨b, off, none⟩ = false) : ∃ r, ChartV w (fun b => b < w.heap.size) v r := by
  obtain ⟨v0, v1, y0, y1, n, rfl, -, rfl, h0, h1⟩ := Go.Joins.open_agg2 Tryz.underlying24 (by kernel_rfl) (show Tryz.prog.cellsOf 24 = 2 by kernel_rfl) hv h
  obtain ⟨a0, e0, -, w0⟩ := DataW.trod_int Tryz.underlying2 h0
  simp only [List.cons.injEq, and_true] at e0
  subst e0
  obtain ⟨rs, hx⟩ := open_RowsT h1 (fun b off hm => hz b off (by simp [hm]))
  exact ⟨⟨a0, rs⟩, _, rfl, hx, I64.of_wf w0⟩
end Go.Proofs.YtnjfhpgmogopnaaGreat
