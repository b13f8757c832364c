/- New columns and the targets of columns, on both sides. No condition but room. StacksAfter, the program's. No condition. StacksAfter, the reference's. No condition. StacksAfter of the reference: too thick or not; the whole. No condition. StacksAfter of the reference: the whole. No condition. Appending numbers to a row of one's own, as a step of a region that draws. No condition. The letters of a row of stitches, and their bounds: plain data. No condition. Rows under construction: slices of operations to which the call appends. No condition but room. -/
import Derived.Test.YtchfjglofmphfaaPD6
import Derived.Laws.AppendOwnNone
import Derived.Test.YtchfjglofmphfaaPD5
import Derived.Deep.QuietTactic
import Derived.Test.YtchfjglofmphfaaPD1
import Derived.Test.YtchfjglofmphfaaPD3
namespace Go.Proofs.Ytchfjglofmphfaa
open Go.ChangeShapes Go.WideShapes Go.ChangeAt Go.RowKit
set_option maxRecDepth 100000 in
/-- 'out = append(out, list...)' -/
theorem wp_append_ints {w : World} {ops : Array Oper} {rest : List Oper} {o : Oper} {a : Act} {Q : Exit → Act → World → Prop} (hgd : o.guard = none) (s x : Operand)
    (ho : o.op = .call { callee := .builtin .append, args := #[s, x], argTypes := #[25, 25] })
    (base : Nat) (v : Value) (xs : List Int) (hs : a.eval s = v) (hown : OwnI w base v xs)
    (S : Nat → Prop) (u : Value) (ys : List Int) (hx : a.eval x = u) (hsrc : Ints w S u ys) (hlen : xs.length + ys.length ≤ 1099511627776) (hbase : base ≤ w.heap.size)
    (h : ∀ v' w', OwnI w' base v' (xs ++ ys) → Chg (fun b => v.ownBlock = some b) w w' → (∀ b, v'.ownBlock = some b → v.ownBlock = some b ∨ w.heap.size ≤ b) → Chg (fun k => base ≤ k) w w' → wpList Try.prog ops Q rest (a.put o.dst v') w') : wpList Try.prog ops Q (o :: rest) a w := by
  obtain ⟨i0, hi, hz0, hz1, hz2⟩ := info_parts info2
  obtain ⟨A, c, rfl, hlc, hcm, hok, hr, hnn⟩ := hsrc
  have hok' : ∀ y ∈ xs ++ ys, I64 y := fun y hy => (List.mem_append.1 hy).elim (hown.2 y) (hok y)
  cases A with
  | none =>
    have hy : ys = [] := by
      rcases Nat.eq_zero_or_pos ys.length with h0 | h0
      · exact List.eq_nil_of_length_eq_zero h0
      · obtain ⟨b, oo, h1, _⟩ := hr h0
        cases h1
    subst hy
    obtain rfl := hnn rfl
    refine wpList_append_own_none hgd s x 25 ho base 2 i0 1 Try.underlying25 hi v xs.length _ hs hown.1 hx ?_
    exact h v w (by simpa using hown) (Chg.refl _ _) (fun b hb => .inl hb) (Chg.refl _ _)
  | some ad =>
    have hnews : ∀ j q, (ys.map (Value.int .i64))[j]? = some q → w.cell? (ad.add j) = some q := by
      intro j q hq
      obtain ⟨hj, he⟩ := List.getElem?_eq_some_iff.1 hq
      have hj' : j < ys.length := by simpa using hj
      obtain ⟨b, oo, h1, _, _, hc⟩ := hr (by omega)
      injection h1 with h1
      subst h1
      have := (hc j hj').1
      rw [← he, List.getElem_map, ← this]
      unfold Addr.add
      by_cases h0 : j = 0 <;> simp [h0]
    refine wpList_append_own2 (P := Try.prog) hgd s x 25 ho base 2 i0 (.int .i64 0) 1 8 Try.underlying25 hi hz0 hz1 hz2 rfl (by decide) v xs.length _ hs hown.1 ad ys.length c (ys.map (Value.int .i64)) hx (by simp) hnews ?_ ?_ ?_ hbase ?_
    · intro q hq
      obtain ⟨y, _, rfl⟩ := List.mem_map.1 hq
      rfl
    · unfold Go.maxLen; omega
    · omega
    · intro v' w' h2 h3 h4
      exact h v' w' ⟨by simpa using h2, hok'⟩ (Chg.of_grown h3) h4 ((Chg.refl _ _).grown h3 fun k hk => .inl (hown.1.lt k hk).1)
/-- the columns that stitches StOver make -/
def newL : Int → List Int → List Int
  | _, [] => []
  | a, k :: ks => (if k = 3 then countM a (madeK k) else []) ++ newL (a + madeK k) ks
theorem newL_append : ∀ (ks ls : List Int) (a : Int), newL a (ks ++ ls) = newL a ks ++ newL (a + sumF madeK ks) ls
  | [], ls, a => by simp [newL, sumF]
  | k :: ks, ls, a => by
    simp only [List.cons_append, newL, newL_append ks ls, sumF, List.append_assoc]
    rw [Int.add_assoc]
theorem newL_take {xs : List Int} {j : Nat} (h : j < xs.length) : newL 0 (xs.take (j + 1)) = newL 0 (xs.take j) ++ (if xs[j] = 3 then countM (sumF madeK (xs.take j)) (madeK xs[j]) else []) := by
  rw [List.take_succ_eq_append_getElem h, newL_append]
  simp [newL]
theorem newL_len : ∀ (ks : List Int) (a : Int), (newL a ks).length ≤ 4 * ks.length
  | [], _ => by simp [newL]
  | k :: ks, a => by
    have h1 := newL_len ks (a + madeK k)
    have h2 := madeK_bd k
    simp only [newL, List.length_append, List.length_cons]
    split
    · rw [countM_length]; omega
    · simp; omega
def newOut (r : RowM) : List Int := if rowCodeM r.d r.c r.xs = 0 then newL 0 r.xs else []
theorem newOut_bd (r : RowM) : cntInts (newOut r) ≤ 1000000 := by
  unfold newOut cntInts
  split
  · rename_i h
    have hl := (laid_of h).len
    have := newL_len r.xs 0
    omega
  · simp
def Off (lo hi : Nat) (v : Value) : Prop := ∀ g, v.ownBlock = some g → g < lo ∨ hi ≤ g
end Go.Proofs.Ytchfjglofmphfaa
section
set_option linter.unusedSimpArgs false
set_option linter.unusedVariables false
set_option maxRecDepth 100000
set_option maxHeartbeats 1000000
namespace Go.Proofs.Ytchfjglofmphfaa
open Go.ChangeShapes Go.WideShapes Go.ChangeAt Go.RowKit
theorem saC_1 {st ks : List Int} (h : (stkB st && stB ks) = false) : saC st ks = 1 ∧ saL st ks = [] := by
  have e : saC st ks = 1 := by unfold saC; rw [h]; rfl
  exact ⟨e, by unfold saL; rw [e]; rfl⟩
theorem saC_10 {st ks : List Int} (h : (stkB st && stB ks) = true) (h2 : ¬ sumF takenK ks = st.length) : saC st ks = 10 ∧ saL st ks = [] := by
  have e : saC st ks = 10 := by unfold saC; rw [h, if_pos rfl, if_neg h2]
  exact ⟨e, by unfold saL; rw [e]; rfl⟩
theorem saC_5 {st ks : List Int} (h : (stkB st && stB ks) = true) (h2 : sumF takenK ks = st.length) (h3 : (okTo st ks ks.length && decide ((aftTo st ks ks.length).length ≤ 8)) = false) : saC st ks = 5 ∧ saL st ks = [] := by
  have e : saC st ks = 5 := by unfold saC; rw [h, if_pos rfl, if_pos h2, h3]; rfl
  exact ⟨e, by unfold saL; rw [e]; rfl⟩
theorem saC_0 {st ks : List Int} (h : (stkB st && stB ks) = true) (h2 : sumF takenK ks = st.length) (h3 : (okTo st ks ks.length && decide ((aftTo st ks ks.length).length ≤ 8)) = true) : saC st ks = 0 ∧ saL st ks = aftTo st ks ks.length := by
  have e : saC st ks = 0 := by unfold saC; rw [h, if_pos rfl, if_pos h2, h3]; rfl
  exact ⟨e, by unfold saL; rw [e]; rfl⟩
theorem ix_drop_take {xs : List Int} {i k j : Nat} (hj : j < k) (h : i + j < xs.length) : ix ((xs.drop i).take k) j = ix xs (i + j) := by
  unfold ix
  rw [List.getD_eq_getElem?_getD, List.getD_eq_getElem?_getD, List.getElem?_take, if_pos hj, List.getElem?_drop]
theorem stepS_take {k : Int} {st : List Int} {p n : Nat} (hk : kindB k = true) (hn : (n : Int) = takenK k) (hp : p + n ≤ st.length) : stepS k (ix ((st.drop p).take n) 0) (ix ((st.drop p).take n) 1) = stepS k (ix st p) (ix st (p + 1)) ∧ okS k (ix ((st.drop p).take n) 0) (ix ((st.drop p).take n) 1) = okS k (ix st p) (ix st (p + 1)) := by
  have e0 : 0 < n → ix ((st.drop p).take n) 0 = ix st p := fun h => by rw [ix_drop_take h (by omega)]; rfl
  have e1 : 1 < n → ix ((st.drop p).take n) 1 = ix st (p + 1) := fun h => ix_drop_take h (by omega)
  rcases kindB_cases hk with rfl | rfl | rfl | rfl | rfl | rfl | rfl | rfl | rfl | rfl | rfl
  all_goals (first
    | (have hn : (n : Int) = 1 := hn; rw [e0 (by omega)]; exact ⟨rfl, rfl⟩)
    | (have hn : (n : Int) = 2 := hn; rw [e0 (by omega), e1 (by omega)]; exact ⟨rfl, rfl⟩)
    | exact ⟨rfl, rfl⟩)
theorem StacksAfter_any (w : World) (S S2 : Nat → Prop) (v u : Value) (st ks : List Int) (h : Ints w S v st) (h2 : Ints w S2 u ks) :
    Calls Try.prog 203 #[v, u] w fun e w' => ∃ v', e = .returned (.tuple #[v', .int .i64 (saC st ks)]) ∧ Ints w' (New w.heap.size w'.heap.size) v' (saL st ks) ∧ Up w w' := by
  obtain ⟨A, c, rfl, hlc, hcm, -⟩ := h.shape
  obtain ⟨A2, c2, rfl, hlc2, hcm2, -⟩ := h2.shape
  have H := Lib.hid (h.mono (T := fun b => b < w.heap.size) fun _ h _ => h)
  have H2 := Lib.hid (h2.mono (T := fun b => b < w.heap.size) fun _ h _ => h)
  clear h h2
  go_enter Try.func203, Try.ntmps203
  go_wp2_with fail
  refine (areStacks_any _ _ _ st H.out).mono ?_
  rintro e w' ⟨rfl, rfl⟩
  cases hs : stkB st with
  | false =>
    have HV := Lib.hid (saC_1 (st := st) (ks := ks) (by rw [hs]; rfl))
    clear hs
    go_wp2
    go_ret2
    rw [HV.out.1, HV.out.2]
    exact ⟨_, rfl, Ints.nil _ _ 0 none (by omega), Chg.refl _ _⟩
  | true =>
    have HS := Lib.hid hs
    clear hs
    go_wp2_with fail
    refine (areStitches_any _ _ _ ks H2.out).mono ?_
    rintro e w' ⟨rfl, rfl⟩
    cases hk : stB ks with
    | false =>
      have HV := Lib.hid (saC_1 (st := st) (ks := ks) (by rw [hk, Bool.and_false]))
      clear hk
      go_wp2
      go_ret2
      rw [HV.out.1, HV.out.2]
      exact ⟨_, rfl, Ints.nil _ _ 0 none (by omega), Chg.refl _ _⟩
    | true =>
      have HK := Lib.hid hk
      have HB := Lib.hid (show (stkB st && stB ks) = true by rw [HS.out, hk]; rfl)
      have hks := stB_len hk
      clear hk
      go_wp2_with fail
      refine (takenBy_yes _ _ _ ks H2.out HK.out).mono ?_
      rintro e w' ⟨rfl, rfl⟩
      by_cases hsum : sumF takenK ks = (st.length : Int)
      rotate_left
      · have t1 : (sumF takenK ks == (st.length : Int)) = false := by simpa using hsum
        have t2 : (sumF takenK ks != (st.length : Int)) = true := by simpa using hsum
        have HV := Lib.hid (saC_10 HB.out hsum)
        clear hsum
        go_wp2
        go_ret2
        rw [HV.out.1, HV.out.2]
        exact ⟨_, rfl, Ints.nil _ _ 0 none (by omega), Chg.refl _ _⟩
      have HSUM := Lib.hid hsum
      have t1 : (sumF takenK ks != (st.length : Int)) = false := by simpa using hsum
      clear hsum
      go_wp2
      go_loopw [6, 7, 30] (fun q r i wr => ∃ (j : Nat), j ≤ ks.length ∧ i = .int .i64 j ∧ Hid (OwnI wr w.heap.size q (aftTo st ks j)) ∧ Hid (Ints wr (fun b => b < w.heap.size) r (st.drop (posS ks j))) ∧ Hid (okTo st ks j = true) ∧ Hid (Up w wr)) (fun _ _ i _ => ks.length - (intOf i).toNat)
      case atStart =>
        refine ⟨0, by omega, rfl, OwnI.made _ _ (Nat.le_refl _), ?_, rfl, (Chg.refl _ _).alloc _⟩
        exact (H.out.up ((Chg.refl _ _).alloc _))
      case round =>
        obtain ⟨j, hj, rfl, hq, hr, hok, hu⟩ := hrel
        by_cases hlt : j < ks.length
        · obtain ⟨b, o, rfl, -, hc⟩ := (H2.out.up hu.out).ix hlt
          have f1 := hc j hlt
          rw [ix_eq hlt] at f1
          have HKJ := Lib.hid (stB_kind HK.out _ (List.getElem_mem hlt))
          have HPS := Lib.hid (posS_succ hlt)
          have HPL := Lib.hid (posS_le ks (j + 1))
          have hszr := Lib.hid hu.out.size
          obtain ⟨kd, HKD⟩ : ∃ kd, Hid (ks[j] = kd) := ⟨_, Lib.hid rfl⟩
          rw [HKD.out] at f1 HKJ HPS
          obtain ⟨tk, HTK⟩ : ∃ tk : Nat, Hid (takenK kd = tk) := ⟨(takenK kd).toNat, Lib.hid (by have := takenK_bd kd; omega)⟩
          clear hc
          obtain ⟨Ar, cr, rfl, hlr, hcr, har⟩ := hr.out.shape
          have hpl : posS ks j + tk ≤ st.length := by have a := HPS.out; have b := HPL.out; have c := HSUM.out; have d := HTK.out; rw [d] at a; simp at a; omega
          have hdl : (st.drop (posS ks j)).length = st.length - posS ks j := by simp
          have htc : tk ≤ cr := by omega
          have htc2 : (tk : Int) ≤ cr := by omega
          have htl : (tk : Int) ≤ (st.drop (posS ks j)).length := by omega
          go_wp2_with fail
          refine (ColumnsTaken_any _ _).mono ?_
          rintro e w' ⟨rfl, rfl⟩
          rw [takenOf_ok HKJ.out, HTK.out]
          have hst := stepS_take (st := st) (p := posS ks j) HKJ.out HTK.out.symm hpl
          have HST := Lib.hid hst
          have HR := Lib.hid (show Ints wr (fun b => b < w.heap.size) (.slice Ar tk cr) ((st.drop (posS ks j)).take tk) from hr.out.took (by omega) rfl)
          have htkl : (((st.drop (posS ks j)).take tk).length : Int) = takenK kd := by rw [List.length_take, hdl, HTK.out]; omega
          have HTL := Lib.hid htkl
          have HSB := Lib.hid (stkB_bd HS.out)
          clear hst htkl
          go_wp2_with fail
          refine (madeStacks_any _ _ _ _ HR.out kd HKJ.out HTL.out (fun x hx => HSB.out x (List.mem_of_mem_drop (List.mem_of_mem_take hx)))).mono ?_
          rintro e w2 ⟨v2, rfl, k2, g2⟩
          rw [HST.out.1] at k2
          rw [HST.out.2]
          have HSA : Hid (stepAt st ks j = stepS kd (ix st (posS ks j)) (ix st (posS ks j + 1))) := Lib.hid (by unfold stepAt; rw [ix_eq hlt, HKD.out])
          have HOA : Hid (okAt st ks j = okS kd (ix st (posS ks j)) (ix st (posS ks j + 1))) := Lib.hid (by unfold okAt; rw [ix_eq hlt, HKD.out])
          rw [← HSA.out] at k2
          obtain ⟨A3, c3, rfl, hl3, hc3, -⟩ := k2.shape
          have K2 := Lib.hid k2
          have G2 := Lib.hid g2
          have hz2 := g2.size
          clear k2 g2
          cases hok2 : okS kd (ix st (posS ks j)) (ix st (posS ks j + 1)) with
          | false =>
            have HV := Lib.hid (saC_5 HB.out HSUM.out (by rw [okTo_false hlt (HOA.out.trans hok2)]; rfl))
            clear hok2
            go_wp2
            go_ret2
            rw [HV.out.1, HV.out.2]
            exact ⟨_, rfl, Ints.nil _ _ 0 none (by omega), Chg.trans hu.out G2.out⟩
          | true =>
            have HOK2 : Hid (okTo st ks (j + 1) = true) := Lib.hid (by rw [okTo_succ, hok.out, HOA.out, hok2]; rfl)
            have HQ2 := Lib.hid (hq.out.up G2.out)
            have HR2 := Lib.hid (hr.out.up G2.out)
            have hlen1 := aftTo_len st ks j
            have hlen2 : (stepAt st ks j).length ≤ 4 := stepS_length _ _ _
            have HLN : Hid ((aftTo st ks j).length + (stepAt st ks j).length ≤ 1099511627776) := Lib.hid (by omega)
            have HBS : Hid (w.heap.size ≤ w2.heap.size) := Lib.hid (by have := hszr.out; omega)
            clear hok2 hlen1 hlen2
            go_wp2_with (at_builtin; refine wp_append_ints rfl _ _ rfl w.heap.size _ (aftTo st ks j) rfl HQ2.out _ _ (stepAt st ks j) rfl K2.out HLN.out HBS.out ?_; intro v3 w3 ho3 _ _ hg3; have HO3 := Lib.hid ho3; have HG3 := Lib.hid hg3; clear ho3 hg3)
            have HU3 := Lib.hid (Chg.new (Chg.trans hu.out G2.out) HG3.out (fun i hi h => by have h : w.heap.size ≤ i := h; omega) : Up w w3)
            have HR3 := Lib.hid (HR2.out.keep HG3.out (fun b hb h1 h9 => by have h1 : b < w.heap.size := h1; have h9 : w.heap.size ≤ b := h9; omega))
            go_roundw
            case rel =>
              refine ⟨j + 1, by omega, by go_num, by rw [aftTo_succ]; exact HO3.out, ?_, HOK2.out, HU3.out⟩
              have e9 : posS ks (j + 1) = posS ks j + tk := by rw [HPS.out, HTK.out]; simp
              rw [e9, ← List.drop_drop]
              refine HR3.out.dropt (by omega) (by omega) rfl (fun b o e hlt9 => ?_) (fun e => ?_)
              · subst e
                rw [if_neg (by omega)]
                unfold Addr.add
                by_cases h0 : tk = 0 <;> simp [h0]
              · by_cases h0 : cr = tk
                · omega
                · rw [if_neg h0] at e
                  have : Ar = none := by cases Ar with | none => rfl | some a => simp at e
                  have := har this
                  omega
            case measure => first | (simp [intOf]; done) | (simp [intOf]; omega)
        · obtain rfl : j = ks.length := by omega
          obtain ⟨Aq, cq, rfl, hlq, hcq, -⟩ := hq.out.ints.shape
          have HZ := Lib.hid hu.out.size
          by_cases h8 : (aftTo st ks ks.length).length ≤ 8
          · have HV := Lib.hid (saC_0 HB.out HSUM.out (by rw [hok.out, decide_eq_true h8]; rfl))
            have t8 : decide ((8 : Int) < ((aftTo st ks ks.length).length : Int)) = false := decide_eq_false (by omega)
            clear h8
            go_wp2
            go_ret2
            rw [HV.out.1, HV.out.2]
            exact ⟨_, rfl, hq.out.ints, hu.out⟩
          · have HV := Lib.hid (saC_5 HB.out HSUM.out (by rw [hok.out, decide_eq_false h8]; rfl))
            have t8 : decide ((8 : Int) < ((aftTo st ks ks.length).length : Int)) = true := decide_eq_true (by omega)
            clear h8
            go_wp2
            go_ret2
            rw [HV.out.1, HV.out.2]
            exact ⟨_, rfl, Ints.nil _ _ 0 none (by omega), hu.out⟩
end Go.Proofs.Ytchfjglofmphfaa
end
section
set_option linter.unusedSimpArgs false
set_option linter.unusedVariables false
set_option maxRecDepth 100000
set_option maxHeartbeats 1000000
namespace Go.Proofs.Ytchfjglofmphfaa
open Go.ChangeShapes Go.WideShapes Go.ChangeAt Go.RowKit
theorem aftTo_bd {st ks : List Int} (hs : stkB st = true) (hsum : sumF takenK ks = st.length) (hk : stB ks = true) : ∀ j, j ≤ ks.length → ∀ x ∈ aftTo st ks j, 1 ≤ x ∧ x ≤ 5 := by
  intro j
  induction j with
  | zero => intro _ x hx; simp [aftTo] at hx
  | succ j ih =>
    intro hj x hx
    rw [aftTo_succ] at hx
    rcases List.mem_append.1 hx with hx | hx
    · exact ih (by omega) x hx
    · have hp := posS_succ (ks := ks) (j := j) (by omega)
      have hl := posS_le ks (j + 1)
      have hkj := stB_kind hk _ (List.getElem_mem (show j < ks.length by omega))
      unfold stepAt stepS at hx
      rw [ix_eq (show j < ks.length by omega)] at hx
      have ha : takenK ks[j] ≥ 1 → 1 ≤ ix st (posS ks j) ∧ ix st (posS ks j) ≤ 4 := fun h1 => by
        have : posS ks j < st.length := by omega
        rw [ix_eq this]
        exact stkB_bd hs _ (List.getElem_mem this)
      split at hx
      · rename_i h6
        have := ha (by rw [h6]; decide)
        simp at hx; omega
      · split at hx
        · rename_i h7
          have := ha (by rw [h7]; decide)
          simp at hx; omega
        · have := List.eq_of_mem_replicate hx; omega
theorem mkNat (k : Int) : ∃ n : Nat, madeK k = n ∧ 1 ≤ n ∧ n ≤ 4 := ⟨(madeK k).toNat, by have := madeK_bd k; omega, by have := madeK_bd k; omega, by have := madeK_bd k; omega⟩
theorem l14After_any (w : World) (S S2 : Nat → Prop) (v u : Value) (st ks : List Int) (h : Ints w S v st) (h2 : Ints w S2 u ks) (hs : stkB st = true) (hk : stB ks = true) (hsum : sumF takenK ks = st.length) :
    Calls Try.prog 217 #[v, u] w fun e w' => ∃ v', e = .returned v' ∧ Ints w' (New w.heap.size w'.heap.size) v' (aftTo st ks ks.length) ∧ Up w w' := by
  obtain ⟨A, c, rfl, hlc, hcm, -⟩ := h.shape
  obtain ⟨A2, c2, rfl, hlc2, hcm2, -⟩ := h2.shape
  have H := Lib.hid (h.mono (T := fun b => b < w.heap.size) fun _ h _ => h)
  have H2 := Lib.hid (h2.mono (T := fun b => b < w.heap.size) fun _ h _ => h)
  have HK := Lib.hid hk
  have HSB := Lib.hid (stkB_bd hs)
  have hks := stB_len hk
  have hst := stkB_len hs
  have HSUM := Lib.hid hsum
  clear h h2 hs hk hsum
  go_enter Try.func217, Try.ntmps217
  go_wp2
  go_loopw [5, 6, 7] (fun q a i wr => ∃ (j : Nat), j ≤ ks.length ∧ i = .int .i64 j ∧ a = .int .i64 (posS ks j) ∧ Hid (OwnI wr w.heap.size q (aftTo st ks j)) ∧ Hid (Up w wr)) (fun _ _ i _ => ks.length - (intOf i).toNat)
  case atStart => exact ⟨0, by omega, rfl, rfl, OwnI.made _ _ (Nat.le_refl _), (Chg.refl _ _).alloc _⟩
  case round =>
    obtain ⟨j, hj, rfl, rfl, hq, hu⟩ := hrel
    by_cases hlt : j < ks.length
    rotate_left
    · obtain rfl : j = ks.length := by omega
      go_wp2
      go_ret
      exact ⟨_, rfl, hq.out.ints, hu.out⟩
    obtain ⟨b, o, rfl, -, hc⟩ := (H2.out.up hu.out).ix hlt
    have f1 := hc j hlt
    rw [ix_eq hlt] at f1
    have HKJ := Lib.hid (stB_kind HK.out _ (List.getElem_mem hlt))
    have HPS := Lib.hid (posS_succ hlt)
    have HPL := Lib.hid (posS_le ks (j + 1))
    have HZ := Lib.hid hu.out.size
    have HAL := Lib.hid (aftTo_len st ks j)
    have HQI := hq.out
    obtain ⟨kd, HKD⟩ : ∃ kd, Hid (ks[j] = kd) := ⟨_, Lib.hid rfl⟩
    rw [HKD.out] at f1 HKJ HPS
    obtain ⟨tk, HTK⟩ : ∃ tk : Nat, Hid (takenK kd = tk) := ⟨(takenK kd).toNat, Lib.hid (by have := takenK_bd kd; omega)⟩
    have hpl : posS ks j + tk ≤ st.length := by have a := HPS.out; have b := HPL.out; have c := HSUM.out; have d := HTK.out; rw [d] at a; simp at a; omega
    have e9 : Hid (posS ks (j + 1) = posS ks j + tk) := Lib.hid (by rw [HPS.out, HTK.out]; simp)
    have y9 : IntKind.i64.wrap ((posS ks j : Int) + tk) = ((posS ks j + tk : Nat) : Int) := (IntWalk.i64_in _ (by omega)).trans (by omega)
    have HSA : Hid (stepAt st ks j = stepS kd (ix st (posS ks j)) (ix st (posS ks j + 1))) := Lib.hid (by unfold stepAt; rw [ix_eq hlt, HKD.out])
    clear hc HQI
    by_cases h6 : kd = 6
    · subst h6
      have ht1 : tk = 1 := by have h1 : takenK 6 = 1 := rfl; have h2 := HTK.out; omega
      obtain ⟨b2, o2, rfl, -, hc2⟩ := (H.out.up hu.out).ix (show posS ks j < st.length by omega)
      have f2 := hc2 (posS ks j) (by omega)
      have hx0 : 1 ≤ ix st (posS ks j) ∧ ix st (posS ks j) ≤ 4 := by rw [ix_eq (by omega)]; exact HSB.out _ (List.getElem_mem _)
      obtain ⟨a, HA⟩ : ∃ a, Hid (ix st (posS ks j) = a) := ⟨_, Lib.hid rfl⟩
      rw [HA.out] at f2 hx0
      have y1 : IntKind.i64.wrap (a + 1) = a + 1 := IntWalk.i64_in _ (by omega)
      have HI : Hid (I64 (a + 1)) := Lib.hid (by unfold I64; omega)
      have HL : Hid ((aftTo st ks j).length ≤ 1099511627776) := Lib.hid (by have := HAL.out; omega)
      have HE : Hid (stepS 6 (ix st (posS ks j)) (ix st (posS ks j + 1)) = [a + 1]) := Lib.hid (by rw [HA.out]; rfl)
      have h6 := fun b : Nat => b
      clear h6 hc2
      go_wp2_with (at_builtin; refine wp_append_int rfl _ _ rfl w.heap.size _ (aftTo st ks j) rfl (hq.out.alloc _) _ (a + 1) rfl (cell_new _ _ _ _) HI.out HL.out (by have h1 := HZ.out; (simp; omega)) ?_; intro v3 w3 ho3 _ hg3; have HO3 := Lib.hid ho3; have HG3 := Lib.hid hg3; clear ho3 hg3; have hu3 := Lib.hid (Chg.new (Chg.alloc hu.out (.cells #[.int .i64 (a + 1)] 2)) HG3.out (fun i hi h => Nat.not_le.2 hi h)); obtain ⟨b5, o5, he5, -, hc5⟩ := (H2.out.up hu3.out).ix hlt; obtain ⟨rfl, rfl⟩ : b = b5 ∧ o = o5 := (by simpa using he5); have f5 := hc5 j hlt; rw [ix_eq hlt, HKD.out] at f5; clear hc5 he5)
      refine (sColumnsTaken_any _ _).mono ?_
      rintro e w4 ⟨rfl, g4⟩
      rw [takenOf_ok HKJ.out, HTK.out]
      have G4 := Lib.hid g4
      clear g4
      go_wp2
      go_roundw
      case rel => exact ⟨j + 1, by omega, by go_num, by rw [e9.out]; first | rfl | go_num, by rw [aftTo_succ, HSA.out]; exact (by rw [HE.out]; exact HO3.out.up G4.out), Chg.trans hu3.out G4.out⟩
      case measure => first | (simp [intOf]; done) | (simp [intOf]; omega)
    by_cases h7 : kd = 7
    · subst h7
      have ht1 : tk = 1 := by have h1 : takenK 7 = 1 := rfl; have h2 := HTK.out; omega
      obtain ⟨b2, o2, rfl, -, hc2⟩ := (H.out.up hu.out).ix (show posS ks j < st.length by omega)
      have f2 := hc2 (posS ks j) (by omega)
      have hx0 : 1 ≤ ix st (posS ks j) ∧ ix st (posS ks j) ≤ 4 := by rw [ix_eq (by omega)]; exact HSB.out _ (List.getElem_mem _)
      obtain ⟨a, HA⟩ : ∃ a, Hid (ix st (posS ks j) = a) := ⟨_, Lib.hid rfl⟩
      rw [HA.out] at f2 hx0
      have y1 : IntKind.i64.wrap (a + 1) = a + 1 := IntWalk.i64_in _ (by omega)
      have HI : Hid (I64 (a)) := Lib.hid (by unfold I64; omega)
      have HL : Hid ((aftTo st ks j).length ≤ 1099511627776) := Lib.hid (by have := HAL.out; omega)
      have HE : Hid (stepS 7 (ix st (posS ks j)) (ix st (posS ks j + 1)) = [a]) := Lib.hid (by rw [HA.out]; rfl)
      have h6 := fun b : Nat => b
      clear h6 hc2
      go_wp2_with (at_builtin; refine wp_append_int rfl _ _ rfl w.heap.size _ (aftTo st ks j) rfl (hq.out.alloc _) _ (a) rfl (cell_new _ _ _ _) HI.out HL.out (by have h1 := HZ.out; (simp; omega)) ?_; intro v3 w3 ho3 _ hg3; have HO3 := Lib.hid ho3; have HG3 := Lib.hid hg3; clear ho3 hg3; have hu3 := Lib.hid (Chg.new (Chg.alloc hu.out (.cells #[.int .i64 (a)] 2)) HG3.out (fun i hi h => Nat.not_le.2 hi h)); obtain ⟨b5, o5, he5, -, hc5⟩ := (H2.out.up hu3.out).ix hlt; obtain ⟨rfl, rfl⟩ : b = b5 ∧ o = o5 := (by simpa using he5); have f5 := hc5 j hlt; rw [ix_eq hlt, HKD.out] at f5; clear hc5 he5)
      refine (sColumnsTaken_any _ _).mono ?_
      rintro e w4 ⟨rfl, g4⟩
      rw [takenOf_ok HKJ.out, HTK.out]
      have G4 := Lib.hid g4
      clear g4
      go_wp2
      go_roundw
      case rel => exact ⟨j + 1, by omega, by go_num, by rw [e9.out]; first | rfl | go_num, by rw [aftTo_succ, HSA.out]; exact (by rw [HE.out]; exact HO3.out.up G4.out), Chg.trans hu3.out G4.out⟩
      case measure => first | (simp [intOf]; done) | (simp [intOf]; omega)
    obtain ⟨mk, hmk, hmk1, hmk4⟩ := mkNat kd
    have HMK := Lib.hid hmk
    have HE : Hid (stepS kd (ix st (posS ks j)) (ix st (posS ks j + 1)) = List.replicate mk 1) := Lib.hid (by unfold stepS; rw [if_neg h6, if_neg h7, hmk]; rfl)
    have t6 : (kd == 6) = false := by simpa using h6
    have t7 : (kd == 7) = false := by simpa using h7
    clear hmk h6 h7
    go_wp2_with fail
    refine (sColumnsMade_any _ _).mono ?_
    rintro e w2 ⟨rfl, g2⟩
    rw [madeOf_ok HKJ.out, HMK.out]
    have U2 := Lib.hid (Chg.trans hu.out g2)
    have Q2 := Lib.hid (hq.out.up g2)
    clear g2
    go_wp2
    go_loopw [5, 8] (fun q k wq => ∃ (m : Nat), m ≤ mk ∧ k = .int .i64 m ∧ Hid (OwnI wq w.heap.size q (aftTo st ks j ++ List.replicate (mk - m) 1)) ∧ Hid (Up w wq)) (fun _ k _ => (intOf k).toNat)
    case atStart => exact ⟨mk, Nat.le_refl _, rfl, by simpa [Hid] using Q2.out, U2.out⟩
    case round =>
      obtain ⟨m, hm, rfl, hq3, hu3⟩ := hrel
      by_cases h0 : 0 < m
      · have y1 : IntKind.i64.wrap ((m : Int) - 1) = ((m - 1 : Nat) : Int) := (IntWalk.i64_in _ (by omega)).trans (by omega)
        have h0' : (0 : Int) < m := by omega
        have HL : Hid ((aftTo st ks j ++ List.replicate (mk - m) 1).length ≤ 1099511627776) := Lib.hid (by have := HAL.out; simp; omega)
        have HZ3 := Lib.hid hu3.out.size
        go_wp2_with (at_builtin; refine wp_append_int rfl _ _ rfl w.heap.size _ (aftTo st ks j ++ List.replicate (mk - m) 1) rfl (hq3.out.alloc _) _ 1 rfl (cell_new _ _ _ _) (by unfold I64; omega) HL.out (by have h1 := HZ3.out; (simp; omega)) ?_; intro v3 w3 ho3 _ hg3; have HO3 := Lib.hid ho3; have HG3 := Lib.hid hg3; clear ho3 hg3)
        go_roundw
        case rel => exact ⟨m - 1, by omega, by first | rfl | go_num, by have h := HO3.out; rw [List.append_assoc, show (List.replicate (mk - m) (1 : Int)) ++ [1] = List.replicate (mk - (m - 1)) 1 by rw [← List.replicate_succ', show mk - (m - 1) = mk - m + 1 by omega]] at h; exact h, Chg.new (Chg.alloc hu3.out _) HG3.out (fun i hi h => Nat.not_le.2 hi h)⟩
        case measure => first | (simp [intOf]; done) | (simp [intOf]; omega)
      · obtain rfl : m = 0 := by omega
        obtain ⟨b5, o5, he5, -, hc5⟩ := (H2.out.up hu3.out).ix hlt
        obtain ⟨rfl, rfl⟩ : b = b5 ∧ o = o5 := by simpa using he5
        have f5 := hc5 j hlt
        rw [ix_eq hlt, HKD.out] at f5
        clear hc5 he5
        go_wp2_with fail
        refine (sColumnsTaken_any _ _).mono ?_
        rintro e w4 ⟨rfl, g4⟩
        rw [takenOf_ok HKJ.out, HTK.out]
        have G4 := Lib.hid g4
        clear g4
        go_wp2
        go_roundw
        case rel => exact ⟨j + 1, by omega, by go_num, by rw [e9.out]; first | rfl | go_num, by rw [aftTo_succ, HSA.out]; exact (by rw [HE.out]; exact hq3.out.up G4.out), Chg.trans hu3.out G4.out⟩
        case measure => first | (simp [intOf]; done) | (simp [intOf]; omega)
end Go.Proofs.Ytchfjglofmphfaa
end
section
set_option linter.unusedSimpArgs false
set_option linter.unusedVariables false
set_option maxRecDepth 100000
set_option maxHeartbeats 1000000
namespace Go.Proofs.Ytchfjglofmphfaa
open Go.ChangeShapes Go.WideShapes Go.ChangeAt Go.RowKit
def thickAt (st ks : List Int) (i : Nat) : Bool := decide ((ix ks i = 4 ∨ ix ks i = 5) ∧ 4 < ix st (posS ks i) + ix st (posS ks i + 1))
def thickTo (st ks : List Int) (j : Nat) : Bool := (List.range j).any (thickAt st ks)
theorem thickTo_succ (st ks : List Int) (j : Nat) : thickTo st ks (j + 1) = (thickTo st ks j || thickAt st ks j) := by
  unfold thickTo; rw [List.range_succ, List.any_append]; simp
theorem thickTo_true {st ks : List Int} {j n : Nat} (hj : j < n) (h : thickAt st ks j = true) : thickTo st ks n = true := by
  unfold thickTo
  exact List.any_eq_true.2 ⟨j, by simpa using hj, h⟩
theorem okAt_eq {st ks : List Int} (hs : stkB st = true) (hk : stB ks = true) (hsum : sumF takenK ks = st.length) {i : Nat} (hi : i < ks.length) : okAt st ks i = ((stepAt st ks i).all stk1B && !thickAt st ks i) := by
  have hkj := stB_kind hk _ (List.getElem_mem hi)
  have hp := posS_succ hi
  have hl := posS_le ks (i + 1)
  have ha : takenK ks[i] ≥ 1 → 1 ≤ ix st (posS ks i) ∧ ix st (posS ks i) ≤ 4 := fun h1 => by
    have : posS ks i < st.length := by omega
    rw [ix_eq this]
    exact stkB_bd hs _ (List.getElem_mem this)
  unfold okAt stepAt thickAt okS stepS
  rw [ix_eq hi]
  generalize ix st (posS ks i) = a at ha ⊢
  generalize ix st (posS ks i + 1) = b
  generalize ks[i] = k at hkj ha ⊢
  rcases kindB_cases hkj with rfl | rfl | rfl | rfl | rfl | rfl | rfl | rfl | rfl | rfl | rfl
  case inr.inr.inr.inr.inr.inl =>
    have := ha (by decide)
    rw [Bool.eq_iff_iff]
    simp [stk1B, inB]
    omega
  case inr.inr.inr.inr.inr.inr.inl =>
    have := ha (by decide)
    rw [Bool.eq_iff_iff]
    simp [stk1B, inB]
    omega
  all_goals (first | (simp [madeK, stk1B, inB]; done) | (rw [Bool.eq_iff_iff]; simp [madeK, stk1B, inB]; omega) | (rw [Bool.eq_iff_iff]; simp [madeK, stk1B, inB]))
theorem okTo_eq {st ks : List Int} (hs : stkB st = true) (hk : stB ks = true) (hsum : sumF takenK ks = st.length) : ∀ j, j ≤ ks.length → okTo st ks j = ((aftTo st ks j).all stk1B && !thickTo st ks j) := by
  intro j
  induction j with
  | zero => intro _; rfl
  | succ j ih =>
    intro hj
    rw [okTo_succ, aftTo_succ, thickTo_succ, List.all_append, ih (by omega), okAt_eq hs hk hsum (by omega)]
    cases (aftTo st ks j).all stk1B <;> cases (stepAt st ks j).all stk1B <;> cases thickTo st ks j <;> cases thickAt st ks j <;> rfl
theorem thick_all {st ks : List Int} (hs : stkB st = true) (hk : stB ks = true) (hsum : sumF takenK ks = st.length) : (okTo st ks ks.length && decide ((aftTo st ks ks.length).length ≤ 8)) = (stkB (aftTo st ks ks.length) && !thickTo st ks ks.length) := by
  rw [okTo_eq hs hk hsum _ (Nat.le_refl _)]
  unfold stkB
  cases (aftTo st ks ks.length).all stk1B <;> cases thickTo st ks ks.length <;> simp
theorem l14Thick_any (w : World) (S S2 : Nat → Prop) (v u : Value) (st ks : List Int) (h : Ints w S v st) (h2 : Ints w S2 u ks) (hs : stkB st = true) (hk : stB ks = true) (hsum : sumF takenK ks = st.length) :
    Calls Try.prog 218 #[v, u] w fun e w' => e = .returned (.bool (thickTo st ks ks.length)) ∧ Up w w' := by
  obtain ⟨A, c, rfl, hlc, hcm, -⟩ := h.shape
  obtain ⟨A2, c2, rfl, hlc2, hcm2, -⟩ := h2.shape
  have H := Lib.hid h
  have H2 := Lib.hid h2
  have HK := Lib.hid hk
  have HSB := Lib.hid (stkB_bd hs)
  have hks := stB_len hk
  have hst := stkB_len hs
  have HSUM := Lib.hid hsum
  clear h h2 hs hk hsum
  go_enter Try.func218, Try.ntmps218
  go_wp2
  go_loopw [5, 6] (fun a i wr => ∃ (j : Nat), j ≤ ks.length ∧ i = .int .i64 j ∧ a = .int .i64 (posS ks j) ∧ Hid (thickTo st ks j = false) ∧ Hid (Up w wr)) (fun _ i _ => ks.length - (intOf i).toNat)
  case atStart => exact ⟨0, by omega, rfl, rfl, rfl, Chg.refl _ _⟩
  case round =>
    obtain ⟨j, hj, rfl, rfl, hth, hu⟩ := hrel
    by_cases hlt : j < ks.length
    rotate_left
    · obtain rfl : j = ks.length := by omega
      go_wp2
      go_ret
      exact ⟨ret_bool hth.out.symm, hu.out⟩
    obtain ⟨b, o, rfl, -, hc⟩ := (H2.out.up hu.out).ix hlt
    have f1 := hc j hlt
    rw [ix_eq hlt] at f1
    have HKJ := Lib.hid (stB_kind HK.out _ (List.getElem_mem hlt))
    have HPS := Lib.hid (posS_succ hlt)
    have HPL := Lib.hid (posS_le ks (j + 1))
    obtain ⟨kd, HKD⟩ : ∃ kd, Hid (ks[j] = kd) := ⟨_, Lib.hid rfl⟩
    rw [HKD.out] at f1 HKJ HPS
    obtain ⟨tk, HTK⟩ : ∃ tk : Nat, Hid (takenK kd = tk) := ⟨(takenK kd).toNat, Lib.hid (by have := takenK_bd kd; omega)⟩
    have hpl : posS ks j + tk ≤ st.length := by have a := HPS.out; have b := HPL.out; have c := HSUM.out; have d := HTK.out; rw [d] at a; simp at a; omega
    have e9 : Hid (posS ks (j + 1) = posS ks j + tk) := Lib.hid (by rw [HPS.out, HTK.out]; simp)
    have y9 : IntKind.i64.wrap ((posS ks j : Int) + tk) = ((posS ks j + tk : Nat) : Int) := (IntWalk.i64_in _ (by omega)).trans (by omega)
    clear hc
    have next : thickAt st ks j = false → Hid (thickTo st ks (j + 1) = false) := fun h => Lib.hid (by rw [thickTo_succ, hth.out, h]; rfl)
    by_cases h4 : kd = 4
    · subst h4
      have ht2 : tk = 2 := by have h1 : takenK 4 = 2 := rfl; have h2 := HTK.out; omega
      obtain ⟨b2, o2, rfl, -, hc2⟩ := (H.out.up hu.out).ix (show posS ks j < st.length by omega)
      have f2 := hc2 (posS ks j) (by omega)
      have f3 := hc2 (posS ks j + 1) (by omega)
      have f3' := f3
      rw [← Nat.add_assoc] at f3
      have hx0 : 1 ≤ ix st (posS ks j) ∧ ix st (posS ks j) ≤ 4 := by rw [ix_eq (by omega)]; exact HSB.out _ (List.getElem_mem _)
      have hx1 : 1 ≤ ix st (posS ks j + 1) ∧ ix st (posS ks j + 1) ≤ 4 := by rw [ix_eq (by omega)]; exact HSB.out _ (List.getElem_mem _)
      have HTA : thickAt st ks j = decide (4 < ix st (posS ks j) + ix st (posS ks j + 1)) := by unfold thickAt; rw [ix_eq hlt, HKD.out]; simp
      have HTA := Lib.hid HTA
      generalize ix st (posS ks j) = a at f2 hx0 HTA
      generalize ix st (posS ks j + 1) = a2 at f3 f3' hx1 HTA
      have y1 : IntKind.i64.wrap (a + a2) = a + a2 := IntWalk.i64_in _ (by omega)
      have y2 : IntKind.i64.wrap ((posS ks j : Int) + 1) = (posS ks j : Int) + 1 := IntWalk.i64_in _ (by omega)
      have hp4 : 0 ≤ (posS ks j : Int) + 1 := by omega
      have hp5 : (posS ks j : Int) + 1 < (st.length : Int) := by omega
      have hp6 : (posS ks j : Int) < (st.length : Int) := by omega
      have hp7 : posS ks j < st.length := by omega
      have hp1 : posS ks j + 1 < st.length := by omega
      have hp2 : ((posS ks j + 1 : Nat) : Int) < (st.length : Int) := by omega
      have hp3 : ((posS ks j : Int) + 1).toNat = posS ks j + 1 := by omega
      clear hc2
      by_cases h9 : 4 < a + a2
      · have HV := Lib.hid (thickTo_true hlt (HTA.out.trans (decide_eq_true h9)))
        have t9 : decide (4 < a + a2) = true := decide_eq_true h9
        clear h9 next
        go_wp2
        go_quiet (fail)
        go_wp2
        go_ret
        exact ⟨ret_bool HV.out.symm, (by repeat (first | exact hu.out | apply Chg.drew | apply Chg.drewN))⟩
      · have HN := next (HTA.out.trans (decide_eq_false h9))
        have t9 : decide (4 < a + a2) = false := decide_eq_false h9
        clear h9 next
        go_wp2
        go_quiet (fail)
        go_wp2_with fail
        refine (sColumnsTaken_any _ _).mono ?_
        rintro e w4 ⟨rfl, g4⟩
        rw [takenOf_ok HKJ.out, HTK.out]
        have G4 := Lib.hid (Chg.trans hu.out (Chg.trans (by repeat (first | exact Chg.refl _ _ | apply Chg.drew | apply Chg.drewN | refine Chg.alloc ?_ _)) g4))
        clear g4
        go_wp2
        go_roundw
        case rel => exact ⟨j + 1, by omega, by go_num, by rw [e9.out]; first | rfl | go_num, HN.out, G4.out⟩
        case measure => first | (simp [intOf]; done) | (simp [intOf]; omega)
    by_cases h5 : kd = 5
    · subst h5
      have ht2 : tk = 2 := by have h1 : takenK 5 = 2 := rfl; have h2 := HTK.out; omega
      obtain ⟨b2, o2, rfl, -, hc2⟩ := (H.out.up hu.out).ix (show posS ks j < st.length by omega)
      have f2 := hc2 (posS ks j) (by omega)
      have f3 := hc2 (posS ks j + 1) (by omega)
      have f3' := f3
      rw [← Nat.add_assoc] at f3
      have hx0 : 1 ≤ ix st (posS ks j) ∧ ix st (posS ks j) ≤ 4 := by rw [ix_eq (by omega)]; exact HSB.out _ (List.getElem_mem _)
      have hx1 : 1 ≤ ix st (posS ks j + 1) ∧ ix st (posS ks j + 1) ≤ 4 := by rw [ix_eq (by omega)]; exact HSB.out _ (List.getElem_mem _)
      have HTA : thickAt st ks j = decide (4 < ix st (posS ks j) + ix st (posS ks j + 1)) := by unfold thickAt; rw [ix_eq hlt, HKD.out]; simp
      have HTA := Lib.hid HTA
      generalize ix st (posS ks j) = a at f2 hx0 HTA
      generalize ix st (posS ks j + 1) = a2 at f3 f3' hx1 HTA
      have y1 : IntKind.i64.wrap (a + a2) = a + a2 := IntWalk.i64_in _ (by omega)
      have y2 : IntKind.i64.wrap ((posS ks j : Int) + 1) = (posS ks j : Int) + 1 := IntWalk.i64_in _ (by omega)
      have hp4 : 0 ≤ (posS ks j : Int) + 1 := by omega
      have hp5 : (posS ks j : Int) + 1 < (st.length : Int) := by omega
      have hp6 : (posS ks j : Int) < (st.length : Int) := by omega
      have hp7 : posS ks j < st.length := by omega
      have hp1 : posS ks j + 1 < st.length := by omega
      have hp2 : ((posS ks j + 1 : Nat) : Int) < (st.length : Int) := by omega
      have hp3 : ((posS ks j : Int) + 1).toNat = posS ks j + 1 := by omega
      clear hc2
      by_cases h9 : 4 < a + a2
      · have HV := Lib.hid (thickTo_true hlt (HTA.out.trans (decide_eq_true h9)))
        have t9 : decide (4 < a + a2) = true := decide_eq_true h9
        clear h9 next
        go_wp2
        go_quiet (fail)
        go_wp2
        go_ret
        exact ⟨ret_bool HV.out.symm, (by repeat (first | exact hu.out | apply Chg.drew | apply Chg.drewN))⟩
      · have HN := next (HTA.out.trans (decide_eq_false h9))
        have t9 : decide (4 < a + a2) = false := decide_eq_false h9
        clear h9 next
        go_wp2
        go_quiet (fail)
        go_wp2_with fail
        refine (sColumnsTaken_any _ _).mono ?_
        rintro e w4 ⟨rfl, g4⟩
        rw [takenOf_ok HKJ.out, HTK.out]
        have G4 := Lib.hid (Chg.trans hu.out (Chg.trans (by repeat (first | exact Chg.refl _ _ | apply Chg.drew | apply Chg.drewN | refine Chg.alloc ?_ _)) g4))
        clear g4
        go_wp2
        go_roundw
        case rel => exact ⟨j + 1, by omega, by go_num, by rw [e9.out]; first | rfl | go_num, HN.out, G4.out⟩
        case measure => first | (simp [intOf]; done) | (simp [intOf]; omega)
    have HN := next (by unfold thickAt; rw [ix_eq hlt, HKD.out]; simp [h4, h5])
    have t4 : (kd == 4) = false := by simpa using h4
    have t5 : (kd == 5) = false := by simpa using h5
    clear next h4 h5
    go_wp2
    go_quiet (fail)
    go_wp2_with fail
    refine (sColumnsTaken_any _ _).mono ?_
    rintro e w4 ⟨rfl, g4⟩
    rw [takenOf_ok HKJ.out, HTK.out]
    have G4 := Lib.hid (Chg.trans hu.out (Chg.trans (by repeat (first | exact Chg.refl _ _ | apply Chg.drew | apply Chg.drewN | refine Chg.alloc ?_ _)) g4))
    clear g4
    go_wp2
    go_roundw
    case rel => exact ⟨j + 1, by omega, by go_num, by rw [e9.out]; first | rfl | go_num, HN.out, G4.out⟩
    case measure => first | (simp [intOf]; done) | (simp [intOf]; omega)
end Go.Proofs.Ytchfjglofmphfaa
end
section
set_option linter.unusedSimpArgs false
set_option linter.unusedVariables false
set_option maxRecDepth 100000
set_option maxHeartbeats 1000000
namespace Go.Proofs.Ytchfjglofmphfaa
open Go.ChangeShapes Go.WideShapes Go.ChangeAt Go.RowKit
theorem sStacksAfter_any (w : World) (S S2 : Nat → Prop) (v u : Value) (st ks : List Int) (h : Ints w S v st) (h2 : Ints w S2 u ks) :
    Calls Try.prog 199 #[v, u] w fun e w' => ∃ v', e = .returned (.tuple #[v', .int .i64 (saC st ks)]) ∧ Ints w' (New w.heap.size w'.heap.size) v' (saL st ks) ∧ Up w w' := by
  obtain ⟨A, c, rfl, hlc, hcm, -⟩ := h.shape
  obtain ⟨A2, c2, rfl, hlc2, hcm2, -⟩ := h2.shape
  have H := Lib.hid h
  have H2 := Lib.hid h2
  clear h h2
  go_enter Try.func199, Try.ntmps199
  go_wp2_with fail
  refine (l14Stacks_any _ _ _ st H.out).mono ?_
  rintro e w' ⟨rfl, rfl⟩
  cases hs : stkB st with
  | false =>
    have HV := Lib.hid (saC_1 (st := st) (ks := ks) (by rw [hs]; rfl))
    clear hs
    go_wp2
    go_ret2
    rw [HV.out.1, HV.out.2]
    exact ⟨_, rfl, Ints.nil _ _ 0 none (by omega), Chg.refl _ _⟩
  | true =>
    have HS := Lib.hid hs
    clear hs
    go_wp2_with fail
    refine (l14Ok_any _ _ _ ks H2.out).mono ?_
    rintro e w' ⟨rfl, rfl⟩
    cases hk : stB ks with
    | false =>
      have HV := Lib.hid (saC_1 (st := st) (ks := ks) (by rw [hk, Bool.and_false]))
      clear hk
      go_wp2
      go_ret2
      rw [HV.out.1, HV.out.2]
      exact ⟨_, rfl, Ints.nil _ _ 0 none (by omega), Chg.refl _ _⟩
    | true =>
      have HK := Lib.hid hk
      have HB := Lib.hid (show (stkB st && stB ks) = true by rw [HS.out, hk]; rfl)
      clear hk
      go_wp2_with fail
      refine (sTakenBy_yes _ _ _ ks H2.out HK.out).mono ?_
      rintro e w1 ⟨rfl, g1⟩
      have G1 := Lib.hid g1
      clear g1
      by_cases hsum : sumF takenK ks = (st.length : Int)
      rotate_left
      · have t1 : (sumF takenK ks == (st.length : Int)) = false := by simpa using hsum
        have t2 : (sumF takenK ks != (st.length : Int)) = true := by simpa using hsum
        have HV := Lib.hid (saC_10 HB.out hsum)
        clear hsum
        go_wp2
        go_ret2
        rw [HV.out.1, HV.out.2]
        exact ⟨_, rfl, Ints.nil _ _ 0 none (by omega), G1.out⟩
      have HSUM := Lib.hid hsum
      have t1 : (sumF takenK ks != (st.length : Int)) = false := by simpa using hsum
      have HTA := Lib.hid (thick_all HS.out HK.out hsum)
      clear hsum
      go_wp2_with fail
      refine (l14After_any _ _ _ _ _ st ks (H.out.up G1.out) (H2.out.up G1.out) HS.out HK.out HSUM.out).mono ?_
      rintro e w2 ⟨v2, rfl, k2, g2⟩
      obtain ⟨A3, c3, rfl, hl3, hc3, -⟩ := k2.shape
      have K2 := Lib.hid k2
      have G2 := Lib.hid (Chg.trans G1.out g2)
      have hz1 := Lib.hid G1.out.size
      clear k2 g2
      go_wp2_with fail
      refine (l14Stacks_any _ _ _ _ K2.out).mono ?_
      rintro e w' ⟨rfl, rfl⟩
      cases ha : stkB (aftTo st ks ks.length) with
      | false =>
        have HV := Lib.hid (saC_5 HB.out HSUM.out (by rw [HTA.out, ha]; rfl))
        clear ha
        go_wp2
        go_ret2
        rw [HV.out.1, HV.out.2]
        exact ⟨_, rfl, Ints.nil _ _ 0 none (by omega), G2.out⟩
      | true =>
        have HA := Lib.hid ha
        clear ha
        go_wp2_with fail
        refine (l14Thick_any _ _ _ _ _ st ks (H.out.up G2.out) (H2.out.up G2.out) HS.out HK.out HSUM.out).mono ?_
        rintro e w3 ⟨rfl, g3⟩
        have G3 := Lib.hid (Chg.trans G2.out g3)
        have K3 := Lib.hid (K2.out.up g3)
        have hz3 := Lib.hid g3.size
        clear g3
        cases ht : thickTo st ks ks.length with
        | true =>
          have HV := Lib.hid (saC_5 HB.out HSUM.out (by rw [HTA.out, HA.out, ht]; rfl))
          clear ht
          go_wp2
          go_ret2
          rw [HV.out.1, HV.out.2]
          exact ⟨_, rfl, Ints.nil _ _ 0 none (by omega), G3.out⟩
        | false =>
          have HV := Lib.hid (saC_0 HB.out HSUM.out (by rw [HTA.out, HA.out, ht]; rfl))
          clear ht
          go_wp2
          go_ret2
          rw [HV.out.1, HV.out.2]
          exact ⟨_, rfl, K3.out.mono (fun b _ hb => ⟨by have := hb.1; have := hz1.out; omega, by have := hb.2; have := hz3.out; omega⟩), G3.out⟩
end Go.Proofs.Ytchfjglofmphfaa
end
namespace Go.Proofs.Ytchfjglofmphfaa
open Go.ChangeShapes Go.WideShapes Go.ChangeAt Go.RowKit
set_option maxRecDepth 100000 in
set_option maxHeartbeats 4000000 in
theorem wp_append_own3 {P : Program} {w : World} {o : Oper} {a : Act} {K : Act → World → Prop} {Q : Exit → Act → World → Prop} (s x : Operand) (t : TypeId)
    (ho : o.op = .call { callee := .builtin .append, args := #[s, x], argTypes := #[t, t] })
    (base : Nat) (e : TypeId) (i : TypeInfo) (z : Value) (size bytes : Nat) (ht : P.underlying t = some (.slice e)) (hi : P.info? e = some i) (hz : i.zero = some z)
    (hsize : i.size = size) (hby : i.bytes = bytes) (hzs : z.cells.size = size) (hsz : 0 < size)
    (v : Value) (n : Nat) (xs : List Value) (hs : a.eval s = v) (hown : w.ownsRow base e size v n xs)
    (ad : Addr) (m c : Nat) (news : List Value) (hx : a.eval x = .slice (some ad) m c) (hl : news.length = m * size) (hnews : ∀ j u, news[j]? = some u → w.cell? (ad.add j) = some u) (h1 : ∀ u ∈ news, u.oneCell' = true)
    (h63 : n + m ≤ maxLen) (hbytes : (n + m) * bytes ≤ 140737488355328) (hbase : base ≤ w.heap.size)
    (h : ∀ v' w', w'.ownsRow base e size v' (n + m) (xs ++ news) → w.grownBy w' v.ownBlock → (∀ g, v'.ownBlock = some g → v.ownBlock = some g ∨ w.heap.size ≤ g) → K (a.put o.dst v') w') : o.wp P a w K Q := by
  obtain ⟨v', w', hr, h2, h3, _⟩ := run_append_own (P := P) w base t o.type e i z size bytes ht hi hz hsize hby hzs hsz v n xs hown ad m c news hl hnews h1 h63 hbytes hbase
  have h5 := append_block (P := P) base t o.type e i z size bytes ht hi hz hsize hby hzs hsz v n xs hown ad m c news hl hnews h1 h63 hbytes hr
  unfold Oper.wp execOp
  simp only [ho, resolve, invoke, builtin, Sem.run_bind, Sem.run_pure, Result.andThen_ok, List.map_toArray, List.map_cons, List.map_nil, hs, hx, hr]
  exact h v' w' h2 h3 h5
set_option maxRecDepth 100000 in
set_option maxHeartbeats 4000000 in
theorem step_appI {w : World} {ops : Array Oper} {o : Oper} {a : Act} {K : Act → World → Prop} {E : Prop} {Q : Exit → Act → World → Prop} (hgd : o.guard = none) (s x : Operand)
    (ho : o.op = .call { callee := .builtin .append, args := #[s, x], argTypes := #[25, 25] })
    (base : Nat) (v : Value) (xs : List Int) (hs : a.eval s = v) (hown : OwnI w base v xs)
    (S : Nat → Prop) (u : Value) (ys : List Int) (hx : a.eval x = u) (hsrc : Ints w S u ys) (hlen : xs.length + ys.length ≤ 1099511627776) (hbase : base ≤ w.heap.size)
    (h : ∀ v' w', OwnI w' base v' (xs ++ ys) → Chg (fun b => v.ownBlock = some b) w w' → (∀ b, v'.ownBlock = some b → v.ownBlock = some b ∨ w.heap.size ≤ b) → Chg (fun k => base ≤ k) w w' → K (a.put o.dst v') w') :
    if Region.wanted o (yielded ops a.tmps) = true then Oper.wp Try.prog o a w K Q else E := by
  have hw : Region.wanted o (yielded ops a.tmps) = true := by simp [Region.wanted, hgd]
  rw [if_pos hw]
  obtain ⟨i0, hi, hz0, hz1, hz2⟩ := info_parts info2
  obtain ⟨A, c, rfl, hlc, hcm, hok, hr, hnn⟩ := hsrc
  have hok' : ∀ y ∈ xs ++ ys, I64 y := fun y hy => (List.mem_append.1 hy).elim (hown.2 y) (hok y)
  cases A with
  | none =>
    have hy : ys = [] := by
      rcases Nat.eq_zero_or_pos ys.length with h0 | h0
      · exact List.eq_nil_of_length_eq_zero h0
      · obtain ⟨b, oo, h1, _⟩ := hr h0
        cases h1
    subst hy
    obtain rfl := hnn rfl
    have hrun := run_append_owned_none (P := Try.prog) (w := w) base 25 o.type 2 i0 1 Try.underlying25 hi v xs.length _ hown.1
    have hK := h v w (by simpa using hown) (Chg.refl _ _) (fun b hb => .inl hb) (Chg.refl _ _)
    unfold Oper.wp
    simp [execOp, ho, resolve, invoke, builtin, hs, hx, hrun, Result.andThen]
    exact hK
  | some ad =>
    have hnews : ∀ j q, (ys.map (Value.int .i64))[j]? = some q → w.cell? (ad.add j) = some q := by
      intro j q hq
      obtain ⟨hj, he⟩ := List.getElem?_eq_some_iff.1 hq
      have hj' : j < ys.length := by simpa using hj
      obtain ⟨b, oo, h1, _, _, hc⟩ := hr (by omega)
      injection h1 with h1
      subst h1
      have := (hc j hj').1
      rw [← he, List.getElem_map, ← this]
      unfold Addr.add
      by_cases h0 : j = 0 <;> simp [h0]
    refine wp_append_own3 (P := Try.prog) s x 25 ho base 2 i0 (.int .i64 0) 1 8 Try.underlying25 hi hz0 hz1 hz2 rfl (by decide) v xs.length _ hs hown.1 ad ys.length c (ys.map (Value.int .i64)) hx (by simp) hnews ?_ ?_ ?_ hbase ?_
    · intro q hq
      obtain ⟨y, _, rfl⟩ := List.mem_map.1 hq
      rfl
    · unfold Go.maxLen; omega
    · omega
    · intro v' w' h2 h3 h4
      exact h v' w' ⟨by simpa using h2, hok'⟩ (Chg.of_grown h3) h4 ((Chg.refl _ _).grown h3 fun k hk => .inl (hown.1.lt k hk).1)
end Go.Proofs.Ytchfjglofmphfaa
namespace Go.Proofs.Ytchfjglofmphfaa
def letAt (k c : Int) : List Int :=
  if k = 8 then [c + 1] else if k = 9 ∨ k = 5 then [-c - 1] else if k = 10 then [c + 2, c + 1, c + 3, c + 2] else if k = 11 then [-c - 2, -c - 1, -c - 3, -c - 2] else []
def letL : Int → List Int → List Int
  | _, [] => []
  | s, k :: ks => letAt k s ++ letL (s + takenK k) ks
theorem letAt_length (k c : Int) : (letAt k c).length ≤ 4 := by
  unfold letAt
  repeat' split
  all_goals simp
theorem letL_length : ∀ (ks : List Int) (s : Int), (letL s ks).length ≤ 4 * ks.length
  | [], _ => by simp [letL]
  | k :: ks, s => by
    have h1 := letL_length ks (s + takenK k)
    have h2 := letAt_length k s
    simp only [letL, List.length_append, List.length_cons]
    omega
theorem letL_append : ∀ (ks ls : List Int) (s : Int), letL s (ks ++ ls) = letL s ks ++ letL (s + sumF takenK ks) ls
  | [], ls, s => by simp [letL, sumF]
  | k :: ks, ls, s => by
    simp only [List.cons_append, letL, letL_append ks ls, sumF, List.append_assoc]
    rw [Int.add_assoc]
theorem letL_take {xs : List Int} {j : Nat} (h : j < xs.length) : letL 0 (xs.take (j + 1)) = letL 0 (xs.take j) ++ letAt xs[j] (sumF takenK (xs.take j)) := by
  rw [List.take_succ_eq_append_getElem h, letL_append]
  simp [letL]
/-- a letter on columns from s to e -/
def letP (s e x : Int) : Prop := (s + 1 ≤ x ∧ x ≤ e - 1) ∨ (s + 1 ≤ -x ∧ -x ≤ e - 1)
theorem letAt_in (k c : Int) : ∀ x ∈ letAt k c, letP c (c + takenK k) x := by
  unfold letAt letP
  by_cases h1 : k = 8
  · rw [if_pos h1]; have : takenK k = 2 := by unfold takenK; rw [if_neg (by omega), if_pos (by omega)]
    intro x hx; simp at hx; omega
  · rw [if_neg h1]
    by_cases h2 : k = 9 ∨ k = 5
    · rw [if_pos h2]; have : takenK k = 2 := by unfold takenK; rw [if_neg (by omega), if_pos (by omega)]
      intro x hx; simp at hx; omega
    · rw [if_neg h2]
      by_cases h3 : k = 10
      · rw [if_pos h3]; have : takenK k = 4 := by unfold takenK; rw [if_neg (by omega), if_neg (by omega), if_pos (by omega)]
        intro x hx; simp at hx; omega
      · rw [if_neg h3]
        by_cases h4 : k = 11
        · rw [if_pos h4]; have : takenK k = 4 := by unfold takenK; rw [if_neg (by omega), if_neg (by omega), if_pos (by omega)]
          intro x hx; simp at hx; omega
        · rw [if_neg h4]; simp
theorem letL_in : ∀ (ks : List Int) (s : Int), (∀ x ∈ letL s ks, letP s (s + sumF takenK ks) x) ∧ 0 ≤ sumF takenK ks
  | [], s => by simp [letL, sumF]
  | k :: ks, s => by
    obtain ⟨h1, h2⟩ := letL_in ks (s + takenK k)
    have hb := takenK_bd k
    refine ⟨fun x hx => ?_, by simp only [sumF]; omega⟩
    simp only [sumF]
    rcases List.mem_append.1 hx with hx | hx
    · have := letAt_in k s x hx; unfold letP at *; omega
    · have := h1 x hx; unfold letP at *; omega
theorem LaidRow.letters {d c : Int} {xs : List Int} (h : LaidRow d c xs) : ∀ x ∈ letL 0 xs, letP 0 8 x := fun x hx => by
  have h1 := (letL_in xs 0).1 x hx
  have := h.taken
  unfold letP at *
  omega
def absI (x : Int) : Int := if x < 0 then -x else x
theorem absI_bd {x : Int} (h : letP 0 8 x) : 1 ≤ absI x ∧ absI x ≤ 7 := by unfold letP at h; unfold absI; split <;> omega
end Go.Proofs.Ytchfjglofmphfaa
namespace Go.Proofs.Ytchfjglofmphfaa
open Go.ChangeShapes Go.WideShapes Go.ChangeAt Go.RowKit

/-- a slice of operations of the call's own, from block base on -/
def OwnO (w : World) (base : Nat) (v : Value) (xs : List OpM) : Prop :=
  w.ownsRow base 104 8 v xs.length (xs.flatMap OpM.cells) ∧ ∀ x ∈ xs, x.ok
theorem OwnO.nil (w : World) (base : Nat) : OwnO w base (.slice none 0 0) [] := ⟨World.ownsRow_nil _ _ _ _, by simp⟩
theorem OwnO.made (w : World) (base : Nat) (hb : base ≤ w.heap.size) : OwnO (w.alloc (.cells #[] 104)) base (.slice (some ⟨w.heap.size, 0, none⟩) 0 0) [] :=
  ⟨World.ownsRow_made w _ 0 hb (by unfold Go.maxLen; omega) (by simp), by simp⟩
/-- a literal of some elements -/
theorem OwnO.lit {w : World} {base g : Nat} {arr : Array Value} {xs : List OpM} (hh : w.heap[g]? = some (.cells arr 104 (0, 0))) (ha : arr.toList = xs.flatMap OpM.cells) (hb : base ≤ g) (hl : xs.length ≤ 1000) (hok : ∀ x ∈ xs, x.ok) :
    OwnO w base (.slice (some ⟨g, 0, none⟩) xs.length xs.length) xs := by
  have hf := flat_length OpM.cells 8 OpM.cells_length xs
  refine ⟨⟨hf, .inr ⟨g, xs.length, arr, rfl, hb, hh, Nat.le_refl _, by unfold Go.maxLen; omega, ?_, ?_⟩⟩, hok⟩
  · rw [← hf, ← ha, Array.length_toList]
  · rw [← hf, ← ha, List.take_of_length_le (Nat.le_refl _)]
theorem OwnO.alloc {w : World} {base : Nat} {v : Value} {xs : List OpM} (h : OwnO w base v xs) (o : Obj) : OwnO (w.alloc o) base v xs := ⟨h.1.alloc o, h.2⟩
theorem OwnO.kept {w w' : World} {base : Nat} {v : Value} {xs : List OpM} {S : Nat → Prop} (h : OwnO w base v xs) (k : Chg S w w') (hS : ∀ g, v.ownBlock = some g → ¬ S g) : OwnO w' base v xs := by
  refine ⟨⟨h.1.1, ?_⟩, h.2⟩
  rcases h.1.2 with h2 | ⟨g, cap, cur, rfl, hg, hh, r⟩
  · exact Or.inl h2
  · exact Or.inr ⟨g, cap, cur, rfl, hg, (k.block g (Array.getElem?_eq_some_iff.1 hh).1 (hS g rfl)).trans hh, r⟩
theorem OwnO.up {w w' : World} {base : Nat} {v : Value} {xs : List OpM} (h : OwnO w base v xs) (k : Up w w') : OwnO w' base v xs := h.kept k fun _ _ h => h
theorem OwnO.ops {w : World} {base : Nat} {v : Value} {xs : List OpM} (h : OwnO w base v xs) : Ops w (New base w.heap.size) v xs := ⟨Raw.of_own h.1, h.2⟩
theorem OwnO.lt {w : World} {base : Nat} {v : Value} {xs : List OpM} (h : OwnO w base v xs) {g : Nat} (hg : v.ownBlock = some g) : base ≤ g ∧ g < w.heap.size := h.1.lt g hg

theorem infoOp : (Try.prog.info? 104).map (fun i => (i.zero, i.size, i.bytes)) = some (some (OpM.mk 0 0 0 0 0 0 0 0).val, 8, 64) := by kernel_rfl
theorem cells_one (x : OpM) : ∀ u ∈ x.cells, u.oneCell' = true := by
  intro u hu
  simp only [OpM.cells, List.mem_cons, List.not_mem_nil, or_false] at hu
  rcases hu with rfl | rfl | rfl | rfl | rfl | rfl | rfl | rfl <;> rfl

set_option maxRecDepth 100000 in
/-- 'out = append(out, list...)': the source reads as a list of operations -/
theorem wp_append_ops {w : World} {ops : Array Oper} {rest : List Oper} {o : Oper} {a : Act} {Q : Exit → Act → World → Prop} (hgd : o.guard = none) (s x : Operand)
    (ho : o.op = .call { callee := .builtin .append, args := #[s, x], argTypes := #[60, 60] })
    (base : Nat) (v : Value) (xs : List OpM) (hs : a.eval s = v) (hown : OwnO w base v xs)
    (S : Nat → Prop) (u : Value) (ys : List OpM) (hx : a.eval x = u) (hsrc : Ops w S u ys) (hlen : xs.length + ys.length ≤ 1099511627776) (hbase : base ≤ w.heap.size)
    (h : ∀ v' w', OwnO w' base v' (xs ++ ys) → w.grownBy w' v.ownBlock → Chg (fun k => base ≤ k) w w' → wpList Try.prog ops Q rest (a.put o.dst v') w') : wpList Try.prog ops Q (o :: rest) a w := by
  obtain ⟨i0, hi, hz0, hz1, hz2⟩ := info_parts infoOp
  obtain ⟨⟨hl, A, c, rfl, hlc, hcm, hr, hnn⟩, hok⟩ := hsrc
  have hok' : ∀ y ∈ xs ++ ys, y.ok := fun y hy => (List.mem_append.1 hy).elim (hown.2 y) (hok y)
  cases A with
  | none =>
    have hy : ys = [] := by
      rcases Nat.eq_zero_or_pos ys.length with h0 | h0
      · exact List.eq_nil_of_length_eq_zero h0
      · obtain ⟨b, oo, h1, _⟩ := hr h0
        cases h1
    subst hy
    obtain rfl := hnn rfl
    refine wpList_append_own_none hgd s x 60 ho base 104 i0 8 Try.underlying60 hi v xs.length _ hs hown.1 hx ?_
    exact h v w (by simpa using hown) (World.grownBy.refl w _) (Chg.refl _ _)
  | some ad =>
    have hnews : ∀ j q, (ys.flatMap OpM.cells)[j]? = some q → w.cell? (ad.add j) = some q := by
      intro j q hq
      obtain ⟨hj, he⟩ := List.getElem?_eq_some_iff.1 hq
      have hp : 0 < ys.length := by
        rcases Nat.eq_zero_or_pos ys.length with h0 | h0
        · rw [List.eq_nil_of_length_eq_zero h0] at hj; simp at hj
        · exact h0
      obtain ⟨b, oo, h1, _, _, hc⟩ := hr hp
      injection h1 with h1
      subst h1
      have := (hc j hj).1
      rw [he] at this
      rw [← this]
      unfold Addr.add
      by_cases h0 : j = 0 <;> simp [h0]
    refine wpList_append_own (P := Try.prog) w hgd s x 60 ho base 104 i0 _ 8 64 Try.underlying60 hi hz0 hz1 hz2 rfl (by decide) v xs.length _ hs hown.1 ad ys.length c (ys.flatMap OpM.cells) hx hl hnews ?_ ?_ ?_ hbase ?_
    · intro q hq
      obtain ⟨y, _, hy⟩ := List.mem_flatMap.1 hq
      exact cells_one y q hy
    · unfold Go.maxLen; omega
    · omega
    · intro v' w' h2 h3 _
      exact h v' w' ⟨by simpa using h2, hok'⟩ h3 ((Chg.refl _ _).grown h3 fun k hk => .inl (hown.1.lt k hk).1)
/-- 'out = append(out, x)' -/
theorem wp_append_op {w : World} {ops : Array Oper} {rest : List Oper} {o : Oper} {a : Act} {Q : Exit → Act → World → Prop} (hgd : o.guard = none) (s x : Operand)
    (ho : o.op = .call { callee := .builtin .append, args := #[s, x], argTypes := #[60, 60] })
    (base : Nat) (v : Value) (xs : List OpM) (hs : a.eval s = v) (hown : OwnO w base v xs)
    (g : Nat) (y : OpM) (hx : a.eval x = .slice (some ⟨g, 0, none⟩) 1 1) (hh : w.heap[g]? = some (.cells y.cells.toArray 104 (0, 0))) (hy : y.ok) (hlen : xs.length ≤ 1099511627775) (hbase : base ≤ w.heap.size)
    (h : ∀ v' w', OwnO w' base v' (xs ++ [y]) → w.grownBy w' v.ownBlock → Chg (fun k => base ≤ k) w w' → wpList Try.prog ops Q rest (a.put o.dst v') w') : wpList Try.prog ops Q (o :: rest) a w :=
  wp_append_ops hgd s x ho base v xs hs hown (fun _ => True) _ [y] hx ⟨Raw.of_block hh (by simp) trivial rfl (by simp) (by omega), by simpa using hy⟩ (by simp; omega) hbase h
end Go.Proofs.Ytchfjglofmphfaa
