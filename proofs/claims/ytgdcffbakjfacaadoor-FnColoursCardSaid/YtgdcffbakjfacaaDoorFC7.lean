/- New columns and the targets of columns, on both sides. No condition but room. StacksAfter, the program's. No condition. StacksAfter, the reference's. No condition. StacksAfter of the reference: too thick or not; the whole. No condition. StacksAfter of the reference: the whole. No condition. Appending numbers to a row of one's own, as a step of a region that draws. No condition. The letters of a row of stitches, and their bounds: plain data. No condition. Rows under construction: slices of operations to which the call appends. No condition but room. -/
import Derived.Test.YtgdcffbakjfacaaDoorFC6
import Derived.Laws.AppendOwnNone
import Derived.Test.YtgdcffbakjfacaaDoorFC5
import Derived.Deep.QuietTactic
import Derived.Test.YtgdcffbakjfacaaDoorFC1
import Derived.Test.YtgdcffbakjfacaaDoorFC3
namespace Go.Proofs.YtgdcffbakjfacaaDoor
open Go.ChangeShapes Go.WideShapes Go.ChangeAt Go.RowKit
set_option maxRecDepth 100000 in
/-- 'out = append(out, list...)' -/
theorem wp_append_ints {w : World} {ops : Array Oper} {rest : List Oper} {o : Oper} {a : Act} {Q : Exit → Act → World → Prop} (hgd : o.guard = none) (s x : Operand)
    (ho : o.op = .call { callee := .builtin .append, args := #[s, x], argTypes := #[31, 31] })
    (base : Nat) (v : Value) (xs : List Int) (hs : a.eval s = v) (hown : OwnI w base v xs)
    (S : Nat → Prop) (u : Value) (ys : List Int) (hx : a.eval x = u) (hsrc : Ints w S u ys) (hlen : xs.length + ys.length ≤ 1099511627776) (hbase : base ≤ w.heap.size)
    (h : ∀ v' w', OwnI w' base v' (xs ++ ys) → Chg (fun b => v.ownBlock = some b) w w' → (∀ b, v'.ownBlock = some b → v.ownBlock = some b ∨ w.heap.size ≤ b) → Chg (fun k => base ≤ k) w w' → wpList Tryd.prog ops Q rest (a.put o.dst v') w') : wpList Tryd.prog ops Q (o :: rest) a w := by
  obtain ⟨i0, hi, hz0, hz1, hz2⟩ := info_parts info2
  obtain ⟨A, c, rfl, hlc, hcm, hok, hr, hnn⟩ := hsrc
  have hok' : ∀ y ∈ xs ++ ys, I64 y := fun y hy => (List.mem_append.1 hy).elim (hown.2 y) (hok y)
  cases A with
  | none =>
    have hy : ys = [] := by
      rcases Nat.eq_zero_or_pos ys.length with h0 | h0
      · exact List.eq_nil_of_length_eq_zero h0
      · obtain ⟨b, oo, h1, _⟩ := hr h0
        cases h1
    subst hy
    obtain rfl := hnn rfl
    refine wpList_append_own_none hgd s x 31 ho base 2 i0 1 Tryd.underlying31 hi v xs.length _ hs hown.1 hx ?_
    exact h v w (by simpa using hown) (Chg.refl _ _) (fun b hb => .inl hb) (Chg.refl _ _)
  | some ad =>
    have hnews : ∀ j q, (ys.map (Value.int .i64))[j]? = some q → w.cell? (ad.add j) = some q := by
      intro j q hq
      obtain ⟨hj, he⟩ := List.getElem?_eq_some_iff.1 hq
      have hj' : j < ys.length := by simpa using hj
      obtain ⟨b, oo, h1, _, _, hc⟩ := hr (by omega)
      injection h1 with h1
      subst h1
      have := (hc j hj').1
      rw [← he, List.getElem_map, ← this]
      unfold Addr.add
      by_cases h0 : j = 0 <;> simp [h0]
    refine wpList_append_own2 (P := Tryd.prog) hgd s x 31 ho base 2 i0 (.int .i64 0) 1 8 Tryd.underlying31 hi hz0 hz1 hz2 rfl (by decide) v xs.length _ hs hown.1 ad ys.length c (ys.map (Value.int .i64)) hx (by simp) hnews ?_ ?_ ?_ hbase ?_
    · intro q hq
      obtain ⟨y, _, rfl⟩ := List.mem_map.1 hq
      rfl
    · unfold Go.maxLen; omega
    · omega
    · intro v' w' h2 h3 h4
      exact h v' w' ⟨by simpa using h2, hok'⟩ (Chg.of_grown h3) h4 ((Chg.refl _ _).grown h3 fun k hk => .inl (hown.1.lt k hk).1)
/-- the columns that stitches StOver make -/
def newL : Int → List Int → List Int
  | _, [] => []
  | a, k :: ks => (if k = 3 then countM a (madeK k) else []) ++ newL (a + madeK k) ks
theorem newL_append : ∀ (ks ls : List Int) (a : Int), newL a (ks ++ ls) = newL a ks ++ newL (a + sumF madeK ks) ls
  | [], ls, a => by simp [newL, sumF]
  | k :: ks, ls, a => by
    simp only [List.cons_append, newL, newL_append ks ls, sumF, List.append_assoc]
    rw [Int.add_assoc]
theorem newL_take {xs : List Int} {j : Nat} (h : j < xs.length) : newL 0 (xs.take (j + 1)) = newL 0 (xs.take j) ++ (if xs[j] = 3 then countM (sumF madeK (xs.take j)) (madeK xs[j]) else []) := by
  rw [List.take_succ_eq_append_getElem h, newL_append]
  simp [newL]
theorem newL_len : ∀ (ks : List Int) (a : Int), (newL a ks).length ≤ 4 * ks.length
  | [], _ => by simp [newL]
  | k :: ks, a => by
    have h1 := newL_len ks (a + madeK k)
    have h2 := madeK_bd k
    simp only [newL, List.length_append, List.length_cons]
    split
    · rw [countM_length]; omega
    · simp; omega
def newOut (r : RowM) : List Int := if rowCodeM r.d r.c r.xs = 0 then newL 0 r.xs else []
theorem newOut_bd (r : RowM) : cntInts (newOut r) ≤ 1000000 := by
  unfold newOut cntInts
  split
  · rename_i h
    have hl := (laid_of h).len
    have := newL_len r.xs 0
    omega
  · simp
def Off (lo hi : Nat) (v : Value) : Prop := ∀ g, v.ownBlock = some g → g < lo ∨ hi ≤ g
end Go.Proofs.YtgdcffbakjfacaaDoor
section
set_option linter.unusedSimpArgs false
set_option linter.unusedVariables false
set_option maxRecDepth 100000
set_option maxHeartbeats 1000000
namespace Go.Proofs.YtgdcffbakjfacaaDoor
open Go.ChangeShapes Go.WideShapes Go.ChangeAt Go.RowKit
theorem saC_1 {st ks : List Int} (h : (stkB st && stB ks) = false) : saC st ks = 1 ∧ saL st ks = [] := by
  have e : saC st ks = 1 := by unfold saC; rw [h]; rfl
  exact ⟨e, by unfold saL; rw [e]; rfl⟩
theorem saC_10 {st ks : List Int} (h : (stkB st && stB ks) = true) (h2 : ¬ sumF takenK ks = st.length) : saC st ks = 10 ∧ saL st ks = [] := by
  have e : saC st ks = 10 := by unfold saC; rw [h, if_pos rfl, if_neg h2]
  exact ⟨e, by unfold saL; rw [e]; rfl⟩
theorem saC_5 {st ks : List Int} (h : (stkB st && stB ks) = true) (h2 : sumF takenK ks = st.length) (h3 : (okTo st ks ks.length && decide ((aftTo st ks ks.length).length ≤ 8)) = false) : saC st ks = 5 ∧ saL st ks = [] := by
  have e : saC st ks = 5 := by unfold saC; rw [h, if_pos rfl, if_pos h2, h3]; rfl
  exact ⟨e, by unfold saL; rw [e]; rfl⟩
theorem saC_0 {st ks : List Int} (h : (stkB st && stB ks) = true) (h2 : sumF takenK ks = st.length) (h3 : (okTo st ks ks.length && decide ((aftTo st ks ks.length).length ≤ 8)) = true) : saC st ks = 0 ∧ saL st ks = aftTo st ks ks.length := by
  have e : saC st ks = 0 := by unfold saC; rw [h, if_pos rfl, if_pos h2, h3]; rfl
  exact ⟨e, by unfold saL; rw [e]; rfl⟩
theorem ix_drop_take {xs : List Int} {i k j : Nat} (hj : j < k) (h : i + j < xs.length) : ix ((xs.drop i).take k) j = ix xs (i + j) := by
  unfold ix
  rw [List.getD_eq_getElem?_getD, List.getD_eq_getElem?_getD, List.getElem?_take, if_pos hj, List.getElem?_drop]
theorem stepS_take {k : Int} {st : List Int} {p n : Nat} (hk : kindB k = true) (hn : (n : Int) = takenK k) (hp : p + n ≤ st.length) : stepS k (ix ((st.drop p).take n) 0) (ix ((st.drop p).take n) 1) = stepS k (ix st p) (ix st (p + 1)) ∧ okS k (ix ((st.drop p).take n) 0) (ix ((st.drop p).take n) 1) = okS k (ix st p) (ix st (p + 1)) := by
  have e0 : 0 < n → ix ((st.drop p).take n) 0 = ix st p := fun h => by rw [ix_drop_take h (by omega)]; rfl
  have e1 : 1 < n → ix ((st.drop p).take n) 1 = ix st (p + 1) := fun h => ix_drop_take h (by omega)
  rcases kindB_cases hk with rfl | rfl | rfl | rfl | rfl | rfl | rfl | rfl | rfl | rfl | rfl
  all_goals (first
    | (have hn : (n : Int) = 1 := hn; rw [e0 (by omega)]; exact ⟨rfl, rfl⟩)
    | (have hn : (n : Int) = 2 := hn; rw [e0 (by omega), e1 (by omega)]; exact ⟨rfl, rfl⟩)
    | exact ⟨rfl, rfl⟩)
theorem StacksAfter_any (w : World) (S S2 : Nat → Prop) (v u : Value) (st ks : List Int) (h : Ints w S v st) (h2 : Ints w S2 u ks) :
    Calls Tryd.prog 55 #[v, u] w fun e w' => ∃ v', e = .returned (.tuple #[v', .int .i64 (saC st ks)]) ∧ Ints w' (New w.heap.size w'.heap.size) v' (saL st ks) ∧ Up w w' := by
  obtain ⟨A, c, rfl, hlc, hcm, -⟩ := h.shape
  obtain ⟨A2, c2, rfl, hlc2, hcm2, -⟩ := h2.shape
  have H := Lib.hid (h.mono (T := fun b => b < w.heap.size) fun _ h _ => h)
  have H2 := Lib.hid (h2.mono (T := fun b => b < w.heap.size) fun _ h _ => h)
  clear h h2
  go_enter Tryd.func55, Tryd.ntmps55
  go_wp2_with fail
  refine (areStacks_any _ _ _ st H.out).mono ?_
  rintro e w' ⟨rfl, rfl⟩
  cases hs : stkB st with
  | false =>
    have HV := Lib.hid (saC_1 (st := st) (ks := ks) (by rw [hs]; rfl))
    clear hs
    go_wp2
    go_ret2
    rw [HV.out.1, HV.out.2]
    exact ⟨_, rfl, Ints.nil _ _ 0 none (by omega), Chg.refl _ _⟩
  | true =>
    have HS := Lib.hid hs
    clear hs
    go_wp2_with fail
    refine (areStitches_any _ _ _ ks H2.out).mono ?_
    rintro e w' ⟨rfl, rfl⟩
    cases hk : stB ks with
    | false =>
      have HV := Lib.hid (saC_1 (st := st) (ks := ks) (by rw [hk, Bool.and_false]))
      clear hk
      go_wp2
      go_ret2
      rw [HV.out.1, HV.out.2]
      exact ⟨_, rfl, Ints.nil _ _ 0 none (by omega), Chg.refl _ _⟩
    | true =>
      have HK := Lib.hid hk
      have HB := Lib.hid (show (stkB st && stB ks) = true by rw [HS.out, hk]; rfl)
      have hks := stB_len hk
      clear hk
      go_wp2_with fail
      refine (takenBy_yes _ _ _ ks H2.out HK.out).mono ?_
      rintro e w' ⟨rfl, rfl⟩
      by_cases hsum : sumF takenK ks = (st.length : Int)
      rotate_left
      · have t1 : (sumF takenK ks == (st.length : Int)) = false := by simpa using hsum
        have t2 : (sumF takenK ks != (st.length : Int)) = true := by simpa using hsum
        have HV := Lib.hid (saC_10 HB.out hsum)
        clear hsum
        go_wp2
        go_ret2
        rw [HV.out.1, HV.out.2]
        exact ⟨_, rfl, Ints.nil _ _ 0 none (by omega), Chg.refl _ _⟩
      have HSUM := Lib.hid hsum
      have t1 : (sumF takenK ks != (st.length : Int)) = false := by simpa using hsum
      clear hsum
      go_wp2
      go_loopw [6, 7, 30] (fun q r i wr => ∃ (j : Nat), j ≤ ks.length ∧ i = .int .i64 j ∧ Hid (OwnI wr w.heap.size q (aftTo st ks j)) ∧ Hid (Ints wr (fun b => b < w.heap.size) r (st.drop (posS ks j))) ∧ Hid (okTo st ks j = true) ∧ Hid (Up w wr)) (fun _ _ i _ => ks.length - (intOf i).toNat)
      case atStart =>
        refine ⟨0, by omega, rfl, OwnI.made _ _ (Nat.le_refl _), ?_, rfl, (Chg.refl _ _).alloc _⟩
        exact (H.out.up ((Chg.refl _ _).alloc _))
      case round =>
        obtain ⟨j, hj, rfl, hq, hr, hok, hu⟩ := hrel
        by_cases hlt : j < ks.length
        · obtain ⟨b, o, rfl, -, hc⟩ := (H2.out.up hu.out).ix hlt
          have f1 := hc j hlt
          rw [ix_eq hlt] at f1
          have HKJ := Lib.hid (stB_kind HK.out _ (List.getElem_mem hlt))
          have HPS := Lib.hid (posS_succ hlt)
          have HPL := Lib.hid (posS_le ks (j + 1))
          have hszr := Lib.hid hu.out.size
          obtain ⟨kd, HKD⟩ : ∃ kd, Hid (ks[j] = kd) := ⟨_, Lib.hid rfl⟩
          rw [HKD.out] at f1 HKJ HPS
          obtain ⟨tk, HTK⟩ : ∃ tk : Nat, Hid (takenK kd = tk) := ⟨(takenK kd).toNat, Lib.hid (by have := takenK_bd kd; omega)⟩
          clear hc
          obtain ⟨Ar, cr, rfl, hlr, hcr, har⟩ := hr.out.shape
          have hpl : posS ks j + tk ≤ st.length := by have a := HPS.out; have b := HPL.out; have c := HSUM.out; have d := HTK.out; rw [d] at a; simp at a; omega
          have hdl : (st.drop (posS ks j)).length = st.length - posS ks j := by simp
          have htc : tk ≤ cr := by omega
          have htc2 : (tk : Int) ≤ cr := by omega
          have htl : (tk : Int) ≤ (st.drop (posS ks j)).length := by omega
          go_wp2_with fail
          refine (ColumnsTaken_any _ _).mono ?_
          rintro e w' ⟨rfl, rfl⟩
          rw [takenOf_ok HKJ.out, HTK.out]
          have hst := stepS_take (st := st) (p := posS ks j) HKJ.out HTK.out.symm hpl
          have HST := Lib.hid hst
          have HR := Lib.hid (show Ints wr (fun b => b < w.heap.size) (.slice Ar tk cr) ((st.drop (posS ks j)).take tk) from hr.out.took (by omega) rfl)
          have htkl : (((st.drop (posS ks j)).take tk).length : Int) = takenK kd := by rw [List.length_take, hdl, HTK.out]; omega
          have HTL := Lib.hid htkl
          have HSB := Lib.hid (stkB_bd HS.out)
          clear hst htkl
          go_wp2_with fail
          refine (madeStacks_any _ _ _ _ HR.out kd HKJ.out HTL.out (fun x hx => HSB.out x (List.mem_of_mem_drop (List.mem_of_mem_take hx)))).mono ?_
          rintro e w2 ⟨v2, rfl, k2, g2⟩
          rw [HST.out.1] at k2
          rw [HST.out.2]
          have HSA : Hid (stepAt st ks j = stepS kd (ix st (posS ks j)) (ix st (posS ks j + 1))) := Lib.hid (by unfold stepAt; rw [ix_eq hlt, HKD.out])
          have HOA : Hid (okAt st ks j = okS kd (ix st (posS ks j)) (ix st (posS ks j + 1))) := Lib.hid (by unfold okAt; rw [ix_eq hlt, HKD.out])
          rw [← HSA.out] at k2
          obtain ⟨A3, c3, rfl, hl3, hc3, -⟩ := k2.shape
          have K2 := Lib.hid k2
          have G2 := Lib.hid g2
          have hz2 := g2.size
          clear k2 g2
          cases hok2 : okS kd (ix st (posS ks j)) (ix st (posS ks j + 1)) with
          | false =>
            have HV := Lib.hid (saC_5 HB.out HSUM.out (by rw [okTo_false hlt (HOA.out.trans hok2)]; rfl))
            clear hok2
            go_wp2
            go_ret2
            rw [HV.out.1, HV.out.2]
            exact ⟨_, rfl, Ints.nil _ _ 0 none (by omega), Chg.trans hu.out G2.out⟩
          | true =>
            have HOK2 : Hid (okTo st ks (j + 1) = true) := Lib.hid (by rw [okTo_succ, hok.out, HOA.out, hok2]; rfl)
            have HQ2 := Lib.hid (hq.out.up G2.out)
            have HR2 := Lib.hid (hr.out.up G2.out)
            have hlen1 := aftTo_len st ks j
            have hlen2 : (stepAt st ks j).length ≤ 4 := stepS_length _ _ _
            have HLN : Hid ((aftTo st ks j).length + (stepAt st ks j).length ≤ 1099511627776) := Lib.hid (by omega)
            have HBS : Hid (w.heap.size ≤ w2.heap.size) := Lib.hid (by have := hszr.out; omega)
            clear hok2 hlen1 hlen2
            go_wp2_with (at_builtin; refine wp_append_ints rfl _ _ rfl w.heap.size _ (aftTo st ks j) rfl HQ2.out _ _ (stepAt st ks j) rfl K2.out HLN.out HBS.out ?_; intro v3 w3 ho3 _ _ hg3; have HO3 := Lib.hid ho3; have HG3 := Lib.hid hg3; clear ho3 hg3)
            have HU3 := Lib.hid (Chg.new (Chg.trans hu.out G2.out) HG3.out (fun i hi h => by have h : w.heap.size ≤ i := h; omega) : Up w w3)
            have HR3 := Lib.hid (HR2.out.keep HG3.out (fun b hb h1 h9 => by have h1 : b < w.heap.size := h1; have h9 : w.heap.size ≤ b := h9; omega))
            go_roundw
            case rel =>
              refine ⟨j + 1, by omega, by go_num, by rw [aftTo_succ]; exact HO3.out, ?_, HOK2.out, HU3.out⟩
              have e9 : posS ks (j + 1) = posS ks j + tk := by rw [HPS.out, HTK.out]; simp
              rw [e9, ← List.drop_drop]
              refine HR3.out.dropt (by omega) (by omega) rfl (fun b o e hlt9 => ?_) (fun e => ?_)
              · subst e
                rw [if_neg (by omega)]
                unfold Addr.add
                by_cases h0 : tk = 0 <;> simp [h0]
              · by_cases h0 : cr = tk
                · omega
                · rw [if_neg h0] at e
                  have : Ar = none := by cases Ar with | none => rfl | some a => simp at e
                  have := har this
                  omega
            case measure => first | (simp [intOf]; done) | (simp [intOf]; omega)
        · obtain rfl : j = ks.length := by omega
          obtain ⟨Aq, cq, rfl, hlq, hcq, -⟩ := hq.out.ints.shape
          have HZ := Lib.hid hu.out.size
          by_cases h8 : (aftTo st ks ks.length).length ≤ 8
          · have HV := Lib.hid (saC_0 HB.out HSUM.out (by rw [hok.out, decide_eq_true h8]; rfl))
            have t8 : decide ((8 : Int) < ((aftTo st ks ks.length).length : Int)) = false := decide_eq_false (by omega)
            clear h8
            go_wp2
            go_ret2
            rw [HV.out.1, HV.out.2]
            exact ⟨_, rfl, hq.out.ints, hu.out⟩
          · have HV := Lib.hid (saC_5 HB.out HSUM.out (by rw [hok.out, decide_eq_false h8]; rfl))
            have t8 : decide ((8 : Int) < ((aftTo st ks ks.length).length : Int)) = true := decide_eq_true (by omega)
            clear h8
            go_wp2
            go_ret2
            rw [HV.out.1, HV.out.2]
            exact ⟨_, rfl, Ints.nil _ _ 0 none (by omega), hu.out⟩
end Go.Proofs.YtgdcffbakjfacaaDoor
end
section
set_option linter.unusedSimpArgs false
set_option linter.unusedVariables false
set_option maxRecDepth 100000
set_option maxHeartbeats 1000000
namespace Go.Proofs.YtgdcffbakjfacaaDoor
open Go.ChangeShapes Go.WideShapes Go.ChangeAt Go.RowKit
theorem aftTo_bd {st ks : List Int} (hs : stkB st = true) (hsum : sumF takenK ks = st.length) (hk : stB ks = true) : ∀ j, j ≤ ks.length → ∀ x ∈ aftTo st ks j, 1 ≤ x ∧ x ≤ 5 := by
  intro j
  induction j with
  | zero => intro _ x hx; simp [aftTo] at hx
  | succ j ih =>
    intro hj x hx
    rw [aftTo_succ] at hx
    rcases List.mem_append.1 hx with hx | hx
    · exact ih (by omega) x hx
    · have hp := posS_succ (ks := ks) (j := j) (by omega)
      have hl := posS_le ks (j + 1)
      have hkj := stB_kind hk _ (List.getElem_mem (show j < ks.length by omega))
      unfold stepAt stepS at hx
      rw [ix_eq (show j < ks.length by omega)] at hx
      have ha : takenK ks[j] ≥ 1 → 1 ≤ ix st (posS ks j) ∧ ix st (posS ks j) ≤ 4 := fun h1 => by
        have : posS ks j < st.length := by omega
        rw [ix_eq this]
        exact stkB_bd hs _ (List.getElem_mem this)
      split at hx
      · rename_i h6
        have := ha (by rw [h6]; decide)
        simp at hx; omega
      · split at hx
        · rename_i h7
          have := ha (by rw [h7]; decide)
          simp at hx; omega
        · have := List.eq_of_mem_replicate hx; omega
theorem mkNat (k : Int) : ∃ n : Nat, madeK k = n ∧ 1 ≤ n ∧ n ≤ 4 := ⟨(madeK k).toNat, by have := madeK_bd k; omega, by have := madeK_bd k; omega, by have := madeK_bd k; omega⟩
end Go.Proofs.YtgdcffbakjfacaaDoor
end
section
set_option linter.unusedSimpArgs false
set_option linter.unusedVariables false
set_option maxRecDepth 100000
set_option maxHeartbeats 1000000
namespace Go.Proofs.YtgdcffbakjfacaaDoor
open Go.ChangeShapes Go.WideShapes Go.ChangeAt Go.RowKit
def thickAt (st ks : List Int) (i : Nat) : Bool := decide ((ix ks i = 4 ∨ ix ks i = 5) ∧ 4 < ix st (posS ks i) + ix st (posS ks i + 1))
def thickTo (st ks : List Int) (j : Nat) : Bool := (List.range j).any (thickAt st ks)
theorem thickTo_succ (st ks : List Int) (j : Nat) : thickTo st ks (j + 1) = (thickTo st ks j || thickAt st ks j) := by
  unfold thickTo; rw [List.range_succ, List.any_append]; simp
theorem thickTo_true {st ks : List Int} {j n : Nat} (hj : j < n) (h : thickAt st ks j = true) : thickTo st ks n = true := by
  unfold thickTo
  exact List.any_eq_true.2 ⟨j, by simpa using hj, h⟩
theorem okAt_eq {st ks : List Int} (hs : stkB st = true) (hk : stB ks = true) (hsum : sumF takenK ks = st.length) {i : Nat} (hi : i < ks.length) : okAt st ks i = ((stepAt st ks i).all stk1B && !thickAt st ks i) := by
  have hkj := stB_kind hk _ (List.getElem_mem hi)
  have hp := posS_succ hi
  have hl := posS_le ks (i + 1)
  have ha : takenK ks[i] ≥ 1 → 1 ≤ ix st (posS ks i) ∧ ix st (posS ks i) ≤ 4 := fun h1 => by
    have : posS ks i < st.length := by omega
    rw [ix_eq this]
    exact stkB_bd hs _ (List.getElem_mem this)
  unfold okAt stepAt thickAt okS stepS
  rw [ix_eq hi]
  generalize ix st (posS ks i) = a at ha ⊢
  generalize ix st (posS ks i + 1) = b
  generalize ks[i] = k at hkj ha ⊢
  rcases kindB_cases hkj with rfl | rfl | rfl | rfl | rfl | rfl | rfl | rfl | rfl | rfl | rfl
  case inr.inr.inr.inr.inr.inl =>
    have := ha (by decide)
    rw [Bool.eq_iff_iff]
    simp [stk1B, inB]
    omega
  case inr.inr.inr.inr.inr.inr.inl =>
    have := ha (by decide)
    rw [Bool.eq_iff_iff]
    simp [stk1B, inB]
    omega
  all_goals (first | (simp [madeK, stk1B, inB]; done) | (rw [Bool.eq_iff_iff]; simp [madeK, stk1B, inB]; omega) | (rw [Bool.eq_iff_iff]; simp [madeK, stk1B, inB]))
theorem okTo_eq {st ks : List Int} (hs : stkB st = true) (hk : stB ks = true) (hsum : sumF takenK ks = st.length) : ∀ j, j ≤ ks.length → okTo st ks j = ((aftTo st ks j).all stk1B && !thickTo st ks j) := by
  intro j
  induction j with
  | zero => intro _; rfl
  | succ j ih =>
    intro hj
    rw [okTo_succ, aftTo_succ, thickTo_succ, List.all_append, ih (by omega), okAt_eq hs hk hsum (by omega)]
    cases (aftTo st ks j).all stk1B <;> cases (stepAt st ks j).all stk1B <;> cases thickTo st ks j <;> cases thickAt st ks j <;> rfl
theorem thick_all {st ks : List Int} (hs : stkB st = true) (hk : stB ks = true) (hsum : sumF takenK ks = st.length) : (okTo st ks ks.length && decide ((aftTo st ks ks.length).length ≤ 8)) = (stkB (aftTo st ks ks.length) && !thickTo st ks ks.length) := by
  rw [okTo_eq hs hk hsum _ (Nat.le_refl _)]
  unfold stkB
  cases (aftTo st ks ks.length).all stk1B <;> cases thickTo st ks ks.length <;> simp
end Go.Proofs.YtgdcffbakjfacaaDoor
end
section
set_option linter.unusedSimpArgs false
set_option linter.unusedVariables false
set_option maxRecDepth 100000
set_option maxHeartbeats 1000000
namespace Go.Proofs.YtgdcffbakjfacaaDoor
open Go.ChangeShapes Go.WideShapes Go.ChangeAt Go.RowKit
end Go.Proofs.YtgdcffbakjfacaaDoor
end
namespace Go.Proofs.YtgdcffbakjfacaaDoor
open Go.ChangeShapes Go.WideShapes Go.ChangeAt Go.RowKit
set_option maxRecDepth 100000 in
set_option maxHeartbeats 4000000 in
theorem wp_append_own3 {P : Program} {w : World} {o : Oper} {a : Act} {K : Act → World → Prop} {Q : Exit → Act → World → Prop} (s x : Operand) (t : TypeId)
    (ho : o.op = .call { callee := .builtin .append, args := #[s, x], argTypes := #[t, t] })
    (base : Nat) (e : TypeId) (i : TypeInfo) (z : Value) (size bytes : Nat) (ht : P.underlying t = some (.slice e)) (hi : P.info? e = some i) (hz : i.zero = some z)
    (hsize : i.size = size) (hby : i.bytes = bytes) (hzs : z.cells.size = size) (hsz : 0 < size)
    (v : Value) (n : Nat) (xs : List Value) (hs : a.eval s = v) (hown : w.ownsRow base e size v n xs)
    (ad : Addr) (m c : Nat) (news : List Value) (hx : a.eval x = .slice (some ad) m c) (hl : news.length = m * size) (hnews : ∀ j u, news[j]? = some u → w.cell? (ad.add j) = some u) (h1 : ∀ u ∈ news, u.oneCell' = true)
    (h63 : n + m ≤ maxLen) (hbytes : (n + m) * bytes ≤ 140737488355328) (hbase : base ≤ w.heap.size)
    (h : ∀ v' w', w'.ownsRow base e size v' (n + m) (xs ++ news) → w.grownBy w' v.ownBlock → (∀ g, v'.ownBlock = some g → v.ownBlock = some g ∨ w.heap.size ≤ g) → K (a.put o.dst v') w') : o.wp P a w K Q := by
  obtain ⟨v', w', hr, h2, h3, _⟩ := run_append_own (P := P) w base t o.type e i z size bytes ht hi hz hsize hby hzs hsz v n xs hown ad m c news hl hnews h1 h63 hbytes hbase
  have h5 := append_block (P := P) base t o.type e i z size bytes ht hi hz hsize hby hzs hsz v n xs hown ad m c news hl hnews h1 h63 hbytes hr
  unfold Oper.wp execOp
  simp only [ho, resolve, invoke, builtin, Sem.run_bind, Sem.run_pure, Result.andThen_ok, List.map_toArray, List.map_cons, List.map_nil, hs, hx, hr]
  exact h v' w' h2 h3 h5
set_option maxRecDepth 100000 in
set_option maxHeartbeats 4000000 in
theorem step_appI {w : World} {ops : Array Oper} {o : Oper} {a : Act} {K : Act → World → Prop} {E : Prop} {Q : Exit → Act → World → Prop} (hgd : o.guard = none) (s x : Operand)
    (ho : o.op = .call { callee := .builtin .append, args := #[s, x], argTypes := #[31, 31] })
    (base : Nat) (v : Value) (xs : List Int) (hs : a.eval s = v) (hown : OwnI w base v xs)
    (S : Nat → Prop) (u : Value) (ys : List Int) (hx : a.eval x = u) (hsrc : Ints w S u ys) (hlen : xs.length + ys.length ≤ 1099511627776) (hbase : base ≤ w.heap.size)
    (h : ∀ v' w', OwnI w' base v' (xs ++ ys) → Chg (fun b => v.ownBlock = some b) w w' → (∀ b, v'.ownBlock = some b → v.ownBlock = some b ∨ w.heap.size ≤ b) → Chg (fun k => base ≤ k) w w' → K (a.put o.dst v') w') :
    if Region.wanted o (yielded ops a.tmps) = true then Oper.wp Tryd.prog o a w K Q else E := by
  have hw : Region.wanted o (yielded ops a.tmps) = true := by simp [Region.wanted, hgd]
  rw [if_pos hw]
  obtain ⟨i0, hi, hz0, hz1, hz2⟩ := info_parts info2
  obtain ⟨A, c, rfl, hlc, hcm, hok, hr, hnn⟩ := hsrc
  have hok' : ∀ y ∈ xs ++ ys, I64 y := fun y hy => (List.mem_append.1 hy).elim (hown.2 y) (hok y)
  cases A with
  | none =>
    have hy : ys = [] := by
      rcases Nat.eq_zero_or_pos ys.length with h0 | h0
      · exact List.eq_nil_of_length_eq_zero h0
      · obtain ⟨b, oo, h1, _⟩ := hr h0
        cases h1
    subst hy
    obtain rfl := hnn rfl
    have hrun := run_append_owned_none (P := Tryd.prog) (w := w) base 31 o.type 2 i0 1 Tryd.underlying31 hi v xs.length _ hown.1
    have hK := h v w (by simpa using hown) (Chg.refl _ _) (fun b hb => .inl hb) (Chg.refl _ _)
    unfold Oper.wp
    simp [execOp, ho, resolve, invoke, builtin, hs, hx, hrun, Result.andThen]
    exact hK
  | some ad =>
    have hnews : ∀ j q, (ys.map (Value.int .i64))[j]? = some q → w.cell? (ad.add j) = some q := by
      intro j q hq
      obtain ⟨hj, he⟩ := List.getElem?_eq_some_iff.1 hq
      have hj' : j < ys.length := by simpa using hj
      obtain ⟨b, oo, h1, _, _, hc⟩ := hr (by omega)
      injection h1 with h1
      subst h1
      have := (hc j hj').1
      rw [← he, List.getElem_map, ← this]
      unfold Addr.add
      by_cases h0 : j = 0 <;> simp [h0]
    refine wp_append_own3 (P := Tryd.prog) s x 31 ho base 2 i0 (.int .i64 0) 1 8 Tryd.underlying31 hi hz0 hz1 hz2 rfl (by decide) v xs.length _ hs hown.1 ad ys.length c (ys.map (Value.int .i64)) hx (by simp) hnews ?_ ?_ ?_ hbase ?_
    · intro q hq
      obtain ⟨y, _, rfl⟩ := List.mem_map.1 hq
      rfl
    · unfold Go.maxLen; omega
    · omega
    · intro v' w' h2 h3 h4
      exact h v' w' ⟨by simpa using h2, hok'⟩ (Chg.of_grown h3) h4 ((Chg.refl _ _).grown h3 fun k hk => .inl (hown.1.lt k hk).1)
end Go.Proofs.YtgdcffbakjfacaaDoor
namespace Go.Proofs.YtgdcffbakjfacaaDoor
def letAt (k c : Int) : List Int :=
  if k = 8 then [c + 1] else if k = 9 ∨ k = 5 then [-c - 1] else if k = 10 then [c + 2, c + 1, c + 3, c + 2] else if k = 11 then [-c - 2, -c - 1, -c - 3, -c - 2] else []
def letL : Int → List Int → List Int
  | _, [] => []
  | s, k :: ks => letAt k s ++ letL (s + takenK k) ks
theorem letAt_length (k c : Int) : (letAt k c).length ≤ 4 := by
  unfold letAt
  repeat' split
  all_goals simp
theorem letL_length : ∀ (ks : List Int) (s : Int), (letL s ks).length ≤ 4 * ks.length
  | [], _ => by simp [letL]
  | k :: ks, s => by
    have h1 := letL_length ks (s + takenK k)
    have h2 := letAt_length k s
    simp only [letL, List.length_append, List.length_cons]
    omega
theorem letL_append : ∀ (ks ls : List Int) (s : Int), letL s (ks ++ ls) = letL s ks ++ letL (s + sumF takenK ks) ls
  | [], ls, s => by simp [letL, sumF]
  | k :: ks, ls, s => by
    simp only [List.cons_append, letL, letL_append ks ls, sumF, List.append_assoc]
    rw [Int.add_assoc]
theorem letL_take {xs : List Int} {j : Nat} (h : j < xs.length) : letL 0 (xs.take (j + 1)) = letL 0 (xs.take j) ++ letAt xs[j] (sumF takenK (xs.take j)) := by
  rw [List.take_succ_eq_append_getElem h, letL_append]
  simp [letL]
/-- a letter on columns from s to e -/
def letP (s e x : Int) : Prop := (s + 1 ≤ x ∧ x ≤ e - 1) ∨ (s + 1 ≤ -x ∧ -x ≤ e - 1)
theorem letAt_in (k c : Int) : ∀ x ∈ letAt k c, letP c (c + takenK k) x := by
  unfold letAt letP
  by_cases h1 : k = 8
  · rw [if_pos h1]; have : takenK k = 2 := by unfold takenK; rw [if_neg (by omega), if_pos (by omega)]
    intro x hx; simp at hx; omega
  · rw [if_neg h1]
    by_cases h2 : k = 9 ∨ k = 5
    · rw [if_pos h2]; have : takenK k = 2 := by unfold takenK; rw [if_neg (by omega), if_pos (by omega)]
      intro x hx; simp at hx; omega
    · rw [if_neg h2]
      by_cases h3 : k = 10
      · rw [if_pos h3]; have : takenK k = 4 := by unfold takenK; rw [if_neg (by omega), if_neg (by omega), if_pos (by omega)]
        intro x hx; simp at hx; omega
      · rw [if_neg h3]
        by_cases h4 : k = 11
        · rw [if_pos h4]; have : takenK k = 4 := by unfold takenK; rw [if_neg (by omega), if_neg (by omega), if_pos (by omega)]
          intro x hx; simp at hx; omega
        · rw [if_neg h4]; simp
theorem letL_in : ∀ (ks : List Int) (s : Int), (∀ x ∈ letL s ks, letP s (s + sumF takenK ks) x) ∧ 0 ≤ sumF takenK ks
  | [], s => by simp [letL, sumF]
  | k :: ks, s => by
    obtain ⟨h1, h2⟩ := letL_in ks (s + takenK k)
    have hb := takenK_bd k
    refine ⟨fun x hx => ?_, by simp only [sumF]; omega⟩
    simp only [sumF]
    rcases List.mem_append.1 hx with hx | hx
    · have := letAt_in k s x hx; unfold letP at *; omega
    · have := h1 x hx; unfold letP at *; omega
theorem LaidRow.letters {d c : Int} {xs : List Int} (h : LaidRow d c xs) : ∀ x ∈ letL 0 xs, letP 0 8 x := fun x hx => by
  have h1 := (letL_in xs 0).1 x hx
  have := h.taken
  unfold letP at *
  omega
def absI (x : Int) : Int := if x < 0 then -x else x
theorem absI_bd {x : Int} (h : letP 0 8 x) : 1 ≤ absI x ∧ absI x ≤ 7 := by unfold letP at h; unfold absI; split <;> omega
end Go.Proofs.YtgdcffbakjfacaaDoor
namespace Go.Proofs.YtgdcffbakjfacaaDoor
open Go.ChangeShapes Go.WideShapes Go.ChangeAt Go.RowKit

theorem cells_one (x : OpM) : ∀ u ∈ x.cells, u.oneCell' = true := by
  intro u hu
  simp only [OpM.cells, List.mem_cons, List.not_mem_nil, or_false] at hu
  rcases hu with rfl | rfl | rfl | rfl | rfl | rfl | rfl | rfl <;> rfl

end Go.Proofs.YtgdcffbakjfacaaDoor
