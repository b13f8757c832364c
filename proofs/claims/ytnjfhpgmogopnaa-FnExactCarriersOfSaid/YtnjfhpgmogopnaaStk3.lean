/- StacksAfter, the program's. No condition. -/
import Derived.Test.YtnjfhpgmogopnaaStkM
import Derived.Test.YtnjfhpgmogopnaaRow6
set_option linter.unusedSimpArgs false
set_option linter.unusedVariables false
set_option maxRecDepth 100000
set_option maxHeartbeats 1000000
namespace Go.Proofs.Ytnjfhpgmogopnaa
open Go.ChangeShapes Go.WideShapes Go.ChangeAt Go.RowKit
theorem saC_1 {st ks : List Int} (h : (stkB st && stB ks) = false) : saC st ks = 1 ∧ saL st ks = [] := by
  have e : saC st ks = 1 := by unfold saC; rw [h]; rfl
  exact ⟨e, by unfold saL; rw [e]; rfl⟩
theorem saC_10 {st ks : List Int} (h : (stkB st && stB ks) = true) (h2 : ¬ sumF takenK ks = st.length) : saC st ks = 10 ∧ saL st ks = [] := by
  have e : saC st ks = 10 := by unfold saC; rw [h, if_pos rfl, if_neg h2]
  exact ⟨e, by unfold saL; rw [e]; rfl⟩
theorem saC_5 {st ks : List Int} (h : (stkB st && stB ks) = true) (h2 : sumF takenK ks = st.length) (h3 : (okTo st ks ks.length && decide ((aftTo st ks ks.length).length ≤ 8)) = false) : saC st ks = 5 ∧ saL st ks = [] := by
  have e : saC st ks = 5 := by unfold saC; rw [h, if_pos rfl, if_pos h2, h3]; rfl
  exact ⟨e, by unfold saL; rw [e]; rfl⟩
theorem saC_0 {st ks : List Int} (h : (stkB st && stB ks) = true) (h2 : sumF takenK ks = st.length) (h3 : (okTo st ks ks.length && decide ((aftTo st ks ks.length).length ≤ 8)) = true) : saC st ks = 0 ∧ saL st ks = aftTo st ks ks.length := by
  have e : saC st ks = 0 := by unfold saC; rw [h, if_pos rfl, if_pos h2, h3]; rfl
  exact ⟨e, by unfold saL; rw [e]; rfl⟩
theorem ix_drop_take {xs : List Int} {i k j : Nat} (hj : j < k) (h : i + j < xs.length) : ix ((xs.drop i).take k) j = ix xs (i + j) := by
  unfold ix
  rw [List.getD_eq_getElem?_getD, List.getD_eq_getElem?_getD, List.getElem?_take, if_pos hj, List.getElem?_drop]
theorem stepS_take {k : Int} {st : List Int} {p n : Nat} (hk : kindB k = true) (hn : (n : Int) = takenK k) (hp : p + n ≤ st.length) : stepS k (ix ((st.drop p).take n) 0) (ix ((st.drop p).take n) 1) = stepS k (ix st p) (ix st (p + 1)) ∧ okS k (ix ((st.drop p).take n) 0) (ix ((st.drop p).take n) 1) = okS k (ix st p) (ix st (p + 1)) := by
  have e0 : 0 < n → ix ((st.drop p).take n) 0 = ix st p := fun h => by rw [ix_drop_take h (by omega)]; rfl
  have e1 : 1 < n → ix ((st.drop p).take n) 1 = ix st (p + 1) := fun h => ix_drop_take h (by omega)
  rcases kindB_cases hk with rfl | rfl | rfl | rfl | rfl | rfl | rfl | rfl | rfl | rfl | rfl
  all_goals (first
    | (have hn : (n : Int) = 1 := hn; rw [e0 (by omega)]; exact ⟨rfl, rfl⟩)
    | (have hn : (n : Int) = 2 := hn; rw [e0 (by omega), e1 (by omega)]; exact ⟨rfl, rfl⟩)
    | exact ⟨rfl, rfl⟩)
theorem StacksAfter_any (w : World) (S S2 : Nat → Prop) (v u : Value) (st ks : List Int) (h : Ints w S v st) (h2 : Ints w S2 u ks) :
    Calls Try.prog 211 #[v, u] w fun e w' => ∃ v', e = .returned (.tuple #[v', .int .i64 (saC st ks)]) ∧ Ints w' (New w.heap.size w'.heap.size) v' (saL st ks) ∧ Up w w' := by
  obtain ⟨A, c, rfl, hlc, hcm, -⟩ := h.shape
  obtain ⟨A2, c2, rfl, hlc2, hcm2, -⟩ := h2.shape
  have H := Lib.hid (h.mono (T := fun b => b < w.heap.size) fun _ h _ => h)
  have H2 := Lib.hid (h2.mono (T := fun b => b < w.heap.size) fun _ h _ => h)
  clear h h2
  go_enter Try.func211, Try.ntmps211
  go_wp2_with fail
  refine (areStacks_any _ _ _ st H.out).mono ?_
  rintro e w' ⟨rfl, rfl⟩
  cases hs : stkB st with
  | false =>
    have HV := Lib.hid (saC_1 (st := st) (ks := ks) (by rw [hs]; rfl))
    clear hs
    go_wp2
    go_ret2
    rw [HV.out.1, HV.out.2]
    exact ⟨_, rfl, Ints.nil _ _ 0 none (by omega), Chg.refl _ _⟩
  | true =>
    have HS := Lib.hid hs
    clear hs
    go_wp2_with fail
    refine (areStitches_any _ _ _ ks H2.out).mono ?_
    rintro e w' ⟨rfl, rfl⟩
    cases hk : stB ks with
    | false =>
      have HV := Lib.hid (saC_1 (st := st) (ks := ks) (by rw [hk, Bool.and_false]))
      clear hk
      go_wp2
      go_ret2
      rw [HV.out.1, HV.out.2]
      exact ⟨_, rfl, Ints.nil _ _ 0 none (by omega), Chg.refl _ _⟩
    | true =>
      have HK := Lib.hid hk
      have HB := Lib.hid (show (stkB st && stB ks) = true by rw [HS.out, hk]; rfl)
      have hks := stB_len hk
      clear hk
      go_wp2_with fail
      refine (takenBy_yes _ _ _ ks H2.out HK.out).mono ?_
      rintro e w' ⟨rfl, rfl⟩
      by_cases hsum : sumF takenK ks = (st.length : Int)
      rotate_left
      · have t1 : (sumF takenK ks == (st.length : Int)) = false := by simpa using hsum
        have t2 : (sumF takenK ks != (st.length : Int)) = true := by simpa using hsum
        have HV := Lib.hid (saC_10 HB.out hsum)
        clear hsum
        go_wp2
        go_ret2
        rw [HV.out.1, HV.out.2]
        exact ⟨_, rfl, Ints.nil _ _ 0 none (by omega), Chg.refl _ _⟩
      have HSUM := Lib.hid hsum
      have t1 : (sumF takenK ks != (st.length : Int)) = false := by simpa using hsum
      clear hsum
      go_wp2
      go_loopw [6, 7, 30] (fun q r i wr => ∃ (j : Nat), j ≤ ks.length ∧ i = .int .i64 j ∧ Hid (OwnI wr w.heap.size q (aftTo st ks j)) ∧ Hid (Ints wr (fun b => b < w.heap.size) r (st.drop (posS ks j))) ∧ Hid (okTo st ks j = true) ∧ Hid (Up w wr)) (fun _ _ i _ => ks.length - (intOf i).toNat)
      case atStart =>
        refine ⟨0, by omega, rfl, OwnI.made _ _ (Nat.le_refl _), ?_, rfl, (Chg.refl _ _).alloc _⟩
        exact (H.out.up ((Chg.refl _ _).alloc _))
      case round =>
        obtain ⟨j, hj, rfl, hq, hr, hok, hu⟩ := hrel
        by_cases hlt : j < ks.length
        · obtain ⟨b, o, rfl, -, hc⟩ := (H2.out.up hu.out).ix hlt
          have f1 := hc j hlt
          rw [ix_eq hlt] at f1
          have HKJ := Lib.hid (stB_kind HK.out _ (List.getElem_mem hlt))
          have HPS := Lib.hid (posS_succ hlt)
          have HPL := Lib.hid (posS_le ks (j + 1))
          have hszr := Lib.hid hu.out.size
          obtain ⟨kd, HKD⟩ : ∃ kd, Hid (ks[j] = kd) := ⟨_, Lib.hid rfl⟩
          rw [HKD.out] at f1 HKJ HPS
          obtain ⟨tk, HTK⟩ : ∃ tk : Nat, Hid (takenK kd = tk) := ⟨(takenK kd).toNat, Lib.hid (by have := takenK_bd kd; omega)⟩
          clear hc
          obtain ⟨Ar, cr, rfl, hlr, hcr, har⟩ := hr.out.shape
          have hpl : posS ks j + tk ≤ st.length := by have a := HPS.out; have b := HPL.out; have c := HSUM.out; have d := HTK.out; rw [d] at a; simp at a; omega
          have hdl : (st.drop (posS ks j)).length = st.length - posS ks j := by simp
          have htc : tk ≤ cr := by omega
          have htc2 : (tk : Int) ≤ cr := by omega
          have htl : (tk : Int) ≤ (st.drop (posS ks j)).length := by omega
          go_wp2_with fail
          refine (ColumnsTaken_any _ _).mono ?_
          rintro e w' ⟨rfl, rfl⟩
          rw [takenOf_ok HKJ.out, HTK.out]
          have hst := stepS_take (st := st) (p := posS ks j) HKJ.out HTK.out.symm hpl
          have HST := Lib.hid hst
          have HR := Lib.hid (show Ints wr (fun b => b < w.heap.size) (.slice Ar tk cr) ((st.drop (posS ks j)).take tk) from hr.out.took (by omega) rfl)
          have htkl : (((st.drop (posS ks j)).take tk).length : Int) = takenK kd := by rw [List.length_take, hdl, HTK.out]; omega
          have HTL := Lib.hid htkl
          have HSB := Lib.hid (stkB_bd HS.out)
          clear hst htkl
          go_wp2_with fail
          refine (madeStacks_any _ _ _ _ HR.out kd HKJ.out HTL.out (fun x hx => HSB.out x (List.mem_of_mem_drop (List.mem_of_mem_take hx)))).mono ?_
          rintro e w2 ⟨v2, rfl, k2, g2⟩
          rw [HST.out.1] at k2
          rw [HST.out.2]
          have HSA : Hid (stepAt st ks j = stepS kd (ix st (posS ks j)) (ix st (posS ks j + 1))) := Lib.hid (by unfold stepAt; rw [ix_eq hlt, HKD.out])
          have HOA : Hid (okAt st ks j = okS kd (ix st (posS ks j)) (ix st (posS ks j + 1))) := Lib.hid (by unfold okAt; rw [ix_eq hlt, HKD.out])
          rw [← HSA.out] at k2
          obtain ⟨A3, c3, rfl, hl3, hc3, -⟩ := k2.shape
          have K2 := Lib.hid k2
          have G2 := Lib.hid g2
          have hz2 := g2.size
          clear k2 g2
          cases hok2 : okS kd (ix st (posS ks j)) (ix st (posS ks j + 1)) with
          | false =>
            have HV := Lib.hid (saC_5 HB.out HSUM.out (by rw [okTo_false hlt (HOA.out.trans hok2)]; rfl))
            clear hok2
            go_wp2
            go_ret2
            rw [HV.out.1, HV.out.2]
            exact ⟨_, rfl, Ints.nil _ _ 0 none (by omega), Chg.trans hu.out G2.out⟩
          | true =>
            have HOK2 : Hid (okTo st ks (j + 1) = true) := Lib.hid (by rw [okTo_succ, hok.out, HOA.out, hok2]; rfl)
            have HQ2 := Lib.hid (hq.out.up G2.out)
            have HR2 := Lib.hid (hr.out.up G2.out)
            have hlen1 := aftTo_len st ks j
            have hlen2 : (stepAt st ks j).length ≤ 4 := stepS_length _ _ _
            have HLN : Hid ((aftTo st ks j).length + (stepAt st ks j).length ≤ 1099511627776) := Lib.hid (by omega)
            have HBS : Hid (w.heap.size ≤ w2.heap.size) := Lib.hid (by have := hszr.out; omega)
            clear hok2 hlen1 hlen2
            go_wp2_with (at_builtin; refine wp_append_ints rfl _ _ rfl w.heap.size _ (aftTo st ks j) rfl HQ2.out _ _ (stepAt st ks j) rfl K2.out HLN.out HBS.out ?_; intro v3 w3 ho3 _ _ hg3; have HO3 := Lib.hid ho3; have HG3 := Lib.hid hg3; clear ho3 hg3)
            have HU3 := Lib.hid (Chg.new (Chg.trans hu.out G2.out) HG3.out (fun i hi h => by have h : w.heap.size ≤ i := h; omega) : Up w w3)
            have HR3 := Lib.hid (HR2.out.keep HG3.out (fun b hb h1 h9 => by have h1 : b < w.heap.size := h1; have h9 : w.heap.size ≤ b := h9; omega))
            go_roundw
            case rel =>
              refine ⟨j + 1, by omega, by go_num, by rw [aftTo_succ]; exact HO3.out, ?_, HOK2.out, HU3.out⟩
              have e9 : posS ks (j + 1) = posS ks j + tk := by rw [HPS.out, HTK.out]; simp
              rw [e9, ← List.drop_drop]
              refine HR3.out.dropt (by omega) (by omega) rfl (fun b o e hlt9 => ?_) (fun e => ?_)
              · subst e
                rw [if_neg (by omega)]
                unfold Addr.add
                by_cases h0 : tk = 0 <;> simp [h0]
              · by_cases h0 : cr = tk
                · omega
                · rw [if_neg h0] at e
                  have : Ar = none := by cases Ar with | none => rfl | some a => simp at e
                  have := har this
                  omega
            case measure => first | (simp [intOf]; done) | (simp [intOf]; omega)
        · obtain rfl : j = ks.length := by omega
          obtain ⟨Aq, cq, rfl, hlq, hcq, -⟩ := hq.out.ints.shape
          have HZ := Lib.hid hu.out.size
          by_cases h8 : (aftTo st ks ks.length).length ≤ 8
          · have HV := Lib.hid (saC_0 HB.out HSUM.out (by rw [hok.out, decide_eq_true h8]; rfl))
            have t8 : decide ((8 : Int) < ((aftTo st ks ks.length).length : Int)) = false := decide_eq_false (by omega)
            clear h8
            go_wp2
            go_ret2
            rw [HV.out.1, HV.out.2]
            exact ⟨_, rfl, hq.out.ints, hu.out⟩
          · have HV := Lib.hid (saC_5 HB.out HSUM.out (by rw [hok.out, decide_eq_false h8]; rfl))
            have t8 : decide ((8 : Int) < ((aftTo st ks ks.length).length : Int)) = true := decide_eq_true (by omega)
            clear h8
            go_wp2
            go_ret2
            rw [HV.out.1, HV.out.2]
            exact ⟨_, rfl, Ints.nil _ _ 0 none (by omega), hu.out⟩
end Go.Proofs.Ytnjfhpgmogopnaa
