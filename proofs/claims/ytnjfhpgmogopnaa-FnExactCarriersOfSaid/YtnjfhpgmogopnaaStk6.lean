/- StacksAfter of the reference: the whole. No condition. -/
import Derived.Test.YtnjfhpgmogopnaaStk5
set_option linter.unusedSimpArgs false
set_option linter.unusedVariables false
set_option maxRecDepth 100000
set_option maxHeartbeats 1000000
namespace Go.Proofs.Ytnjfhpgmogopnaa
open Go.ChangeShapes Go.WideShapes Go.ChangeAt Go.RowKit
theorem sStacksAfter_any (w : World) (S S2 : Nat → Prop) (v u : Value) (st ks : List Int) (h : Ints w S v st) (h2 : Ints w S2 u ks) :
    Calls Try.prog 249 #[v, u] w fun e w' => ∃ v', e = .returned (.tuple #[v', .int .i64 (saC st ks)]) ∧ Ints w' (New w.heap.size w'.heap.size) v' (saL st ks) ∧ Up w w' := by
  obtain ⟨A, c, rfl, hlc, hcm, -⟩ := h.shape
  obtain ⟨A2, c2, rfl, hlc2, hcm2, -⟩ := h2.shape
  have H := Lib.hid h
  have H2 := Lib.hid h2
  clear h h2
  go_enter Try.func249, Try.ntmps249
  go_wp2_with fail
  refine (l14Stacks_any _ _ _ st H.out).mono ?_
  rintro e w' ⟨rfl, rfl⟩
  cases hs : stkB st with
  | false =>
    have HV := Lib.hid (saC_1 (st := st) (ks := ks) (by rw [hs]; rfl))
    clear hs
    go_wp2
    go_ret2
    rw [HV.out.1, HV.out.2]
    exact ⟨_, rfl, Ints.nil _ _ 0 none (by omega), Chg.refl _ _⟩
  | true =>
    have HS := Lib.hid hs
    clear hs
    go_wp2_with fail
    refine (l14Ok_any _ _ _ ks H2.out).mono ?_
    rintro e w' ⟨rfl, rfl⟩
    cases hk : stB ks with
    | false =>
      have HV := Lib.hid (saC_1 (st := st) (ks := ks) (by rw [hk, Bool.and_false]))
      clear hk
      go_wp2
      go_ret2
      rw [HV.out.1, HV.out.2]
      exact ⟨_, rfl, Ints.nil _ _ 0 none (by omega), Chg.refl _ _⟩
    | true =>
      have HK := Lib.hid hk
      have HB := Lib.hid (show (stkB st && stB ks) = true by rw [HS.out, hk]; rfl)
      clear hk
      go_wp2_with fail
      refine (sTakenBy_yes _ _ _ ks H2.out HK.out).mono ?_
      rintro e w1 ⟨rfl, g1⟩
      have G1 := Lib.hid g1
      clear g1
      by_cases hsum : sumF takenK ks = (st.length : Int)
      rotate_left
      · have t1 : (sumF takenK ks == (st.length : Int)) = false := by simpa using hsum
        have t2 : (sumF takenK ks != (st.length : Int)) = true := by simpa using hsum
        have HV := Lib.hid (saC_10 HB.out hsum)
        clear hsum
        go_wp2
        go_ret2
        rw [HV.out.1, HV.out.2]
        exact ⟨_, rfl, Ints.nil _ _ 0 none (by omega), G1.out⟩
      have HSUM := Lib.hid hsum
      have t1 : (sumF takenK ks != (st.length : Int)) = false := by simpa using hsum
      have HTA := Lib.hid (thick_all HS.out HK.out hsum)
      clear hsum
      go_wp2_with fail
      refine (l14After_any _ _ _ _ _ st ks (H.out.up G1.out) (H2.out.up G1.out) HS.out HK.out HSUM.out).mono ?_
      rintro e w2 ⟨v2, rfl, k2, g2⟩
      obtain ⟨A3, c3, rfl, hl3, hc3, -⟩ := k2.shape
      have K2 := Lib.hid k2
      have G2 := Lib.hid (Chg.trans G1.out g2)
      have hz1 := Lib.hid G1.out.size
      clear k2 g2
      go_wp2_with fail
      refine (l14Stacks_any _ _ _ _ K2.out).mono ?_
      rintro e w' ⟨rfl, rfl⟩
      cases ha : stkB (aftTo st ks ks.length) with
      | false =>
        have HV := Lib.hid (saC_5 HB.out HSUM.out (by rw [HTA.out, ha]; rfl))
        clear ha
        go_wp2
        go_ret2
        rw [HV.out.1, HV.out.2]
        exact ⟨_, rfl, Ints.nil _ _ 0 none (by omega), G2.out⟩
      | true =>
        have HA := Lib.hid ha
        clear ha
        go_wp2_with fail
        refine (l14Thick_any _ _ _ _ _ st ks (H.out.up G2.out) (H2.out.up G2.out) HS.out HK.out HSUM.out).mono ?_
        rintro e w3 ⟨rfl, g3⟩
        have G3 := Lib.hid (Chg.trans G2.out g3)
        have K3 := Lib.hid (K2.out.up g3)
        have hz3 := Lib.hid g3.size
        clear g3
        cases ht : thickTo st ks ks.length with
        | true =>
          have HV := Lib.hid (saC_5 HB.out HSUM.out (by rw [HTA.out, HA.out, ht]; rfl))
          clear ht
          go_wp2
          go_ret2
          rw [HV.out.1, HV.out.2]
          exact ⟨_, rfl, Ints.nil _ _ 0 none (by omega), G3.out⟩
        | false =>
          have HV := Lib.hid (saC_0 HB.out HSUM.out (by rw [HTA.out, HA.out, ht]; rfl))
          clear ht
          go_wp2
          go_ret2
          rw [HV.out.1, HV.out.2]
          exact ⟨_, rfl, K3.out.mono (fun b _ hb => ⟨by have := hb.1; have := hz1.out; omega, by have := hb.2; have := hz3.out; omega⟩), G3.out⟩
end Go.Proofs.Ytnjfhpgmogopnaa
