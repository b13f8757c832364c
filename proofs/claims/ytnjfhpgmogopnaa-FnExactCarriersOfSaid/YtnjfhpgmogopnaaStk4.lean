/- StacksAfter, the reference's. No condition. -/
import Derived.Test.YtnjfhpgmogopnaaStk3
set_option linter.unusedSimpArgs false
set_option linter.unusedVariables false
set_option maxRecDepth 100000
set_option maxHeartbeats 1000000
namespace Go.Proofs.Ytnjfhpgmogopnaa
open Go.ChangeShapes Go.WideShapes Go.ChangeAt Go.RowKit
theorem aftTo_bd {st ks : List Int} (hs : stkB st = true) (hsum : sumF takenK ks = st.length) (hk : stB ks = true) : ∀ j, j ≤ ks.length → ∀ x ∈ aftTo st ks j, 1 ≤ x ∧ x ≤ 5 := by
  intro j
  induction j with
  | zero => intro _ x hx; simp [aftTo] at hx
  | succ j ih =>
    intro hj x hx
    rw [aftTo_succ] at hx
    rcases List.mem_append.1 hx with hx | hx
    · exact ih (by omega) x hx
    · have hp := posS_succ (ks := ks) (j := j) (by omega)
      have hl := posS_le ks (j + 1)
      have hkj := stB_kind hk _ (List.getElem_mem (show j < ks.length by omega))
      unfold stepAt stepS at hx
      rw [ix_eq (show j < ks.length by omega)] at hx
      have ha : takenK ks[j] ≥ 1 → 1 ≤ ix st (posS ks j) ∧ ix st (posS ks j) ≤ 4 := fun h1 => by
        have : posS ks j < st.length := by omega
        rw [ix_eq this]
        exact stkB_bd hs _ (List.getElem_mem this)
      split at hx
      · rename_i h6
        have := ha (by rw [h6]; decide)
        simp at hx; omega
      · split at hx
        · rename_i h7
          have := ha (by rw [h7]; decide)
          simp at hx; omega
        · have := List.eq_of_mem_replicate hx; omega
theorem mkNat (k : Int) : ∃ n : Nat, madeK k = n ∧ 1 ≤ n ∧ n ≤ 4 := ⟨(madeK k).toNat, by have := madeK_bd k; omega, by have := madeK_bd k; omega, by have := madeK_bd k; omega⟩
theorem l14After_any (w : World) (S S2 : Nat → Prop) (v u : Value) (st ks : List Int) (h : Ints w S v st) (h2 : Ints w S2 u ks) (hs : stkB st = true) (hk : stB ks = true) (hsum : sumF takenK ks = st.length) :
    Calls Try.prog 275 #[v, u] w fun e w' => ∃ v', e = .returned v' ∧ Ints w' (New w.heap.size w'.heap.size) v' (aftTo st ks ks.length) ∧ Up w w' := by
  obtain ⟨A, c, rfl, hlc, hcm, -⟩ := h.shape
  obtain ⟨A2, c2, rfl, hlc2, hcm2, -⟩ := h2.shape
  have H := Lib.hid (h.mono (T := fun b => b < w.heap.size) fun _ h _ => h)
  have H2 := Lib.hid (h2.mono (T := fun b => b < w.heap.size) fun _ h _ => h)
  have HK := Lib.hid hk
  have HSB := Lib.hid (stkB_bd hs)
  have hks := stB_len hk
  have hst := stkB_len hs
  have HSUM := Lib.hid hsum
  clear h h2 hs hk hsum
  go_enter Try.func275, Try.ntmps275
  go_wp2
  go_loopw [5, 6, 7] (fun q a i wr => ∃ (j : Nat), j ≤ ks.length ∧ i = .int .i64 j ∧ a = .int .i64 (posS ks j) ∧ Hid (OwnI wr w.heap.size q (aftTo st ks j)) ∧ Hid (Up w wr)) (fun _ _ i _ => ks.length - (intOf i).toNat)
  case atStart => exact ⟨0, by omega, rfl, rfl, OwnI.made _ _ (Nat.le_refl _), (Chg.refl _ _).alloc _⟩
  case round =>
    obtain ⟨j, hj, rfl, rfl, hq, hu⟩ := hrel
    by_cases hlt : j < ks.length
    rotate_left
    · obtain rfl : j = ks.length := by omega
      go_wp2
      go_ret
      exact ⟨_, rfl, hq.out.ints, hu.out⟩
    obtain ⟨b, o, rfl, -, hc⟩ := (H2.out.up hu.out).ix hlt
    have f1 := hc j hlt
    rw [ix_eq hlt] at f1
    have HKJ := Lib.hid (stB_kind HK.out _ (List.getElem_mem hlt))
    have HPS := Lib.hid (posS_succ hlt)
    have HPL := Lib.hid (posS_le ks (j + 1))
    have HZ := Lib.hid hu.out.size
    have HAL := Lib.hid (aftTo_len st ks j)
    have HQI := hq.out
    obtain ⟨kd, HKD⟩ : ∃ kd, Hid (ks[j] = kd) := ⟨_, Lib.hid rfl⟩
    rw [HKD.out] at f1 HKJ HPS
    obtain ⟨tk, HTK⟩ : ∃ tk : Nat, Hid (takenK kd = tk) := ⟨(takenK kd).toNat, Lib.hid (by have := takenK_bd kd; omega)⟩
    have hpl : posS ks j + tk ≤ st.length := by have a := HPS.out; have b := HPL.out; have c := HSUM.out; have d := HTK.out; rw [d] at a; simp at a; omega
    have e9 : Hid (posS ks (j + 1) = posS ks j + tk) := Lib.hid (by rw [HPS.out, HTK.out]; simp)
    have y9 : IntKind.i64.wrap ((posS ks j : Int) + tk) = ((posS ks j + tk : Nat) : Int) := (IntWalk.i64_in _ (by omega)).trans (by omega)
    have HSA : Hid (stepAt st ks j = stepS kd (ix st (posS ks j)) (ix st (posS ks j + 1))) := Lib.hid (by unfold stepAt; rw [ix_eq hlt, HKD.out])
    clear hc HQI
    by_cases h6 : kd = 6
    · subst h6
      have ht1 : tk = 1 := by have h1 : takenK 6 = 1 := rfl; have h2 := HTK.out; omega
      obtain ⟨b2, o2, rfl, -, hc2⟩ := (H.out.up hu.out).ix (show posS ks j < st.length by omega)
      have f2 := hc2 (posS ks j) (by omega)
      have hx0 : 1 ≤ ix st (posS ks j) ∧ ix st (posS ks j) ≤ 4 := by rw [ix_eq (by omega)]; exact HSB.out _ (List.getElem_mem _)
      obtain ⟨a, HA⟩ : ∃ a, Hid (ix st (posS ks j) = a) := ⟨_, Lib.hid rfl⟩
      rw [HA.out] at f2 hx0
      have y1 : IntKind.i64.wrap (a + 1) = a + 1 := IntWalk.i64_in _ (by omega)
      have HI : Hid (I64 (a + 1)) := Lib.hid (by unfold I64; omega)
      have HL : Hid ((aftTo st ks j).length ≤ 1099511627776) := Lib.hid (by have := HAL.out; omega)
      have HE : Hid (stepS 6 (ix st (posS ks j)) (ix st (posS ks j + 1)) = [a + 1]) := Lib.hid (by rw [HA.out]; rfl)
      have h6 := fun b : Nat => b
      clear h6 hc2
      go_wp2_with (at_builtin; refine wp_append_int rfl _ _ rfl w.heap.size _ (aftTo st ks j) rfl (hq.out.alloc _) _ (a + 1) rfl (cell_new _ _ _ _) HI.out HL.out (by have h1 := HZ.out; (simp; omega)) ?_; intro v3 w3 ho3 _ hg3; have HO3 := Lib.hid ho3; have HG3 := Lib.hid hg3; clear ho3 hg3; have hu3 := Lib.hid (Chg.new (Chg.alloc hu.out (.cells #[.int .i64 (a + 1)] 2)) HG3.out (fun i hi h => Nat.not_le.2 hi h)); obtain ⟨b5, o5, he5, -, hc5⟩ := (H2.out.up hu3.out).ix hlt; obtain ⟨rfl, rfl⟩ : b = b5 ∧ o = o5 := (by simpa using he5); have f5 := hc5 j hlt; rw [ix_eq hlt, HKD.out] at f5; clear hc5 he5)
      refine (sColumnsTaken_any _ _).mono ?_
      rintro e w4 ⟨rfl, g4⟩
      rw [takenOf_ok HKJ.out, HTK.out]
      have G4 := Lib.hid g4
      clear g4
      go_wp2
      go_roundw
      case rel => exact ⟨j + 1, by omega, by go_num, by rw [e9.out]; first | rfl | go_num, by rw [aftTo_succ, HSA.out]; exact (by rw [HE.out]; exact HO3.out.up G4.out), Chg.trans hu3.out G4.out⟩
      case measure => first | (simp [intOf]; done) | (simp [intOf]; omega)
    by_cases h7 : kd = 7
    · subst h7
      have ht1 : tk = 1 := by have h1 : takenK 7 = 1 := rfl; have h2 := HTK.out; omega
      obtain ⟨b2, o2, rfl, -, hc2⟩ := (H.out.up hu.out).ix (show posS ks j < st.length by omega)
      have f2 := hc2 (posS ks j) (by omega)
      have hx0 : 1 ≤ ix st (posS ks j) ∧ ix st (posS ks j) ≤ 4 := by rw [ix_eq (by omega)]; exact HSB.out _ (List.getElem_mem _)
      obtain ⟨a, HA⟩ : ∃ a, Hid (ix st (posS ks j) = a) := ⟨_, Lib.hid rfl⟩
      rw [HA.out] at f2 hx0
      have y1 : IntKind.i64.wrap (a + 1) = a + 1 := IntWalk.i64_in _ (by omega)
      have HI : Hid (I64 (a)) := Lib.hid (by unfold I64; omega)
      have HL : Hid ((aftTo st ks j).length ≤ 1099511627776) := Lib.hid (by have := HAL.out; omega)
      have HE : Hid (stepS 7 (ix st (posS ks j)) (ix st (posS ks j + 1)) = [a]) := Lib.hid (by rw [HA.out]; rfl)
      have h6 := fun b : Nat => b
      clear h6 hc2
      go_wp2_with (at_builtin; refine wp_append_int rfl _ _ rfl w.heap.size _ (aftTo st ks j) rfl (hq.out.alloc _) _ (a) rfl (cell_new _ _ _ _) HI.out HL.out (by have h1 := HZ.out; (simp; omega)) ?_; intro v3 w3 ho3 _ hg3; have HO3 := Lib.hid ho3; have HG3 := Lib.hid hg3; clear ho3 hg3; have hu3 := Lib.hid (Chg.new (Chg.alloc hu.out (.cells #[.int .i64 (a)] 2)) HG3.out (fun i hi h => Nat.not_le.2 hi h)); obtain ⟨b5, o5, he5, -, hc5⟩ := (H2.out.up hu3.out).ix hlt; obtain ⟨rfl, rfl⟩ : b = b5 ∧ o = o5 := (by simpa using he5); have f5 := hc5 j hlt; rw [ix_eq hlt, HKD.out] at f5; clear hc5 he5)
      refine (sColumnsTaken_any _ _).mono ?_
      rintro e w4 ⟨rfl, g4⟩
      rw [takenOf_ok HKJ.out, HTK.out]
      have G4 := Lib.hid g4
      clear g4
      go_wp2
      go_roundw
      case rel => exact ⟨j + 1, by omega, by go_num, by rw [e9.out]; first | rfl | go_num, by rw [aftTo_succ, HSA.out]; exact (by rw [HE.out]; exact HO3.out.up G4.out), Chg.trans hu3.out G4.out⟩
      case measure => first | (simp [intOf]; done) | (simp [intOf]; omega)
    obtain ⟨mk, hmk, hmk1, hmk4⟩ := mkNat kd
    have HMK := Lib.hid hmk
    have HE : Hid (stepS kd (ix st (posS ks j)) (ix st (posS ks j + 1)) = List.replicate mk 1) := Lib.hid (by unfold stepS; rw [if_neg h6, if_neg h7, hmk]; rfl)
    have t6 : (kd == 6) = false := by simpa using h6
    have t7 : (kd == 7) = false := by simpa using h7
    clear hmk h6 h7
    go_wp2_with fail
    refine (sColumnsMade_any _ _).mono ?_
    rintro e w2 ⟨rfl, g2⟩
    rw [madeOf_ok HKJ.out, HMK.out]
    have U2 := Lib.hid (Chg.trans hu.out g2)
    have Q2 := Lib.hid (hq.out.up g2)
    clear g2
    go_wp2
    go_loopw [5, 8] (fun q k wq => ∃ (m : Nat), m ≤ mk ∧ k = .int .i64 m ∧ Hid (OwnI wq w.heap.size q (aftTo st ks j ++ List.replicate (mk - m) 1)) ∧ Hid (Up w wq)) (fun _ k _ => (intOf k).toNat)
    case atStart => exact ⟨mk, Nat.le_refl _, rfl, by simpa [Hid] using Q2.out, U2.out⟩
    case round =>
      obtain ⟨m, hm, rfl, hq3, hu3⟩ := hrel
      by_cases h0 : 0 < m
      · have y1 : IntKind.i64.wrap ((m : Int) - 1) = ((m - 1 : Nat) : Int) := (IntWalk.i64_in _ (by omega)).trans (by omega)
        have h0' : (0 : Int) < m := by omega
        have HL : Hid ((aftTo st ks j ++ List.replicate (mk - m) 1).length ≤ 1099511627776) := Lib.hid (by have := HAL.out; simp; omega)
        have HZ3 := Lib.hid hu3.out.size
        go_wp2_with (at_builtin; refine wp_append_int rfl _ _ rfl w.heap.size _ (aftTo st ks j ++ List.replicate (mk - m) 1) rfl (hq3.out.alloc _) _ 1 rfl (cell_new _ _ _ _) (by unfold I64; omega) HL.out (by have h1 := HZ3.out; (simp; omega)) ?_; intro v3 w3 ho3 _ hg3; have HO3 := Lib.hid ho3; have HG3 := Lib.hid hg3; clear ho3 hg3)
        go_roundw
        case rel => exact ⟨m - 1, by omega, by first | rfl | go_num, by have h := HO3.out; rw [List.append_assoc, show (List.replicate (mk - m) (1 : Int)) ++ [1] = List.replicate (mk - (m - 1)) 1 by rw [← List.replicate_succ', show mk - (m - 1) = mk - m + 1 by omega]] at h; exact h, Chg.new (Chg.alloc hu3.out _) HG3.out (fun i hi h => Nat.not_le.2 hi h)⟩
        case measure => first | (simp [intOf]; done) | (simp [intOf]; omega)
      · obtain rfl : m = 0 := by omega
        obtain ⟨b5, o5, he5, -, hc5⟩ := (H2.out.up hu3.out).ix hlt
        obtain ⟨rfl, rfl⟩ : b = b5 ∧ o = o5 := by simpa using he5
        have f5 := hc5 j hlt
        rw [ix_eq hlt, HKD.out] at f5
        clear hc5 he5
        go_wp2_with fail
        refine (sColumnsTaken_any _ _).mono ?_
        rintro e w4 ⟨rfl, g4⟩
        rw [takenOf_ok HKJ.out, HTK.out]
        have G4 := Lib.hid g4
        clear g4
        go_wp2
        go_roundw
        case rel => exact ⟨j + 1, by omega, by go_num, by rw [e9.out]; first | rfl | go_num, by rw [aftTo_succ, HSA.out]; exact (by rw [HE.out]; exact hq3.out.up G4.out), Chg.trans hu3.out G4.out⟩
        case measure => first | (simp [intOf]; done) | (simp [intOf]; omega)
end Go.Proofs.Ytnjfhpgmogopnaa
