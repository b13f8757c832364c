/- l15Thin, the reference's. No condition. Charts as data and in memory: a slice of rows, each of three cells. No condition. Regions that draw their order, whose operations only read and whose callees at most make new memory: one walk serves every order. No condition. allStacks: the stacks behind each row of a chart. No condition. l15Stacks: the stacks behind each row of a chart. No condition. ValidChart, layoutWidth, LayoutWidth, on both sides. No condition. The laws' helpers on charts: sizes. No condition. The laws' helpers on charts: copies. No condition. The laws' helpers on charts. No condition. The laws' helpers on charts: equality. No condition. -/
import Derived.Test.YtnjfhpgmogopnaaGreatPG6
import Derived.Test.YtnjfhpgmogopnaaGreatPG2
import Derived.Test.YtnjfhpgmogopnaaGreatPG4
import Derived.Test.YtnjfhpgmogopnaaGreatPG3
import Derived.Test.YtnjfhpgmogopnaaGreatPG1
import Derived.Test.YtnjfhpgmogopnaaGreatPG5
section
set_option linter.unusedSimpArgs false
set_option linter.unusedVariables false
set_option maxRecDepth 100000
set_option maxHeartbeats 1000000
namespace Go.Proofs.YtnjfhpgmogopnaaGreat
open Go.ChangeShapes Go.WideShapes Go.ChangeAt Go.RowKit
theorem sumS_take (xs : List Int) {k : Nat} (h : k < xs.length) : sumS (xs.take (k + 1)) = sumS (xs.take k) + ix xs k := by
  rw [List.take_succ_eq_append_getElem h, sumS_append, ix_eq h]; simp [sumS, sumF]
theorem aftTo_pre (st ks : List Int) (m : Nat) : ∀ n, m ≤ n → ∃ Z, aftTo st ks n = aftTo st ks m ++ Z := by
  intro n
  induction n with
  | zero =>
    intro h
    obtain rfl : m = 0 := by omega
    exact ⟨[], by simp⟩
  | succ n ih =>
    intro h
    by_cases e : m = n + 1
    · subst e; exact ⟨[], by simp⟩
    · obtain ⟨Z, hZ⟩ := ih (by omega)
      exact ⟨Z ++ stepAt st ks n, by rw [aftTo_succ, hZ, List.append_assoc]⟩
theorem aft_at {st ks : List Int} {i k : Nat} (hi : i < ks.length) (hk : k < (stepAt st ks i).length) : ix (aftTo st ks ks.length) (posM ks i + k) = ix (stepAt st ks i) k := by
  obtain ⟨Z, hZ⟩ := aftTo_pre st ks (i + 1) ks.length (by omega)
  rw [hZ, aftTo_succ]
  have hl := aftTo_length (st := st) (ks := ks) (j := i) (by omega)
  unfold ix
  rw [List.getD_eq_getElem?_getD, List.getD_eq_getElem?_getD, List.append_assoc, List.getElem?_append_right (by omega), hl, Nat.add_sub_cancel_left, List.getElem?_append_left hk]
theorem sumS_part {xs : List Int} (k : Nat) (h : ∀ x ∈ xs, 0 ≤ x ∧ x ≤ 5) : 0 ≤ sumS (xs.take k) ∧ sumS (xs.take k) ≤ 5 * xs.length := by
  have := sumS_le5 (xs := xs.take k) fun x hx => h x (List.mem_of_mem_take hx)
  rw [List.length_take] at this
  omega
theorem posM_le (ks : List Int) {i n : Nat} (h : i ≤ n) (hn : n ≤ ks.length) : posM ks i ≤ posM ks n := by
  induction n with
  | zero =>
    obtain rfl : i = 0 := by omega
    exact Nat.le_refl _
  | succ n ih =>
    by_cases e : i = n + 1
    · subst e; exact Nat.le_refl _
    · have := ih (by omega) (by omega)
      rw [posM_succ (by omega)]
      omega
theorem l15ThinR_any (w : World) (S S2 S3 : Nat → Prop) (v u : Value) (st : List Int) (b o : Nat) (cc : Int) (ks : List Int) (h : Ints w S v st) (ha : Ints w S3 u (aftTo st ks ks.length)) (hr : RowAt w S2 b o ⟨1, cc, ks⟩) (hf : Fits st ks) (h8 : (aftTo st ks ks.length).length ≤ 8) :
    Calls Tryz.prog 92 #[v, u, .pointer (some ⟨b, o, none⟩)] w fun e w' => e = .returned (.bool (thinB 1 st ks)) ∧ Up w w' := by
  obtain ⟨A, c, rfl, hlc, hcm, -⟩ := h.shape
  obtain ⟨A2, c2, rfl, hlc2, hcm2, -⟩ := ha.shape
  have H := Lib.hid h
  have H2 := Lib.hid ha
  have HR := Lib.hid hr
  have HF := Lib.hid hf
  have hks := stB_len hf.k
  have hst := stkB_len hf.s
  obtain ⟨A3, c3, r0, r1, r2, hri, hrc, hrm, -, hrb⟩ := hr
  dsimp only at r0 r1 r2 hri hrc
  have HRI := Lib.hid hri
  have HR0 := Lib.hid r0
  have HR2 := Lib.hid r2
  have HAL := Lib.hid (aftTo_length (st := st) (ks := ks) (Nat.le_refl _))
  have HPN : Hid (posS ks ks.length = st.length) := Lib.hid (by have h1 := posS_int ks ks.length; rw [List.take_length, hf.sum] at h1; omega)
  clear h ha hf hri r1
  go_enter Tryz.func92, Tryz.ntmps92
  go_wp2
  go_loop [7, 8] (fun s i => ∃ t : Nat, t ≤ st.length ∧ i = .int .i64 t ∧ s = .int .i64 (sumS (st.take t))) (fun _ i => st.length - (intOf i).toNat)
  case atStart => exact ⟨0, by omega, rfl, rfl⟩
  case round =>
    obtain ⟨t, ht, rfl, rfl⟩ := hrel
    by_cases hlt : t < st.length
    · obtain ⟨b4, o4, rfl, -, hc4⟩ := H.out.ix hlt
      have f1 := hc4 t hlt
      have HS := Lib.hid (sumS_take st hlt)
      have hb1 := sumS_part (xs := st) t (fun x hx => by have := stkB_bd HF.out.s x hx; omega)
      have hb2 : 1 ≤ ix st t ∧ ix st t ≤ 4 := by rw [ix_eq hlt]; exact stkB_bd HF.out.s _ (List.getElem_mem hlt)
      have y1 : IntKind.i64.wrap (sumS (st.take t) + ix st t) = sumS (st.take t) + ix st t := IntWalk.i64_in _ (by omega)
      clear hc4
      go_wp2
      go_round
      case rel => exact ⟨t + 1, by omega, by go_num, by rw [HS.out]⟩
      case measure => first | (simp [intOf]; done) | (simp [intOf]; omega)
    · obtain rfl : t = st.length := by omega
      rw [List.take_length]
      go_wp2
      go_loopw [7, 10, 11, 12] (fun s f g i wr => ∃ t : Nat, t ≤ ks.length ∧ i = .int .i64 t ∧ f = .int .i64 (posS ks t) ∧ g = .int .i64 (posM ks t) ∧ s = .int .i64 (parS 1 st ks t) ∧ Hid (thinTo 1 st ks t = true) ∧ Hid (Up w wr)) (fun _ _ _ i _ => ks.length - (intOf i).toNat)
      case atStart => exact ⟨0, by omega, rfl, by first | rfl | (rw [Nat.sub_zero, HPN.out]), by first | rfl | (rw [Nat.sub_zero, ← HAL.out]), rfl, rfl, Chg.refl _ _⟩
      case round =>
        obtain ⟨t, ht, rfl, rfl, rfl, rfl, hth, hu⟩ := hrel
        have q0 := Chg.cell hu.out HR0.out id
        have q2 := Chg.cell hu.out HR2.out id
        by_cases hlt : t < ks.length
        rotate_left
        · obtain rfl : t = ks.length := by omega
          go_wp2
          go_ret
          exact ⟨ret_bool (by first | exact hth.out.symm | (unfold thinB; exact hth.out.symm)), hu.out⟩
        have HTT : Hid True := Lib.hid trivial
        obtain ⟨ki, HKI⟩ : ∃ ki : Nat, Hid (ordT 1 ks.length t = ki) := ⟨_, Lib.hid rfl⟩
        have hki : t = ki := by have h := HKI.out; unfold ordT at h; simp at h; omega
        have hkl : ki < ks.length := by omega
        obtain ⟨b3, o3, rfl, -, hc3⟩ := (HRI.out.up hu.out).ix hkl
        have f3 := hc3 ki hkl
        rw [ix_eq hkl] at f3
        have HKJ := Lib.hid (stB_kind HF.out.k _ (List.getElem_mem hkl))
        have HPS := Lib.hid (posS_succ hkl)
        have HPM := Lib.hid (posM_succ hkl)
        have HPT := Lib.hid (HF.out.pos hkl)
        have HLS : Hid ((stepAt st ks ki).length = (madeK ks[ki]).toNat) := Lib.hid (by unfold stepAt; rw [stepS_len, ix_eq hkl])
        have HLT : Hid ((tookAt st ks ki).length = (takenK ks[ki]).toNat) := Lib.hid (by unfold tookAt; rw [List.length_take, List.length_drop, ix_eq hkl]; have := HPT.out; omega)
        have HPL := Lib.hid (posM_le ks (show ki + 1 ≤ ks.length by omega) (Nat.le_refl _))
        obtain ⟨kd, HKD⟩ : ∃ kd, Hid (ks[ki] = kd) := ⟨_, Lib.hid rfl⟩
        rw [HKD.out] at f3 HKJ HPS HPM HPT HLS HLT
        obtain ⟨tk, HTK⟩ : ∃ tk : Nat, Hid (takenK kd = tk) := ⟨(takenK kd).toNat, Lib.hid (by have := takenK_bd kd; omega)⟩
        obtain ⟨mk, HMK⟩ : ∃ mk : Nat, Hid (madeK kd = mk) := ⟨(madeK kd).toNat, Lib.hid (by have := madeK_bd kd; omega)⟩
        have htk4 : tk ≤ 4 := by have h1 := HTK.out; have := takenK_bd kd; omega
        have hmk4 : mk ≤ 4 := by have h1 := HMK.out; have := madeK_bd kd; omega
        rw [HTK.out, Int.toNat_natCast] at HPS HPT HLT
        rw [HMK.out, Int.toNat_natCast] at HPM HLS
        have HTKO : Hid (takenOf kd = tk) := Lib.hid ((takenOf_ok HKJ.out).trans HTK.out)
        have HMKO : Hid (madeOf kd = mk) := Lib.hid ((madeOf_ok HKJ.out).trans HMK.out)
        have hp1 := HF.out.par 1 t (by omega)
        have hp2 := HF.out.par 1 (t + 1) (by omega)
        have HPAR : Hid (parS 1 st ks (t + 1) = parS 1 st ks t - sumS (tookAt st ks ki) + sumS (stepAt st ks ki)) := Lib.hid (by simp only [parS]; rw [HKI.out]; unfold chgAt; omega)
        have hs1 := fun k => sumS_part (xs := tookAt st ks ki) k (fun x hx => by have := (HF.out.took ki).2 x hx; have := stkB_bd HF.out.s x (List.mem_of_mem_drop (List.mem_of_mem_take hx)); omega)
        have HS1 := Lib.hid hs1
        have hs2 := fun k => sumS_part (xs := stepAt st ks ki) k (fun x hx => by have := (HF.out.step hkl).2 x hx; omega)
        have HS2 := Lib.hid hs2
        clear hs1 hs2 hc3
        subst hki
        go_wp2_with fail
        go_loopw [7, 14] (fun s k wq => ∃ m : Nat, m ≤ tk ∧ k = .int .i64 m ∧ s = .int .i64 (parS 1 st ks t - sumS ((tookAt st ks t).take m)) ∧ Hid (Up w wq)) (fun _ k _ => tk - (intOf k).toNat)
        case atStart => exact ⟨0, by omega, rfl, by simp [sumS, sumF], hu.out⟩
        case round =>
          obtain ⟨m, hm, rfl, rfl, hu2⟩ := hrel
          go_wp2_with fail
          refine (sColumnsTaken_any _ _).mono ?_
          rintro e w4 ⟨rfl, g4⟩
          rw [HTKO.out]
          have HU4 := Lib.hid (Chg.trans hu2.out g4)
          clear g4
          by_cases hlt2 : m < tk
          · have hi9 : posS ks t + m < st.length := by have := HPT.out; omega
            obtain ⟨b7, o7, rfl, -, hc7⟩ := (H.out.up HU4.out).ix hi9
            have f7 := hc7 (posS ks t + m) hi9
            have HX : Hid (sumS ((tookAt st ks t).take (m + 1)) = sumS ((tookAt st ks t).take m) + ix st (posS ks t + m)) := Lib.hid (by
              rw [sumS_take _ (by rw [HLT.out]; exact hlt2)]
              congr 1
              unfold tookAt
              exact ix_drop_take (by rw [ix_eq hkl, HKD.out, HTK.out]; simpa using hlt2) hi9)
            have hb1 := HS1.out m
            have hb3 := HS1.out (m + 1)
            have hb4 : (tookAt st ks t).length = tk := HLT.out
            have hb2 : 1 ≤ ix st (posS ks t + m) ∧ ix st (posS ks t + m) ≤ 4 := by rw [ix_eq hi9]; exact stkB_bd HF.out.s _ (List.getElem_mem hi9)
            have y1 : IntKind.i64.wrap ((posS ks t : Int) + m) = ((posS ks t + m : Nat) : Int) := (IntWalk.i64_in _ (by omega)).trans (by omega)
            have y2 : IntKind.i64.wrap (parS 1 st ks t - sumS ((tookAt st ks t).take m) - ix st (posS ks t + m)) = parS 1 st ks t - sumS ((tookAt st ks t).take (m + 1)) := by rw [HX.out]; exact (IntWalk.i64_in _ (by omega)).trans (by omega)
            have hi8 : (posS ks t : Int) + m < st.length := by omega
            have hi7 : ((posS ks t : Int) + m).toNat = posS ks t + m := by omega
            have hi6 : 0 ≤ (posS ks t : Int) + m := by omega
            have y1' : IntKind.i64.wrap ((posS ks t : Int) + m) = (posS ks t : Int) + m := IntWalk.i64_in _ (by omega)
            have y3 : IntKind.i64.wrap ((m : Int) + 1) = ((m + 1 : Nat) : Int) := (IntWalk.i64_in _ (by omega)).trans (by omega)
            have hm9 : (m : Int) < tk := by omega
            clear hc7 hb1 hb3 hb4 hb2
            go_wp2
            go_roundw
            case rel => exact ⟨m + 1, by omega, by first | rfl | go_num, by first | rfl | rw [y2], HU4.out⟩
            case measure => first | (simp [intOf]; done) | (simp [intOf]; omega)
          · obtain rfl : m = tk := by omega
            have e7 : (tookAt st ks t).take m = tookAt st ks t := List.take_of_length_le (by rw [HLT.out]; exact Nat.le_refl _)
            rw [e7]
            go_wp2
            go_loopw [7, 15] (fun s k wq => ∃ n : Nat, n ≤ mk ∧ k = .int .i64 n ∧ s = .int .i64 (parS 1 st ks t - sumS (tookAt st ks t) + sumS ((stepAt st ks t).take n)) ∧ Hid (Up w wq)) (fun _ k _ => mk - (intOf k).toNat)
            case atStart => exact ⟨0, by omega, rfl, by simp [sumS, sumF], HU4.out⟩
            case round =>
              obtain ⟨n, hn, rfl, rfl, hu3⟩ := hrel
              go_wp2_with fail
              refine (sColumnsMade_any _ _).mono ?_
              rintro e w5 ⟨rfl, g5⟩
              rw [HMKO.out]
              have HU5 := Lib.hid (Chg.trans hu3.out g5)
              clear g5
              by_cases hlt3 : n < mk
              · have hi9 : posM ks t + n < (aftTo st ks ks.length).length := by have := HPL.out; have := HAL.out; have := HPM.out; omega
                obtain ⟨b7, o7, rfl, -, hc7⟩ := (H2.out.up HU5.out).ix hi9
                have f7 := hc7 (posM ks t + n) hi9
                rw [aft_at hkl (by rw [HLS.out]; exact hlt3)] at f7
                have HX : Hid (sumS ((stepAt st ks t).take (n + 1)) = sumS ((stepAt st ks t).take n) + ix (stepAt st ks t) n) := Lib.hid (sumS_take _ (by rw [HLS.out]; exact hlt3))
                have hb1 := HS2.out n
                have hb3 := HS2.out (n + 1)
                have hb4 : (stepAt st ks t).length = mk := HLS.out
                have hb5 := HS1.out m
                have hb6 : (tookAt st ks t).length = m := HLT.out
                rw [List.take_of_length_le (Nat.le_of_eq hb6)] at hb5
                have y1 : IntKind.i64.wrap ((posM ks t : Int) + n) = ((posM ks t + n : Nat) : Int) := (IntWalk.i64_in _ (by omega)).trans (by omega)
                have y1' : IntKind.i64.wrap ((posM ks t : Int) + n) = (posM ks t : Int) + n := IntWalk.i64_in _ (by omega)
                have y2 : IntKind.i64.wrap (parS 1 st ks t - sumS (tookAt st ks t) + sumS ((stepAt st ks t).take n) + ix (stepAt st ks t) n) = parS 1 st ks t - sumS (tookAt st ks t) + sumS ((stepAt st ks t).take (n + 1)) := by rw [HX.out] at *; exact (IntWalk.i64_in _ (by omega)).trans (by omega)
                have hi8 : (posM ks t : Int) + n < (aftTo st ks ks.length).length := by omega
                have hi7 : ((posM ks t : Int) + n).toNat = posM ks t + n := by omega
                have hi6 : 0 ≤ (posM ks t : Int) + n := by omega
                have y3 : IntKind.i64.wrap ((n : Int) + 1) = ((n + 1 : Nat) : Int) := (IntWalk.i64_in _ (by omega)).trans (by omega)
                have hm9 : (n : Int) < mk := by omega
                clear hc7 hb1 hb3 hb4 hb5 hb6
                go_wp2
                go_roundw
                case rel => exact ⟨n + 1, by omega, by first | rfl | go_num, by first | rfl | rw [y2], HU5.out⟩
                case measure => first | (simp [intOf]; done) | (simp [intOf]; omega)
              · obtain rfl : n = mk := by omega
                have e6 : (stepAt st ks t).take n = stepAt st ks t := List.take_of_length_le (by rw [HLS.out]; exact Nat.le_refl _)
                rw [e6, ← HPAR.out]
                have p0 := Chg.cell HU5.out HR0.out id
                have hp9 := HPL.out
                have hal := HAL.out
                have hpm := HPM.out
                have hpt := HPT.out
                have hps := HPS.out
                have y3 : IntKind.i64.wrap ((t : Int) + 1) = ((t + 1 : Nat) : Int) := (IntWalk.i64_in _ (by omega)).trans (by omega)
                by_cases h12 : parS 1 st ks (t + 1) ≤ 12
                · have HT2 : Hid (thinTo 1 st ks (t + 1) = true) := Lib.hid (by rw [thinTo_succ, hth.out, decide_eq_true h12]; rfl)
                  have t12 : decide ((12 : Int) < parS 1 st ks (t + 1)) = false := decide_eq_false (by omega)
                  clear h12
                  have yA : IntKind.i64.wrap ((posS ks t : Int) + m) = ((posS ks (t + 1) : Nat) : Int) := (IntWalk.i64_in _ (by omega)).trans (by omega)
                  have yB : IntKind.i64.wrap ((posM ks t : Int) + n) = ((posM ks (t + 1) : Nat) : Int) := (IntWalk.i64_in _ (by omega)).trans (by omega)
                  clear hp9 hal hpm hpt hps
                  go_wp2_with fail
                  refine (sColumnsTaken_any _ _).mono ?_
                  rintro e w6 ⟨rfl, g6⟩
                  rw [HTKO.out]
                  have HU6 := Lib.hid (Chg.trans HU5.out g6)
                  clear g6
                  go_wp2_with fail
                  refine (sColumnsMade_any _ _).mono ?_
                  rintro e w7 ⟨rfl, g7⟩
                  rw [HMKO.out]
                  have HU7 := Lib.hid (Chg.trans HU6.out g7)
                  clear g7
                  go_wp2
                  go_roundw
                  case rel => exact ⟨t + 1, by omega, by first | rfl | go_num, by first | rfl | rw [yA], by first | rfl | rw [yB], rfl, HT2.out, HU7.out⟩
                  case measure => first | (simp [intOf]; done) | (simp [intOf]; omega)
                · have HV := Lib.hid (thinTo_false hlt h12)
                  have t12 : decide ((12 : Int) < parS 1 st ks (t + 1)) = true := decide_eq_true (by omega)
                  clear h12 hp9 hal hpm hpt hps
                  go_wp2
                  go_ret
                  exact ⟨ret_bool (by first | exact HV.out.symm | (unfold thinB; exact HV.out.symm)), HU5.out⟩
theorem l15ThinL_any (w : World) (S S2 S3 : Nat → Prop) (v u : Value) (st : List Int) (b o : Nat) (cc : Int) (ks : List Int) (h : Ints w S v st) (ha : Ints w S3 u (aftTo st ks ks.length)) (hr : RowAt w S2 b o ⟨-1, cc, ks⟩) (hf : Fits st ks) (h8 : (aftTo st ks ks.length).length ≤ 8) :
    Calls Tryz.prog 92 #[v, u, .pointer (some ⟨b, o, none⟩)] w fun e w' => e = .returned (.bool (thinB (-1) st ks)) ∧ Up w w' := by
  obtain ⟨A, c, rfl, hlc, hcm, -⟩ := h.shape
  obtain ⟨A2, c2, rfl, hlc2, hcm2, -⟩ := ha.shape
  have H := Lib.hid h
  have H2 := Lib.hid ha
  have HR := Lib.hid hr
  have HF := Lib.hid hf
  have hks := stB_len hf.k
  have hst := stkB_len hf.s
  obtain ⟨A3, c3, r0, r1, r2, hri, hrc, hrm, -, hrb⟩ := hr
  dsimp only at r0 r1 r2 hri hrc
  have HRI := Lib.hid hri
  have HR0 := Lib.hid r0
  have HR2 := Lib.hid r2
  have HAL := Lib.hid (aftTo_length (st := st) (ks := ks) (Nat.le_refl _))
  have HPN : Hid (posS ks ks.length = st.length) := Lib.hid (by have h1 := posS_int ks ks.length; rw [List.take_length, hf.sum] at h1; omega)
  clear h ha hf hri r1
  go_enter Tryz.func92, Tryz.ntmps92
  go_wp2
  go_loop [7, 8] (fun s i => ∃ t : Nat, t ≤ st.length ∧ i = .int .i64 t ∧ s = .int .i64 (sumS (st.take t))) (fun _ i => st.length - (intOf i).toNat)
  case atStart => exact ⟨0, by omega, rfl, rfl⟩
  case round =>
    obtain ⟨t, ht, rfl, rfl⟩ := hrel
    by_cases hlt : t < st.length
    · obtain ⟨b4, o4, rfl, -, hc4⟩ := H.out.ix hlt
      have f1 := hc4 t hlt
      have HS := Lib.hid (sumS_take st hlt)
      have hb1 := sumS_part (xs := st) t (fun x hx => by have := stkB_bd HF.out.s x hx; omega)
      have hb2 : 1 ≤ ix st t ∧ ix st t ≤ 4 := by rw [ix_eq hlt]; exact stkB_bd HF.out.s _ (List.getElem_mem hlt)
      have y1 : IntKind.i64.wrap (sumS (st.take t) + ix st t) = sumS (st.take t) + ix st t := IntWalk.i64_in _ (by omega)
      clear hc4
      go_wp2
      go_round
      case rel => exact ⟨t + 1, by omega, by go_num, by rw [HS.out]⟩
      case measure => first | (simp [intOf]; done) | (simp [intOf]; omega)
    · obtain rfl : t = st.length := by omega
      rw [List.take_length]
      go_wp2
      go_loopw [7, 10, 11, 12] (fun s f g i wr => ∃ t : Nat, t ≤ ks.length ∧ i = .int .i64 t ∧ f = .int .i64 (posS ks (ks.length - t)) ∧ g = .int .i64 (posM ks (ks.length - t)) ∧ s = .int .i64 (parS (-1) st ks t) ∧ Hid (thinTo (-1) st ks t = true) ∧ Hid (Up w wr)) (fun _ _ _ i _ => ks.length - (intOf i).toNat)
      case atStart => exact ⟨0, by omega, rfl, by first | rfl | (rw [Nat.sub_zero, HPN.out]), by first | rfl | (rw [Nat.sub_zero, ← HAL.out]), rfl, rfl, Chg.refl _ _⟩
      case round =>
        obtain ⟨t, ht, rfl, rfl, rfl, rfl, hth, hu⟩ := hrel
        have q0 := Chg.cell hu.out HR0.out id
        have q2 := Chg.cell hu.out HR2.out id
        by_cases hlt : t < ks.length
        rotate_left
        · obtain rfl : t = ks.length := by omega
          go_wp2
          go_ret
          exact ⟨ret_bool (by first | exact hth.out.symm | (unfold thinB; exact hth.out.symm)), hu.out⟩
        have HTT : Hid True := Lib.hid trivial
        obtain ⟨ki, HKI⟩ : ∃ ki : Nat, Hid (ordT (-1) ks.length t = ki) := ⟨_, Lib.hid rfl⟩
        have hki : ki = ks.length - 1 - t := by have h := HKI.out; unfold ordT at h; simp at h; omega
        have hkl : ki < ks.length := by omega
        obtain ⟨b3, o3, rfl, -, hc3⟩ := (HRI.out.up hu.out).ix hkl
        have f3 := hc3 ki hkl
        rw [ix_eq hkl] at f3
        obtain ⟨b6, o6, he6, -, hc6⟩ := (HRI.out.up hu.out).ix hlt
        obtain ⟨rfl, rfl⟩ : b3 = b6 ∧ o3 = o6 := by simpa using he6
        have f6 := hc6 t hlt
        clear hc6 he6
        have yk : IntKind.i64.wrap ((ks.length : Int) - 1) = (ks.length : Int) - 1 := IntWalk.i64_in _ (by omega)
        have yk2 : IntKind.i64.wrap ((ks.length : Int) - 1 - t) = (ki : Int) := (IntWalk.i64_in _ (by omega)).trans (by omega)
        have HKJ := Lib.hid (stB_kind HF.out.k _ (List.getElem_mem hkl))
        have HPS := Lib.hid (posS_succ hkl)
        have HPM := Lib.hid (posM_succ hkl)
        have HPT := Lib.hid (HF.out.pos hkl)
        have HLS : Hid ((stepAt st ks ki).length = (madeK ks[ki]).toNat) := Lib.hid (by unfold stepAt; rw [stepS_len, ix_eq hkl])
        have HLT : Hid ((tookAt st ks ki).length = (takenK ks[ki]).toNat) := Lib.hid (by unfold tookAt; rw [List.length_take, List.length_drop, ix_eq hkl]; have := HPT.out; omega)
        have HPL := Lib.hid (posM_le ks (show ki + 1 ≤ ks.length by omega) (Nat.le_refl _))
        obtain ⟨kd, HKD⟩ : ∃ kd, Hid (ks[ki] = kd) := ⟨_, Lib.hid rfl⟩
        rw [HKD.out] at f3 HKJ HPS HPM HPT HLS HLT
        obtain ⟨tk, HTK⟩ : ∃ tk : Nat, Hid (takenK kd = tk) := ⟨(takenK kd).toNat, Lib.hid (by have := takenK_bd kd; omega)⟩
        obtain ⟨mk, HMK⟩ : ∃ mk : Nat, Hid (madeK kd = mk) := ⟨(madeK kd).toNat, Lib.hid (by have := madeK_bd kd; omega)⟩
        have htk4 : tk ≤ 4 := by have h1 := HTK.out; have := takenK_bd kd; omega
        have hmk4 : mk ≤ 4 := by have h1 := HMK.out; have := madeK_bd kd; omega
        rw [HTK.out, Int.toNat_natCast] at HPS HPT HLT
        rw [HMK.out, Int.toNat_natCast] at HPM HLS
        have HTKO : Hid (takenOf kd = tk) := Lib.hid ((takenOf_ok HKJ.out).trans HTK.out)
        have HMKO : Hid (madeOf kd = mk) := Lib.hid ((madeOf_ok HKJ.out).trans HMK.out)
        have hp1 := HF.out.par (-1) t (by omega)
        have hp2 := HF.out.par (-1) (t + 1) (by omega)
        have HPAR : Hid (parS (-1) st ks (t + 1) = parS (-1) st ks t - sumS (tookAt st ks ki) + sumS (stepAt st ks ki)) := Lib.hid (by simp only [parS]; rw [HKI.out]; unfold chgAt; omega)
        have hs1 := fun k => sumS_part (xs := tookAt st ks ki) k (fun x hx => by have := (HF.out.took ki).2 x hx; have := stkB_bd HF.out.s x (List.mem_of_mem_drop (List.mem_of_mem_take hx)); omega)
        have HS1 := Lib.hid hs1
        have hs2 := fun k => sumS_part (xs := stepAt st ks ki) k (fun x hx => by have := (HF.out.step hkl).2 x hx; omega)
        have HS2 := Lib.hid hs2
        clear hs1 hs2 hc3
        have e8 : posS ks (ks.length - t) = posS ks ki + tk := by rw [show ks.length - t = ki + 1 by omega]; exact HPS.out
        have e9 : posM ks (ks.length - t) = posM ks ki + mk := by rw [show ks.length - t = ki + 1 by omega]; exact HPM.out
        rw [e8, e9]
        have HKE := Lib.hid hki
        clear e8 e9 hki
        have yA : IntKind.i64.wrap (((posS ks ki + tk : Nat) : Int) - tk) = (posS ks ki : Int) := (IntWalk.i64_in _ (by have := HPT.out; omega)).trans (by omega)
        have yA2 : IntKind.i64.wrap ((posS ks ki : Int) + tk - tk) = (posS ks ki : Int) := (IntWalk.i64_in _ (by have := HPT.out; omega)).trans (by omega)
        have yA3 : IntKind.i64.wrap (posS ks ki : Int) = (posS ks ki : Int) := IntWalk.i64_in _ (by have := HPT.out; omega)
        have yB3 : IntKind.i64.wrap (posM ks ki : Int) = (posM ks ki : Int) := IntWalk.i64_in _ (by have := HPL.out; have := HAL.out; have := HPM.out; omega)
        have yB2 : IntKind.i64.wrap ((posM ks ki : Int) + mk - mk) = (posM ks ki : Int) := (IntWalk.i64_in _ (by have := HPL.out; have := HAL.out; have := HPM.out; omega)).trans (by omega)
        go_wp2_with fail
        refine (sColumnsTaken_any _ _).mono ?_
        rintro e wa ⟨rfl, ga⟩
        rw [HTKO.out]
        replace hu := Lib.hid (Chg.trans hu.out ga)
        have q0 := Chg.cell ga q0 id
        have q2 := Chg.cell ga q2 id
        clear ga
        go_wp2_with fail
        refine (sColumnsMade_any _ _).mono ?_
        rintro e wb ⟨rfl, gb⟩
        rw [HMKO.out]
        replace hu := Lib.hid (Chg.trans hu.out gb)
        have q0 := Chg.cell gb q0 id
        have q2 := Chg.cell gb q2 id
        clear gb
        go_wp2_with fail
        go_loopw [7, 14] (fun s k wq => ∃ m : Nat, m ≤ tk ∧ k = .int .i64 m ∧ s = .int .i64 (parS (-1) st ks t - sumS ((tookAt st ks ki).take m)) ∧ Hid (Up w wq)) (fun _ k _ => tk - (intOf k).toNat)
        case atStart => exact ⟨0, by omega, rfl, by simp [sumS, sumF], hu.out⟩
        case round =>
          obtain ⟨m, hm, rfl, rfl, hu2⟩ := hrel
          go_wp2_with fail
          refine (sColumnsTaken_any _ _).mono ?_
          rintro e w4 ⟨rfl, g4⟩
          rw [HTKO.out]
          have HU4 := Lib.hid (Chg.trans hu2.out g4)
          clear g4
          by_cases hlt2 : m < tk
          · have hi9 : posS ks ki + m < st.length := by have := HPT.out; omega
            obtain ⟨b7, o7, rfl, -, hc7⟩ := (H.out.up HU4.out).ix hi9
            have f7 := hc7 (posS ks ki + m) hi9
            have HX : Hid (sumS ((tookAt st ks ki).take (m + 1)) = sumS ((tookAt st ks ki).take m) + ix st (posS ks ki + m)) := Lib.hid (by
              rw [sumS_take _ (by rw [HLT.out]; exact hlt2)]
              congr 1
              unfold tookAt
              exact ix_drop_take (by rw [ix_eq hkl, HKD.out, HTK.out]; simpa using hlt2) hi9)
            have hb1 := HS1.out m
            have hb3 := HS1.out (m + 1)
            have hb4 : (tookAt st ks ki).length = tk := HLT.out
            have hb2 : 1 ≤ ix st (posS ks ki + m) ∧ ix st (posS ks ki + m) ≤ 4 := by rw [ix_eq hi9]; exact stkB_bd HF.out.s _ (List.getElem_mem hi9)
            have y1 : IntKind.i64.wrap ((posS ks ki : Int) + m) = ((posS ks ki + m : Nat) : Int) := (IntWalk.i64_in _ (by omega)).trans (by omega)
            have y2 : IntKind.i64.wrap (parS (-1) st ks t - sumS ((tookAt st ks ki).take m) - ix st (posS ks ki + m)) = parS (-1) st ks t - sumS ((tookAt st ks ki).take (m + 1)) := by rw [HX.out]; exact (IntWalk.i64_in _ (by omega)).trans (by omega)
            have hi8 : (posS ks ki : Int) + m < st.length := by omega
            have hi7 : ((posS ks ki : Int) + m).toNat = posS ks ki + m := by omega
            have hi6 : 0 ≤ (posS ks ki : Int) + m := by omega
            have y1' : IntKind.i64.wrap ((posS ks ki : Int) + m) = (posS ks ki : Int) + m := IntWalk.i64_in _ (by omega)
            have y3 : IntKind.i64.wrap ((m : Int) + 1) = ((m + 1 : Nat) : Int) := (IntWalk.i64_in _ (by omega)).trans (by omega)
            have hm9 : (m : Int) < tk := by omega
            clear hc7 hb1 hb3 hb4 hb2
            go_wp2
            go_roundw
            case rel => exact ⟨m + 1, by omega, by first | rfl | go_num, by first | rfl | rw [y2], HU4.out⟩
            case measure => first | (simp [intOf]; done) | (simp [intOf]; omega)
          · obtain rfl : m = tk := by omega
            have e7 : (tookAt st ks ki).take m = tookAt st ks ki := List.take_of_length_le (by rw [HLT.out]; exact Nat.le_refl _)
            rw [e7]
            go_wp2
            go_loopw [7, 15] (fun s k wq => ∃ n : Nat, n ≤ mk ∧ k = .int .i64 n ∧ s = .int .i64 (parS (-1) st ks t - sumS (tookAt st ks ki) + sumS ((stepAt st ks ki).take n)) ∧ Hid (Up w wq)) (fun _ k _ => mk - (intOf k).toNat)
            case atStart => exact ⟨0, by omega, rfl, by simp [sumS, sumF], HU4.out⟩
            case round =>
              obtain ⟨n, hn, rfl, rfl, hu3⟩ := hrel
              go_wp2_with fail
              refine (sColumnsMade_any _ _).mono ?_
              rintro e w5 ⟨rfl, g5⟩
              rw [HMKO.out]
              have HU5 := Lib.hid (Chg.trans hu3.out g5)
              clear g5
              by_cases hlt3 : n < mk
              · have hi9 : posM ks ki + n < (aftTo st ks ks.length).length := by have := HPL.out; have := HAL.out; have := HPM.out; omega
                obtain ⟨b7, o7, rfl, -, hc7⟩ := (H2.out.up HU5.out).ix hi9
                have f7 := hc7 (posM ks ki + n) hi9
                rw [aft_at hkl (by rw [HLS.out]; exact hlt3)] at f7
                have HX : Hid (sumS ((stepAt st ks ki).take (n + 1)) = sumS ((stepAt st ks ki).take n) + ix (stepAt st ks ki) n) := Lib.hid (sumS_take _ (by rw [HLS.out]; exact hlt3))
                have hb1 := HS2.out n
                have hb3 := HS2.out (n + 1)
                have hb4 : (stepAt st ks ki).length = mk := HLS.out
                have hb5 := HS1.out m
                have hb6 : (tookAt st ks ki).length = m := HLT.out
                rw [List.take_of_length_le (Nat.le_of_eq hb6)] at hb5
                have y1 : IntKind.i64.wrap ((posM ks ki : Int) + n) = ((posM ks ki + n : Nat) : Int) := (IntWalk.i64_in _ (by omega)).trans (by omega)
                have y1' : IntKind.i64.wrap ((posM ks ki : Int) + n) = (posM ks ki : Int) + n := IntWalk.i64_in _ (by omega)
                have y2 : IntKind.i64.wrap (parS (-1) st ks t - sumS (tookAt st ks ki) + sumS ((stepAt st ks ki).take n) + ix (stepAt st ks ki) n) = parS (-1) st ks t - sumS (tookAt st ks ki) + sumS ((stepAt st ks ki).take (n + 1)) := by rw [HX.out] at *; exact (IntWalk.i64_in _ (by omega)).trans (by omega)
                have hi8 : (posM ks ki : Int) + n < (aftTo st ks ks.length).length := by omega
                have hi7 : ((posM ks ki : Int) + n).toNat = posM ks ki + n := by omega
                have hi6 : 0 ≤ (posM ks ki : Int) + n := by omega
                have y3 : IntKind.i64.wrap ((n : Int) + 1) = ((n + 1 : Nat) : Int) := (IntWalk.i64_in _ (by omega)).trans (by omega)
                have hm9 : (n : Int) < mk := by omega
                clear hc7 hb1 hb3 hb4 hb5 hb6
                go_wp2
                go_roundw
                case rel => exact ⟨n + 1, by omega, by first | rfl | go_num, by first | rfl | rw [y2], HU5.out⟩
                case measure => first | (simp [intOf]; done) | (simp [intOf]; omega)
              · obtain rfl : n = mk := by omega
                have e6 : (stepAt st ks ki).take n = stepAt st ks ki := List.take_of_length_le (by rw [HLS.out]; exact Nat.le_refl _)
                rw [e6, ← HPAR.out]
                have p0 := Chg.cell HU5.out HR0.out id
                have hp9 := HPL.out
                have hal := HAL.out
                have hpm := HPM.out
                have hpt := HPT.out
                have hps := HPS.out
                have y3 : IntKind.i64.wrap ((t : Int) + 1) = ((t + 1 : Nat) : Int) := (IntWalk.i64_in _ (by omega)).trans (by omega)
                by_cases h12 : parS (-1) st ks (t + 1) ≤ 12
                · have HT2 : Hid (thinTo (-1) st ks (t + 1) = true) := Lib.hid (by rw [thinTo_succ, hth.out, decide_eq_true h12]; rfl)
                  have t12 : decide ((12 : Int) < parS (-1) st ks (t + 1)) = false := decide_eq_false (by omega)
                  clear h12
                  have yt : ks.length - (t + 1) = ki := by have := HKE.out; omega
                  have YT := Lib.hid yt
                  clear hp9 hal hpm hpt hps yt
                  go_wp2
                  go_roundw
                  case rel => exact ⟨t + 1, by omega, by first | rfl | go_num, by rw [YT.out], by rw [YT.out], rfl, HT2.out, HU5.out⟩
                  case measure => first | (simp [intOf]; done) | (simp [intOf]; omega)
                · have HV := Lib.hid (thinTo_false hlt h12)
                  have t12 : decide ((12 : Int) < parS (-1) st ks (t + 1)) = true := decide_eq_true (by omega)
                  clear h12 hp9 hal hpm hpt hps
                  go_wp2
                  go_ret
                  exact ⟨ret_bool (by first | exact HV.out.symm | (unfold thinB; exact HV.out.symm)), HU5.out⟩
end Go.Proofs.YtnjfhpgmogopnaaGreat
end
namespace Go.Proofs.YtnjfhpgmogopnaaGreat
open Go.ChangeShapes Go.WideShapes Go.ChangeAt Go.RowKit
structure ChartM where
  n : Int
  rs : List RowM
/-- a slice of rows -/
def RowsV (w : World) (S : Nat → Prop) (v : Value) (rs : List RowM) : Prop :=
  ∃ A c, v = .slice A rs.length c ∧ rs.length ≤ c ∧ c ≤ 9223372036854775807 ∧ (0 < rs.length → ∃ b o, A = some ⟨b, o, none⟩ ∧ S b ∧ ∀ i (hi : i < rs.length), RowAt w S b (o + i * 3) rs[i]) ∧ (A = none → c = 0)
section
variable {S T : Nat → Prop} {w w' : World} {v : Value} {rs : List RowM}
theorem RowAt.lt {b o : Nat} {r : RowM} (h : RowAt w S b o r) : b < w.heap.size := by
  obtain ⟨A, c, h1, h2, h3, h4, h5, h6, h7, h8⟩ := h
  exact h8
theorem RowAt.mono {b o : Nat} {r : RowM} (h : RowAt w S b o r) (hs : ∀ b, b < w.heap.size → S b → T b) : RowAt w T b o r := by
  obtain ⟨A, c, h1, h2, h3, h4, h5, h6, h7, h8⟩ := h
  exact ⟨A, c, h1, h2, h3, h4.mono hs, h5, h6, h7, h8⟩
theorem RowsV.keep (h : RowsV w S v rs) (g : Chg T w w') (hd : ∀ b, b < w.heap.size → S b → ¬ T b) : RowsV w' S v rs := by
  obtain ⟨A, c, hv, h1, h2, h4, h5⟩ := h
  refine ⟨A, c, hv, h1, h2, fun hp => ?_, h5⟩
  obtain ⟨b, o, ha, hs, hc⟩ := h4 hp
  exact ⟨b, o, ha, hs, fun i hi => (hc i hi).keep g hd (hd b (hc i hi).lt hs)⟩
theorem RowsV.up (h : RowsV w S v rs) (g : Up w w') : RowsV w' S v rs := h.keep g fun _ _ _ h => h
theorem RowsV.mono (h : RowsV w S v rs) (hs : ∀ b, b < w.heap.size → S b → T b) : RowsV w T v rs := by
  obtain ⟨A, c, hv, h1, h2, h4, h5⟩ := h
  refine ⟨A, c, hv, h1, h2, fun hp => ?_, h5⟩
  obtain ⟨b, o, ha, hS, hc⟩ := h4 hp
  exact ⟨b, o, ha, hs b (hc 0 hp).lt hS, fun i hi => (hc i hi).mono hs⟩
theorem RowsV.shape (h : RowsV w S v rs) : ∃ A c, v = .slice A rs.length c ∧ rs.length ≤ c ∧ c ≤ 9223372036854775807 ∧ (A = none → c = 0) :=
  let ⟨A, c, h1, h2, h3, _, h4⟩ := h; ⟨A, c, h1, h2, h3, h4⟩
theorem RowsV.at_ {A : Option Addr} {c : Nat} (h : RowsV w S (.slice A rs.length c) rs) {i : Nat} (hi : i < rs.length) : ∃ b o, A = some ⟨b, o, none⟩ ∧ ∀ j (hj : j < rs.length), RowAt w S b (o + j * 3) rs[j] := by
  obtain ⟨A', c', he, h1, h2, h4, h5⟩ := h
  obtain ⟨rfl, rfl⟩ : A = A' ∧ c = c' := by simpa using he
  obtain ⟨b, o, ha, hS, hc⟩ := h4 (by omega)
  exact ⟨b, o, ha, hc⟩
end
/-- a chart by value -/
def ChartV (w : World) (S : Nat → Prop) (v : Value) (c : ChartM) : Prop := ∃ s, v = .agg #[.int .i64 c.n, s] ∧ RowsV w S s c.rs ∧ I64 c.n
theorem ChartV.shape {w : World} {S : Nat → Prop} {v : Value} {c : ChartM} (h : ChartV w S v c) : ∃ A k, v = .agg #[.int .i64 c.n, .slice A c.rs.length k] ∧ RowsV w S (.slice A c.rs.length k) c.rs ∧ c.rs.length ≤ k ∧ k ≤ 9223372036854775807 ∧ I64 c.n := by
  obtain ⟨s, h1, h2, h3⟩ := h
  obtain ⟨A, k, rfl, h4, h5, _⟩ := h2.shape
  exact ⟨A, k, h1, h2, h4, h5, h3⟩
/-- a chart behind a pointer -/
def ChartAt (w : World) (S : Nat → Prop) (b o : Nat) (c : ChartM) : Prop :=
  ∃ A k, w.cell? ⟨b, o, none⟩ = some (.int .i64 c.n) ∧ w.cell? ⟨b, o + 1, none⟩ = some (.slice A c.rs.length k) ∧ RowsV w S (.slice A c.rs.length k) c.rs ∧ c.rs.length ≤ k ∧ k ≤ 9223372036854775807 ∧ I64 c.n ∧ b < w.heap.size
theorem ChartAt.keep {S T : Nat → Prop} {w w' : World} {b o : Nat} {c : ChartM} (h : ChartAt w S b o c) (g : Chg T w w') (hd : ∀ b, b < w.heap.size → S b → ¬ T b) (hb : ¬ T b) : ChartAt w' S b o c := by
  obtain ⟨A, k, h1, h2, h3, h4, h5, h6, h7⟩ := h
  exact ⟨A, k, g.cell h1 hb, g.cell h2 hb, h3.keep g hd, h4, h5, h6, Nat.lt_of_lt_of_le h7 g.size⟩
theorem ChartAt.up {S : Nat → Prop} {w w' : World} {b o : Nat} {c : ChartM} (h : ChartAt w S b o c) (g : Up w w') : ChartAt w' S b o c := h.keep g (fun _ _ _ h => h) id
/-- the row at a place -/
def rowI (rs : List RowM) (i : Nat) : RowM := rs.getD i ⟨0, 0, []⟩
theorem rowI_eq {rs : List RowM} {i : Nat} (h : i < rs.length) : rowI rs i = rs[i] := by unfold rowI; simp [h]
/-- the stacks ahead of row j -/
def atS (n : Int) (rs : List RowM) : Nat → List Int
  | 0 => List.replicate n.toNat 1
  | j + 1 => saL (atS n rs j) (rowI rs j).xs
def okR (st : List Int) (r : RowM) : Bool := rowB r.d r.c r.xs && (decide (saC st r.xs = 0) && thinB r.d st r.xs)
def okC (n : Int) (rs : List RowM) (j : Nat) : Bool := (List.range j).all fun i => okR (atS n rs i) (rowI rs i)
def outC (n : Int) (rs : List RowM) (j : Nat) : List (List Int) := (List.range j).map fun i => atS n rs (i + 1)
theorem okC_succ (n : Int) (rs : List RowM) (j : Nat) : okC n rs (j + 1) = (okC n rs j && okR (atS n rs j) (rowI rs j)) := by
  unfold okC; rw [List.range_succ, List.all_append]; simp
theorem outC_succ (n : Int) (rs : List RowM) (j : Nat) : outC n rs (j + 1) = outC n rs j ++ [saL (atS n rs j) (rowI rs j).xs] := by
  unfold outC; rw [List.range_succ, List.map_append]; rfl
theorem outC_length (n : Int) (rs : List RowM) (j : Nat) : (outC n rs j).length = j := by simp [outC]
theorem okC_false {n : Int} {rs : List RowM} {j m : Nat} (hj : j < m) (h : okR (atS n rs j) (rowI rs j) = false) : okC n rs m = false := by
  unfold okC
  rw [Bool.eq_false_iff]
  intro hh
  rw [List.all_eq_true.1 hh j (by simpa using hj)] at h
  cases h
def sizeB (c : ChartM) : Bool := inB c.n 1 8 && inB c.rs.length 1 8
def chartB (c : ChartM) : Bool := sizeB c && okC c.n c.rs c.rs.length
def chartL (c : ChartM) : List (List Int) := if chartB c then outC c.n c.rs c.rs.length else []
theorem chart_no {c : ChartM} (h : sizeB c = false) : chartB c = false ∧ chartL c = [] := by
  have e : chartB c = false := by unfold chartB; rw [h]; rfl
  exact ⟨e, by unfold chartL; rw [e]; rfl⟩
theorem chart_bad {c : ChartM} {j : Nat} (hj : j < c.rs.length) (h : okR (atS c.n c.rs j) (rowI c.rs j) = false) : chartB c = false ∧ chartL c = [] := by
  have e : chartB c = false := by unfold chartB; rw [okC_false hj h, Bool.and_false]
  exact ⟨e, by unfold chartL; rw [e]; rfl⟩
theorem chart_yes {c : ChartM} (h : sizeB c = true) (h2 : okC c.n c.rs c.rs.length = true) : chartB c = true ∧ chartL c = outC c.n c.rs c.rs.length := by
  have e : chartB c = true := by unfold chartB; rw [h, h2]; rfl
  exact ⟨e, by unfold chartL; rw [e]; rfl⟩
set_option maxRecDepth 100000 in
/-- 'out = append(out, list)', where the list was made behind the row -/
theorem wp_append_ss2 {w : World} {ops : Array Oper} {rest : List Oper} {o : Oper} {a : Act} {Q : Exit → Act → World → Prop} (hgd : o.guard = none) (s x : Operand)
    (ho : o.op = .call { callee := .builtin .append, args := #[s, x], argTypes := #[84, 84] })
    (base : Nat) (wr : World) (v : Value) (xss : List (List Int)) (hs : a.eval s = v) (hown : OwnSS wr base v xss) (hup : Up wr w)
    (g : Nat) (u : Value) (ys : List Int) (hx : a.eval x = .slice (some ⟨g, 0, none⟩) 1 1) (hc : w.cell? ⟨g, 0, none⟩ = some u) (hu : Ints w (New wr.heap.size w.heap.size) u ys) (hlen : xss.length ≤ 1099511627) (hbase : base ≤ wr.heap.size)
    (h : ∀ v' w', OwnSS w' base v' (xss ++ [ys]) → Chg (fun k => base ≤ k ∧ k < wr.heap.size) w w' → wpList Tryz.prog ops Q rest (a.put o.dst v') w') : wpList Tryz.prog ops Q (o :: rest) a w := by
  obtain ⟨i0, hi, hz0, hz1, hz2⟩ := info_parts infoS
  obtain ⟨A, c, rfl, -⟩ := hu.shape
  obtain ⟨vs, q, h1, h2, h3, h4⟩ := hown
  have hsz := hup.size
  have h1' := ownsRow_kept h1 hup (fun _ _ h => h)
  refine wpList_append_own2 (P := Tryz.prog) hgd s x 84 ho base 26 i0 (.slice none 0 0) 1 24 Tryz.underlying84 hi hz0 hz1 hz2 rfl (by decide) v xss.length _ hs h1' ⟨g, 0, none⟩ 1 1 [.slice A ys.length c] hx rfl ?_ ?_ ?_ ?_ (by omega) ?_
  · intro j r hr
    cases j with
    | zero => simp only [List.getElem?_cons_zero, Option.some.injEq] at hr; subst hr; rw [add_zero]; exact hc
    | succ j => simp at hr
  · intro r hr; simp at hr; subst hr; rfl
  · unfold Go.maxLen; omega
  · omega
  · intro v' w' k1 k2 k3
    have hlt := h1.lt
    have hown2 : ∀ b, v.ownBlock = some b → b < wr.heap.size := fun b hb => (hlt b hb).2
    have hvl : vs.length = xss.length := by have := h1.1; omega
    refine h v' w' ⟨vs ++ [.slice A ys.length c], fun i b => (i < xss.length ∧ q i b) ∨ (i = xss.length ∧ New wr.heap.size w.heap.size b), by simpa using k1, ?_, ?_, ?_⟩ ((Chg.refl _ _).grown k2 fun k hk => .inl (hlt k hk))
    · rintro i b (⟨hi', hq⟩ | ⟨rfl, hq⟩)
      · obtain ⟨a1, a2, a3⟩ := h2 i b hq
        refine ⟨a1, by have := k2.size; omega, fun hh => ?_⟩
        rcases k3 b hh with k4 | k4
        · exact a3 k4
        · omega
      · refine ⟨by have := hq.1; omega, by have := k2.size; have := hq.2; omega, fun hh => ?_⟩
        rcases k3 b hh with k4 | k4
        · have := hown2 b k4; have := hq.1; omega
        · have := hq.2; omega
    · rintro i j b (⟨hi', hq⟩ | ⟨rfl, hq⟩) (⟨hj', hq'⟩ | ⟨rfl, hq'⟩)
      · exact h3 i j b hq hq'
      · have := (h2 i b hq).2.1; have := hq'.1; omega
      · have := (h2 j b hq').2.1; have := hq.1; omega
      · rfl
    · intro i hi'
      have hC := Chg.of_grown k2
      by_cases he : i < xss.length
      · obtain ⟨r, hr, hk⟩ := h4 i he
        refine ⟨r, by rw [List.getElem?_append_left (by omega)]; exact hr, ?_⟩
        rw [List.getElem_append_left he]
        exact ((hk.up hup).keep hC (fun b _ hq hb => (h2 i b hq).2.2 hb)).mono (fun b _ hq => .inl ⟨he, hq⟩)
      · have hi2 : i = xss.length := by simp at hi'; omega
        subst hi2
        refine ⟨.slice A ys.length c, by rw [List.getElem?_append_right (by omega), hvl]; simp, ?_⟩
        rw [List.getElem_append_right (by omega)]
        simp only [Nat.sub_self, List.getElem_cons_zero]
        exact (hu.keep hC (fun b _ hq hb => by have := hown2 b hb; have := hq.1; omega)).mono (fun b _ hq => .inr ⟨by first | rfl | trivial, hq⟩)
end Go.Proofs.YtnjfhpgmogopnaaGreat
namespace Go.Proofs.YtnjfhpgmogopnaaGreat
/-- a world that grew out of another -/
structure UpOf (w : World) where
  wd : World
  up : Up w wd
instance (w : World) : Nonempty (UpOf w) := ⟨⟨w, Chg.refl _ _⟩⟩
section
variable {P : Program}
theorem wp_region_up {id : Nat} {Q : Exit → Act → World → Prop} {a : Act} {w : World} {l : List Oper} (hm : P.follows .mixedOrders = true) (hB : Region.lexB .any l.toArray = true)
    (h : wpQuiet P l.toArray (fun w' => ∃ u : UpOf w, w' = u.wd) (fun a' => ∀ w', (∃ u : UpOf w, w' = u.wd) → Q .normal a' w') l a) : (Code.region id l.toArray true).wp P Q a w :=
  wp_region_quiet (C := fun w' => ∃ u : UpOf w, w' = u.wd) hm hB ⟨⟨w.drew, (Chg.refl _ _).drew⟩, rfl⟩ (by simpa using h)
theorem calls_up {w : World} {f : FuncId} {args : Array Value} {u : UpOf w} {v : Value}
    (h : Calls P f args u.wd fun e w' => e = .returned v ∧ Up u.wd w') : Calls P f args u.wd fun e w'' => e = .returned v ∧ ∃ u' : UpOf w, w'' = u'.wd :=
  h.mono fun _ _ ⟨he, hw⟩ => ⟨he, ⟨_, Chg.trans u.up hw⟩, rfl⟩
theorem calls_up_same {w : World} {f : FuncId} {args : Array Value} {u : UpOf w} {v : Value}
    (h : Calls P f args u.wd fun e w' => e = .returned v ∧ u.wd = w') : Calls P f args u.wd fun e w'' => e = .returned v ∧ ∃ u' : UpOf w, w'' = u'.wd :=
  h.mono fun _ _ ⟨he, hw⟩ => ⟨he, u, hw.symm⟩
theorem calls_up_new {w : World} {f : FuncId} {args : Array Value} {u : UpOf w} {v : Value}
    (h : Calls P f args u.wd fun e w' => e = .returned v ∧ ∃ o, w' = u.wd.alloc o) : Calls P f args u.wd fun e w'' => e = .returned v ∧ ∃ u' : UpOf w, w'' = u'.wd :=
  h.mono fun _ _ ⟨he, o, hw⟩ => ⟨he, ⟨_, by rw [hw]; exact Chg.alloc u.up o⟩, rfl⟩
theorem up_cell {w : World} {p : Addr} {v : Value} (h : w.cell? p = some v) : ∀ u : UpOf w, u.wd.cell? p = some v := fun u => Chg.cell u.up h id
end
end Go.Proofs.YtnjfhpgmogopnaaGreat
section
namespace Go.Proofs.YtnjfhpgmogopnaaGreat
open Go.ChangeShapes Go.WideShapes Go.ChangeAt Go.RowKit
set_option linter.unusedSimpArgs false
set_option linter.unusedVariables false
set_option maxRecDepth 100000
set_option maxHeartbeats 400000
theorem okR_1 {st : List Int} {r : RowM} (h : rowB r.d r.c r.xs = false) : okR st r = false := by unfold okR; rw [h]; rfl
theorem okR_2 {st : List Int} {r : RowM} (h : ¬ saC st r.xs = 0) : okR st r = false := by unfold okR; rw [decide_eq_false h, Bool.false_and, Bool.and_false]
theorem okR_3 {st : List Int} {r : RowM} (h : rowB r.d r.c r.xs = true) (h2 : saC st r.xs = 0) : okR st r = thinB r.d st r.xs := by unfold okR; rw [h, decide_eq_true h2]; simp
def resL (n : Int) (rs : List RowM) : List (List Int) := if okC n rs rs.length then outC n rs rs.length else []
theorem resL_no {n : Int} {rs : List RowM} (h : okC n rs rs.length = false) : resL n rs = [] := by unfold resL; rw [h]; rfl
theorem resL_yes {n : Int} {rs : List RowM} (h : okC n rs rs.length = true) : resL n rs = outC n rs rs.length := by unfold resL; rw [h]; rfl
theorem allStacks_yes (w : World) (S : Nat → Prop) (A : Option Addr) (k m : Nat) (rs : List RowM) (hr : RowsV w S (.slice A rs.length k) rs) (hlk : rs.length ≤ k) (hkm : k ≤ 9223372036854775807) (hm : 1 ≤ m ∧ m ≤ 8) (hl : 1 ≤ rs.length ∧ rs.length ≤ 8) :
    Calls Tryz.prog 51 #[.agg #[.int .i64 (m : Int), .slice A rs.length k]] w fun e w' => ∃ v', e = .returned (.tuple #[v', .bool (okC m rs rs.length)]) ∧ IntSS w' (New w.heap.size w'.heap.size) v' (resL m rs) ∧ Up w w' := by
  have HR0 := Lib.hid (hr.mono (T := fun b => b < w.heap.size) fun _ h _ => h)
  have U0 := Lib.hid ((Chg.refl Nowhere w).alloc (.cells #[.int .i64 (m : Int), .slice A rs.length k] 31))
  have HW := Lib.hid (fun w => by have := within_any (m : Int) 1 8 w; rw [inB_yes (by omega)] at this; exact this)
  have t1 : decide ((rs.length : Int) < 1) = false := decide_eq_false (by omega)
  have t2 : decide ((8 : Int) < (rs.length : Int)) = false := decide_eq_false (by omega)
  have HM := Lib.hid hm
  have hlit := lit1 (w.alloc (.cells #[.int .i64 (m : Int), .slice A rs.length k] 31)) 1 (by unfold I64; omega) (w.heap.size + 1) (by simp)
  rw [World.size_alloc w] at hlit
  have HLIT := Lib.hid hlit
  clear hr hlit
  go_enter Tryz.func51, Tryz.ntmps51
  go_wp2_with fail
  refine (HW.out _).mono ?_
  rintro e w' ⟨rfl, rfl⟩
  go_wp2_with fail
  with_reducible refine (repeat_any _ _ _ HLIT.out m HM.out).mono ?_
  rintro e w2 ⟨v2, rfl, k2, g2⟩
  obtain ⟨A2, c2, rfl, hl2, hc2, -⟩ := k2.shape
  have K2 := Lib.hid k2
  have U2 := Lib.hid (Chg.trans (U0.out.alloc (.cells #[.int .i64 1] 2)) g2)
  have hz2 : w.heap.size + 1 ≤ w2.heap.size := by have h1 := g2.size; rw [World.size_alloc, World.size_alloc] at h1; omega
  have HZ2 := Lib.hid hz2
  have b1 : w2.cell? ⟨w.heap.size, 1, none⟩ = some (.slice A rs.length k) := Chg.cell (Chg.trans ((Chg.refl Nowhere _).alloc (.cells #[.int .i64 1] 2)) g2) (cell_new _ _ _ _) id
  have b2 := Chg.cell ((Chg.refl Nowhere w2).alloc (.cells #[] 26)) b1 id
  have hk2 := (k2.mono (T := fun _ => True) fun _ _ _ => trivial).up ((Chg.refl _ _).alloc (.cells #[] 26))
  rw [List.length_replicate] at hk2
  have e0 : List.replicate m (1 : Int) = atS m rs 0 := by unfold atS; rw [Int.toNat_natCast]
  rw [e0] at hk2
  have HK2 := Lib.hid hk2
  clear k2 g2 hz2 hk2 e0
  go_wp2
  clear b1 b2
  go_loopw [4, 5, 34] (fun q r i wr => ∃ (j : Nat), j ≤ rs.length ∧ i = .int .i64 j ∧ Hid (Ints wr (fun _ => True) q (atS m rs j)) ∧ Hid (OwnSS wr (w.heap.size + 1) r (outC m rs j)) ∧ Hid (okC m rs j = true) ∧ Hid (Up w wr) ∧ Hid (w.heap.size + 1 ≤ wr.heap.size)) (fun _ _ i _ => rs.length - (intOf i).toNat)
  case atStart =>
    refine ⟨0, by omega, rfl, ?_, OwnSS.made _ _ HZ2.out, rfl, U2.out.alloc _, Lib.hid (by have := HZ2.out; rw [World.size_alloc]; omega)⟩
    exact HK2.out
  case round =>
    obtain ⟨j, hj, rfl, hq, hr, hok, hu, hz⟩ := hrel
    by_cases hlt : j < rs.length
    · obtain ⟨b, o, rfl, hc⟩ := (HR0.out.up hu.out).at_ hlt
      have hrow := hc j hlt
      obtain ⟨⟨d, cr, ks⟩, HRJ⟩ : ∃ r, Hid (rs[j] = r) := ⟨_, Lib.hid rfl⟩
      obtain ⟨st, HST⟩ : ∃ st, Hid (atS m rs j = st) := ⟨_, Lib.hid rfl⟩
      have HOK : Hid (okC m rs (j + 1) = okR st ⟨d, cr, ks⟩) := Lib.hid (by rw [okC_succ, hok.out, HST.out, rowI_eq hlt, HRJ.out]; rfl)
      have HNX : Hid (atS m rs (j + 1) = saL st ks) := Lib.hid (by unfold atS; rw [HST.out, rowI_eq hlt, HRJ.out])
      have HOU : Hid (outC m rs (j + 1) = outC m rs j ++ [saL st ks]) := Lib.hid (by rw [outC_succ, HST.out, rowI_eq hlt, HRJ.out])
      have HBAD : Hid (okR st ⟨d, cr, ks⟩ = false → okC m rs rs.length = false) := Lib.hid (fun h => okC_false hlt (by rw [HST.out, rowI_eq hlt, HRJ.out]; exact h))
      have HLN := Lib.hid (show (outC m rs j).length ≤ 1099511627 by rw [outC_length]; omega)
      rw [HRJ.out] at hrow
      rw [HST.out] at hq
      obtain ⟨A3, c3, f1, f2, f3, hi3, hl3, hc3⟩ := hrow.open_
      obtain ⟨-, -, -, -, -, -, -, -, hd64, -⟩ := hrow
      have HI3 := Lib.hid hi3
      have HI64 := Lib.hid hd64
      obtain ⟨A4, c4, rfl, hl4, hc4, -⟩ := hq.out.shape
      obtain ⟨A5, c5, rfl, hl5, hc5, -⟩ := hr.out.ss.shape
      have HRV := Lib.hid (show RowV (wr.alloc (.cells #[.int .i64 d, .int .i64 cr, .slice A3 ks.length c3] 72)) _ (.agg #[.int .i64 d, .int .i64 cr, .slice A3 ks.length c3]) ⟨d, cr, ks⟩ from ⟨_, rfl, HI3.out.up ((Chg.refl Nowhere _).alloc _), HI64.out⟩)
      have B0 := Lib.hid (show Bx (wr.alloc (.cells #[.int .i64 d, .int .i64 cr, .slice A3 ks.length c3] 72)) wr.heap.size _ _ _ from box3 wr _ _ _ _)
      have UB := Lib.hid ((Chg.refl Nowhere wr).alloc (.cells #[.int .i64 d, .int .i64 cr, .slice A3 ks.length c3] 72))
      clear hc hd64 hi3
      go_wp2_with fail
      with_reducible refine (ValidRow_any _ _ _ _ HRV.out).mono ?_
      rintro e w3 ⟨rfl, g3⟩
      have G3 := Lib.hid (Chg.trans UB.out g3)
      have B3 := Lib.hid (B0.out.up g3)
      clear g3 f1 f2 f3
      cases hrb : rowB d cr ks with
      | false =>
        have HV := Lib.hid (HBAD.out (okR_1 hrb))
        go_wp2
        go_ret2
        rw [HV.out, resL_no HV.out]
        exact ⟨_, rfl, IntSS.nil _ _ 0 none (by omega), Chg.trans hu.out G3.out⟩
      | true =>
        have HRB := Lib.hid hrb
        obtain ⟨q1, q2, q3⟩ := B3.out
        clear hrb
        go_wp2_with fail
        with_reducible refine (StacksAfter_any _ _ _ _ _ st ks (hq.out.up G3.out) (HI3.out.up G3.out)).mono ?_
        rintro e w4 ⟨v4, rfl, k4, g4⟩
        obtain ⟨A6, c6, rfl, hl6, hc6, -⟩ := k4.shape
        have K4 := Lib.hid k4
        have G4 := Lib.hid (Chg.trans G3.out g4)
        have B4 := Lib.hid (B3.out.up g4)
        have z3 := Lib.hid G3.out.size
        clear k4 g4 q1 q2 q3
        by_cases hs0 : saC st ks = 0
        rotate_left
        · have HV := Lib.hid (HBAD.out (okR_2 (r := ⟨d, cr, ks⟩) hs0))
          have t3 : (saC st ks == 0) = false := by simpa using hs0
          have t4 : (saC st ks != 0) = true := by simpa using hs0
          clear hs0
          go_wp2
          go_ret2
          rw [HV.out, resL_no HV.out]
          exact ⟨_, rfl, IntSS.nil _ _ 0 none (by omega), Chg.trans hu.out G4.out⟩
        have HS0 := Lib.hid hs0
        have t4 : (saC st ks != 0) = false := by simpa using hs0
        have HO3 := Lib.hid (okR_3 (r := ⟨d, cr, ks⟩) HRB.out HS0.out)
        have HFT := Lib.hid (saC_fits hs0).1
        have HDR := Lib.hid (rowB_dir HRB.out).1
        obtain ⟨q1, q2, q3⟩ := B4.out
        clear hs0
        go_wp2_with fail
        with_reducible refine (keepsLimit_any _ _ _ _ d cr A3 c3 st ks (HI3.out.up G4.out) (hq.out.up G4.out) HFT.out HDR.out HI64.out.2).mono ?_
        rintro e w5 ⟨rfl, g5⟩
        have G5 := Lib.hid (Chg.trans G4.out g5)
        have K5 := Lib.hid (K4.out.up g5)
        clear g5 q1 q2 q3
        cases htb : thinB d st ks with
        | false =>
          have HV := Lib.hid (HBAD.out (HO3.out.trans htb))
          clear htb
          go_wp2
          go_ret2
          rw [HV.out, resL_no HV.out]
          exact ⟨_, rfl, IntSS.nil _ _ 0 none (by omega), Chg.trans hu.out G5.out⟩
        | true =>
          have HV := Lib.hid (HOK.out.trans (HO3.out.trans htb))
          clear htb
          have UA := Lib.hid (G5.out.alloc (.cells #[.slice A6 (saL st ks).length c6] 26))
          have KA := Lib.hid ((K5.out.up ((Chg.refl Nowhere _).alloc (.cells #[.slice A6 (saL st ks).length c6] 26))).mono (T := New wr.heap.size (w5.alloc (.cells #[.slice A6 (saL st ks).length c6] 26)).heap.size) (fun b h1 hb => ⟨by have := hb.1; have := z3.out; omega, h1⟩))
          go_wp2_with (first | (at_builtin; refine wp_append_ss2 rfl _ _ rfl (w.heap.size + 1) wr _ (outC m rs j) rfl hr.out UA.out _ _ (saL st ks) rfl (cell_new _ _ _ _) KA.out HLN.out hz.out ?_; intro v9 w9 ho9 hg9; have HO9 := Lib.hid ho9; have HG9 := Lib.hid hg9; clear ho9 hg9))
          go_roundw
          case rel =>
            have hj2 := (KA.out.keep HG9.out (fun b h1 h2 h9 => by have := h2.1; have := h9.2; omega)).mono (T := fun _ => True) (fun _ _ _ => trivial)
            rw [← HOU.out] at HO9
            exact ⟨j + 1, by omega, by go_num, Lib.hid (by rw [HNX.out]; exact hj2), HO9, HV, Lib.hid (Chg.new (Chg.trans hu.out UA.out) HG9.out (fun i hi h => by have h := h.1; omega)), Lib.hid (by have h1 := HG9.out.size; have h2 := UA.out.size; have h3 := hz.out; omega)⟩
          case measure => first | (simp [intOf]; done) | (simp [intOf]; omega)
    · obtain rfl : j = rs.length := by omega
      go_wp2
      go_ret2
      rw [hok.out, resL_yes hok.out]
      refine ⟨_, rfl, (hr.out.ss).mono (fun b hb => ⟨by have := hb.1; omega, hb.2⟩), hu.out⟩
theorem allStacks_any (w : World) (S : Nat → Prop) (v : Value) (c : ChartM) (h : ChartV w S v c) :
    Calls Tryz.prog 51 #[v] w fun e w' => ∃ v', e = .returned (.tuple #[v', .bool (chartB c)]) ∧ IntSS w' (New w.heap.size w'.heap.size) v' (chartL c) ∧ Up w w' := by
  obtain ⟨A, k, rfl, hr, hlk, hkm, hI⟩ := h.shape
  have HR0 := Lib.hid (hr.mono (T := fun b => b < w.heap.size) fun _ h _ => h)
  have HI := Lib.hid hI
  have U0 := Lib.hid ((Chg.refl Nowhere w).alloc (.cells #[.int .i64 c.n, .slice A c.rs.length k] 31))
  have HR := Lib.hid (HR0.out.up U0.out)
  clear h hr hI
  cases h1 : inB c.n 1 8 with
  | false =>
    have HV := Lib.hid (chart_no (c := c) (by unfold sizeB; rw [h1]; rfl))
    have HW := Lib.hid (fun w => by have := within_any c.n 1 8 w; rw [h1] at this; exact this)
    clear h1
    go_enter Tryz.func51, Tryz.ntmps51
    go_wp2_with fail
    refine (HW.out _).mono ?_
    rintro e w' ⟨rfl, rfl⟩
    go_wp2
    go_ret2
    rw [HV.out.1, HV.out.2]
    exact ⟨_, rfl, IntSS.nil _ _ 0 none (by omega), U0.out⟩
  | true =>
    have HW := Lib.hid (fun w => by have := within_any c.n 1 8 w; rw [h1] at this; exact this)
    by_cases h2 : c.rs.length < 1
    · have HV := Lib.hid (chart_no (c := c) (by unfold sizeB inB; rw [decide_eq_false (p := 1 ≤ (c.rs.length : Int) ∧ _) (by omega), Bool.and_false]))
      have t1 : decide ((c.rs.length : Int) < 1) = true := decide_eq_true (by omega)
      clear h1
      go_enter Tryz.func51, Tryz.ntmps51
      go_wp2_with fail
      refine (HW.out _).mono ?_
      rintro e w' ⟨rfl, rfl⟩
      go_wp2
      go_ret2
      rw [HV.out.1, HV.out.2]
      exact ⟨_, rfl, IntSS.nil _ _ 0 none (by omega), U0.out⟩
    by_cases h3 : 8 < c.rs.length
    · have HV := Lib.hid (chart_no (c := c) (by unfold sizeB inB; rw [decide_eq_false (p := 1 ≤ (c.rs.length : Int) ∧ _) (by omega), Bool.and_false]))
      have t1 : decide ((c.rs.length : Int) < 1) = false := decide_eq_false (by omega)
      have t2 : decide ((8 : Int) < (c.rs.length : Int)) = true := decide_eq_true (by omega)
      clear h1
      go_enter Tryz.func51, Tryz.ntmps51
      go_wp2_with fail
      refine (HW.out _).mono ?_
      rintro e w' ⟨rfl, rfl⟩
      go_wp2
      go_ret2
      rw [HV.out.1, HV.out.2]
      exact ⟨_, rfl, IntSS.nil _ _ 0 none (by omega), U0.out⟩
    have HSZ : sizeB c = true := by unfold sizeB; rw [h1]; unfold inB; rw [decide_eq_true (p := 1 ≤ (c.rs.length : Int) ∧ _) (by omega)]; rfl
    have hn : 1 ≤ c.n ∧ c.n ≤ 8 := by unfold inB at h1; exact of_decide_eq_true h1
    have e1 : chartB c = okC c.n c.rs c.rs.length := by unfold chartB; rw [HSZ, Bool.true_and]
    have e2 : chartL c = resL c.n c.rs := by unfold chartL resL; rw [e1]
    rw [e1, e2]
    obtain ⟨m, hm⟩ : ∃ m : Nat, c.n = m := ⟨c.n.toNat, by omega⟩
    rw [hm] at hn ⊢
    exact allStacks_yes w _ A k m c.rs HR0.out hlk hkm (by omega) (by omega)
end Go.Proofs.YtnjfhpgmogopnaaGreat
end
section
set_option linter.unusedSimpArgs false
set_option linter.unusedVariables false
set_option maxRecDepth 100000
set_option maxHeartbeats 400000
namespace Go.Proofs.YtnjfhpgmogopnaaGreat
open Go.ChangeShapes Go.WideShapes Go.ChangeAt Go.RowKit
theorem saC_le8 {st ks : List Int} (h : saC st ks = 0) : (aftTo st ks ks.length).length ≤ 8 := by
  unfold saC at h
  cases hb : (stkB st && stB ks) with
  | false => rw [hb] at h; simp at h
  | true =>
    by_cases hs : sumF takenK ks = st.length
    · rw [hb, if_pos rfl, if_pos hs] at h
      cases h8 : decide ((aftTo st ks ks.length).length ≤ 8) with
      | true => exact of_decide_eq_true h8
      | false => rw [h8, Bool.and_false] at h; simp at h
    · rw [hb, if_pos rfl, if_neg hs] at h; omega
theorem l15Stacks_yes (w : World) (S : Nat → Prop) (pb po : Nat) (A : Option Addr) (k m : Nat) (rs : List RowM) (h0 : w.cell? ⟨pb, po, none⟩ = some (.int .i64 (m : Int))) (h1 : w.cell? ⟨pb, po + 1, none⟩ = some (.slice A rs.length k)) (hr : RowsV w S (.slice A rs.length k) rs) (hlk : rs.length ≤ k) (hkm : k ≤ 9223372036854775807) (hm : 1 ≤ m ∧ m ≤ 8) (hl : 1 ≤ rs.length ∧ rs.length ≤ 8) :
    Calls Tryz.prog 60 #[.pointer (some ⟨pb, po, none⟩)] w fun e w' => ∃ v', e = .returned (.tuple #[v', .bool (okC m rs rs.length)]) ∧ IntSS w' (New w.heap.size w'.heap.size) v' (resL m rs) ∧ Up w w' := by
  have HR0 := Lib.hid (hr.mono (T := fun b => b < w.heap.size) fun _ h _ => h)
  have H0 := Lib.hid h0
  have H1 := Lib.hid h1
  have HW := Lib.hid (fun w => l00In_yes (m : Int) 1 8 w (by omega))
  have HW2 := Lib.hid (fun w => l00In_yes (rs.length : Int) 1 8 w (by omega))
  have HM := Lib.hid hm
  clear hr
  go_enter Tryz.func60, Tryz.ntmps60
  go_wp2_with fail
  refine (HW.out _).mono ?_
  rintro e w' ⟨rfl, rfl⟩
  go_wp2_with fail
  refine (HW2.out _).mono ?_
  rintro e w' ⟨rfl, rfl⟩
  go_wp2
  clear h0 h1
  go_loopw [4] (fun q wr => ∃ (j : Nat), j ≤ m ∧ Hid (OwnI wr w.heap.size q (List.replicate j 1)) ∧ Hid (Up w wr)) (fun q _ => m - (match q with | .slice _ n _ => n | _ => 0))
  case atStart =>
    exact ⟨0, by omega, OwnI.made _ _ (Nat.le_refl _), Lib.hid ((Chg.refl _ _).alloc _)⟩
  case round =>
    obtain ⟨j, hj, hq, hu⟩ := hrel
    have p0 := Chg.cell hu.out H0.out id
    obtain ⟨A1, c1, rfl, hl1, hc1, -⟩ := hq.out.ints.shape
    rw [List.length_replicate] at hl1 hq ⊢
    have HU1 := Lib.hid hu.out.size
    by_cases hlt : j < m
    · have HQA := Lib.hid (hq.out.alloc (.cells #[.int .i64 1] 2))
      have HI1 : Hid (I64 1) := Lib.hid (by unfold I64; omega)
      have HLE : Hid ((List.replicate j (1 : Int)).length ≤ 1099511627776) := Lib.hid (by rw [List.length_replicate]; omega)
      have HBS : Hid (w.heap.size ≤ (wr.alloc (.cells #[.int .i64 1] 2)).heap.size) := Lib.hid (by rw [World.size_alloc]; have := HU1.out; omega)
      go_wp2_with (first | (at_builtin; refine wp_append_int2 rfl _ _ rfl w.heap.size _ (List.replicate j 1) rfl HQA.out _ 1 rfl (cell_new _ _ _ _) HI1.out HLE.out HBS.out ?_; intro v9 w9 ho9 _ _ hg9; rw [← List.replicate_succ'] at ho9; have HO9 := Lib.hid ho9; have HG9 := Lib.hid hg9; clear ho9 hg9))
      obtain ⟨A7, c7, rfl, hl7, hc7, -⟩ := HO9.out.ints.shape
      rw [List.length_replicate] at hl7
      go_roundw
      case rel => exact ⟨j + 1, by omega, HO9, Lib.hid (Chg.new (hu.out.alloc _) HG9.out (fun i hi h => by have h : w.heap.size ≤ i := h; omega))⟩
      case measure => simp; omega
    · have ejm : m = j := by omega
      subst ejm
      have p1 := Chg.cell hu.out H1.out id
      have p2 := Chg.cell ((Chg.refl Nowhere wr).alloc (.cells #[] 26)) p1 id
      have HK2 : Hid (Ints (wr.alloc (.cells #[] 26)) (fun _ => True) (.slice A1 m c1) (atS m rs 0)) := Lib.hid (by
        have h := (hq.out.ints.mono (T := fun _ => True) fun _ _ _ => trivial).up ((Chg.refl _ _).alloc (.cells #[] 26))
        have e0 : List.replicate m (1 : Int) = atS m rs 0 := by unfold atS; rw [Int.toNat_natCast]
        rw [e0] at h
        exact h)
      go_wp2
      clear p0 p1 p2
      have HUQ := Lib.hid (hu.out.alloc (.cells #[] 26))
      have HZQ : Hid (w.heap.size ≤ wr.heap.size) := Lib.hid HU1.out
      go_loopw [4, 5, 6] (fun q r i wr => ∃ (j : Nat), j ≤ rs.length ∧ i = .int .i64 j ∧ Hid (Ints wr (fun _ => True) q (atS m rs j)) ∧ Hid (OwnSS wr w.heap.size r (outC m rs j)) ∧ Hid (okC m rs j = true) ∧ Hid (Up w wr) ∧ Hid (w.heap.size ≤ wr.heap.size)) (fun _ _ i _ => rs.length - (intOf i).toNat)
      case atStart =>
        exact ⟨0, by omega, rfl, HK2, OwnSS.made _ _ HZQ.out, rfl, HUQ, Lib.hid (by have := HZQ.out; rw [World.size_alloc]; omega)⟩
      case round =>
        clear hq hu HU1 HUQ HZQ HK2
        obtain ⟨j, hj, rfl, hq, hr, hok, hu, hz⟩ := hrel
        have p0 := Chg.cell hu.out H0.out id
        have p1 := Chg.cell hu.out H1.out id
        obtain ⟨A5, c5, rfl, hl5, hc5, -⟩ := hr.out.ss.shape
        obtain ⟨A4, c4, rfl, hl4, hc4, -⟩ := hq.out.shape
        by_cases hlt : j < rs.length
        · obtain ⟨b, o, rfl, hc⟩ := (HR0.out.up hu.out).at_ hlt
          have hrow := hc j hlt
          obtain ⟨⟨d, cr, ks⟩, HRJ⟩ : ∃ r, Hid (rs[j] = r) := ⟨_, Lib.hid rfl⟩
          obtain ⟨st, HST⟩ : ∃ st, Hid (atS m rs j = st) := ⟨_, Lib.hid rfl⟩
          have HOK : Hid (okC m rs (j + 1) = okR st ⟨d, cr, ks⟩) := Lib.hid (by rw [okC_succ, hok.out, HST.out, rowI_eq hlt, HRJ.out]; rfl)
          have HNX : Hid (atS m rs (j + 1) = saL st ks) := Lib.hid (by unfold atS; rw [HST.out, rowI_eq hlt, HRJ.out])
          have HOU : Hid (outC m rs (j + 1) = outC m rs j ++ [saL st ks]) := Lib.hid (by rw [outC_succ, HST.out, rowI_eq hlt, HRJ.out])
          have HBAD : Hid (okR st ⟨d, cr, ks⟩ = false → okC m rs rs.length = false) := Lib.hid (fun h => okC_false hlt (by rw [HST.out, rowI_eq hlt, HRJ.out]; exact h))
          have HLN := Lib.hid (show (outC m rs j).length ≤ 1099511627 by rw [outC_length]; omega)
          rw [HRJ.out] at hrow
          rw [HST.out] at hq hl4 ⊢
          have HROW := Lib.hid hrow
          obtain ⟨A3, c3, f1, f2, f3, hi3, hl3, hc3⟩ := hrow.open_
          have HI3 := Lib.hid hi3
          clear hc hi3 f1 f2 hrow
          go_wp2_with fail
          with_reducible refine (l15Row_any _ _ _ _ _ HROW.out).mono ?_
          rintro e w3 ⟨rfl, rfl⟩
          cases hrb : rowB d cr ks with
          | false =>
            have HV := Lib.hid (HBAD.out (okR_1 hrb))
            go_wp2
            go_ret2
            rw [HV.out, resL_no HV.out]
            exact ⟨_, rfl, IntSS.nil _ _ 0 none (by omega), hu.out⟩
          | true =>
            have HRB := Lib.hid hrb
            clear hrb
            go_wp2_with fail
            with_reducible refine (sStacksAfter_any _ _ _ _ _ st ks hq.out HI3.out).mono ?_
            rintro e w4 ⟨v4, rfl, k4, g4⟩
            obtain ⟨A6, c6, rfl, hl6, hc6, -⟩ := k4.shape
            have K4 := Lib.hid k4
            have G4 := Lib.hid g4
            have p4 := Chg.cell g4 p1 id
            clear k4 g4 p0 p1 f3
            by_cases hs0 : saC st ks = 0
            rotate_left
            · have HV := Lib.hid (HBAD.out (okR_2 (r := ⟨d, cr, ks⟩) hs0))
              have t3 : (saC st ks == 0) = false := by simpa using hs0
              have t4 : (saC st ks != 0) = true := by simpa using hs0
              clear hs0
              go_wp2
              go_ret2
              rw [HV.out, resL_no HV.out]
              exact ⟨_, rfl, IntSS.nil _ _ 0 none (by omega), Chg.trans hu.out G4.out⟩
            have HS0 := Lib.hid hs0
            have t4 : (saC st ks != 0) = false := by simpa using hs0
            have HO3 := Lib.hid (okR_3 (r := ⟨d, cr, ks⟩) HRB.out HS0.out)
            have HFT := Lib.hid (saC_fits hs0).1
            have HSL := Lib.hid (saC_fits hs0).2
            have HL8 := Lib.hid (saC_le8 hs0)
            have HDR := Lib.hid (rowB_dir HRB.out).1
            have HQ := hq
            clear hs0
            rcases HDR.out with rfl | rfl
            · go_wp2_with fail
              with_reducible refine (l15ThinR_any _ _ _ _ _ _ st _ _ cr ks (HQ.out.up G4.out) (by rw [← HSL.out]; exact K4.out) (HROW.out.up G4.out) HFT.out HL8.out).mono ?_
              rintro e w5 ⟨rfl, g5⟩
              have G5 := Lib.hid (Chg.trans G4.out g5)
              have K5 := Lib.hid (K4.out.up g5)
              clear g5 p4
              cases htb : thinB 1 st ks with
              | false =>
                have HV := Lib.hid (HBAD.out (HO3.out.trans htb))
                clear htb
                go_wp2
                go_ret2
                rw [HV.out, resL_no HV.out]
                exact ⟨_, rfl, IntSS.nil _ _ 0 none (by omega), Chg.trans hu.out G5.out⟩
              | true =>
                have HV := Lib.hid (HOK.out.trans (HO3.out.trans htb))
                clear htb
                have UA := Lib.hid (G5.out.alloc (.cells #[.slice A6 (saL st ks).length c6] 26))
                have KA := Lib.hid ((K5.out.up ((Chg.refl Nowhere _).alloc (.cells #[.slice A6 (saL st ks).length c6] 26))).mono (T := New wr.heap.size (w5.alloc (.cells #[.slice A6 (saL st ks).length c6] 26)).heap.size) (fun b h1 hb => ⟨hb.1, h1⟩))
                go_wp2_with (first | (at_builtin; refine wp_append_ss2 rfl _ _ rfl w.heap.size wr _ (outC m rs j) rfl hr.out UA.out _ _ (saL st ks) rfl (cell_new _ _ _ _) KA.out HLN.out hz.out ?_; intro v9 w9 ho9 hg9; have HO9 := Lib.hid ho9; have HG9 := Lib.hid hg9; clear ho9 hg9))
                go_roundw
                case rel =>
                  have hj2 := (KA.out.keep HG9.out (fun b h1 h2 h9 => by have := h2.1; have := h9.2; omega)).mono (T := fun _ => True) (fun _ _ _ => trivial)
                  rw [← HOU.out] at HO9
                  exact ⟨j + 1, by omega, by go_num, Lib.hid (by rw [HNX.out]; exact hj2), HO9, HV, Lib.hid (Chg.new (Chg.trans hu.out UA.out) HG9.out (fun i hi h => by have h := h.1; omega)), Lib.hid (by have h1 := HG9.out.size; have h2 := UA.out.size; have h3 := hz.out; omega)⟩
                case measure => first | (simp [intOf]; done) | (simp [intOf]; omega)
            · go_wp2_with fail
              with_reducible refine (l15ThinL_any _ _ _ _ _ _ st _ _ cr ks (HQ.out.up G4.out) (by rw [← HSL.out]; exact K4.out) (HROW.out.up G4.out) HFT.out HL8.out).mono ?_
              rintro e w5 ⟨rfl, g5⟩
              have G5 := Lib.hid (Chg.trans G4.out g5)
              have K5 := Lib.hid (K4.out.up g5)
              clear g5 p4
              cases htb : thinB (-1) st ks with
              | false =>
                have HV := Lib.hid (HBAD.out (HO3.out.trans htb))
                clear htb
                go_wp2
                go_ret2
                rw [HV.out, resL_no HV.out]
                exact ⟨_, rfl, IntSS.nil _ _ 0 none (by omega), Chg.trans hu.out G5.out⟩
              | true =>
                have HV := Lib.hid (HOK.out.trans (HO3.out.trans htb))
                clear htb
                have UA := Lib.hid (G5.out.alloc (.cells #[.slice A6 (saL st ks).length c6] 26))
                have KA := Lib.hid ((K5.out.up ((Chg.refl Nowhere _).alloc (.cells #[.slice A6 (saL st ks).length c6] 26))).mono (T := New wr.heap.size (w5.alloc (.cells #[.slice A6 (saL st ks).length c6] 26)).heap.size) (fun b h1 hb => ⟨hb.1, h1⟩))
                go_wp2_with (first | (at_builtin; refine wp_append_ss2 rfl _ _ rfl w.heap.size wr _ (outC m rs j) rfl hr.out UA.out _ _ (saL st ks) rfl (cell_new _ _ _ _) KA.out HLN.out hz.out ?_; intro v9 w9 ho9 hg9; have HO9 := Lib.hid ho9; have HG9 := Lib.hid hg9; clear ho9 hg9))
                go_roundw
                case rel =>
                  have hj2 := (KA.out.keep HG9.out (fun b h1 h2 h9 => by have := h2.1; have := h9.2; omega)).mono (T := fun _ => True) (fun _ _ _ => trivial)
                  rw [← HOU.out] at HO9
                  exact ⟨j + 1, by omega, by go_num, Lib.hid (by rw [HNX.out]; exact hj2), HO9, HV, Lib.hid (Chg.new (Chg.trans hu.out UA.out) HG9.out (fun i hi h => by have h := h.1; omega)), Lib.hid (by have h1 := HG9.out.size; have h2 := UA.out.size; have h3 := hz.out; omega)⟩
                case measure => first | (simp [intOf]; done) | (simp [intOf]; omega)
        · obtain rfl : j = rs.length := by omega
          go_wp2
          go_ret2
          rw [hok.out, resL_yes hok.out]
          exact ⟨_, rfl, hr.out.ss, hu.out⟩
theorem l15Stacks_any (w : World) (S : Nat → Prop) (b o : Nat) (c : ChartM) (h : ChartAt w S b o c) :
    Calls Tryz.prog 60 #[.pointer (some ⟨b, o, none⟩)] w fun e w' => ∃ v', e = .returned (.tuple #[v', .bool (chartB c)]) ∧ IntSS w' (New w.heap.size w'.heap.size) v' (chartL c) ∧ Up w w' := by
  obtain ⟨A, k, h0, h1, hr, hlk, hkm, hI, hbl⟩ := h
  cases e1 : inB c.n 1 8 with
  | false =>
    have HV := Lib.hid (chart_no (c := c) (by unfold sizeB; rw [e1]; rfl))
    have HW := Lib.hid (fun w => by have := l00In_any c.n 1 8 w; rw [e1] at this; exact this)
    clear e1
    go_enter Tryz.func60, Tryz.ntmps60
    go_wp2_with fail
    refine (HW.out _).mono ?_
    rintro e w' ⟨rfl, rfl⟩
    go_wp2
    go_ret2
    rw [HV.out.1, HV.out.2]
    exact ⟨_, rfl, IntSS.nil _ _ 0 none (by omega), Chg.refl _ _⟩
  | true =>
    cases e2 : inB c.rs.length 1 8 with
    | false =>
      have HV := Lib.hid (chart_no (c := c) (by unfold sizeB; rw [e2, Bool.and_false]))
      have HW := Lib.hid (fun w => by have := l00In_any c.n 1 8 w; rw [e1] at this; exact this)
      have HW2 := Lib.hid (fun w => by have := l00In_any c.rs.length 1 8 w; rw [e2] at this; exact this)
      clear e1 e2
      go_enter Tryz.func60, Tryz.ntmps60
      go_wp2_with fail
      refine (HW.out _).mono ?_
      rintro e w' ⟨rfl, rfl⟩
      go_wp2_with fail
      refine (HW2.out _).mono ?_
      rintro e w' ⟨rfl, rfl⟩
      go_wp2
      go_ret2
      rw [HV.out.1, HV.out.2]
      exact ⟨_, rfl, IntSS.nil _ _ 0 none (by omega), Chg.refl _ _⟩
    | true =>
      have HSZ : sizeB c = true := by unfold sizeB; rw [e1, e2]; rfl
      have hn : 1 ≤ c.n ∧ c.n ≤ 8 := by unfold inB at e1; exact of_decide_eq_true e1
      have hl : 1 ≤ (c.rs.length : Int) ∧ (c.rs.length : Int) ≤ 8 := by unfold inB at e2; exact of_decide_eq_true e2
      have q1 : chartB c = okC c.n c.rs c.rs.length := by unfold chartB; rw [HSZ, Bool.true_and]
      have q2 : chartL c = resL c.n c.rs := by unfold chartL resL; rw [q1]
      rw [q1, q2]
      obtain ⟨m, hm⟩ : ∃ m : Nat, c.n = m := ⟨c.n.toNat, by omega⟩
      rw [hm] at hn h0 ⊢
      exact l15Stacks_yes w _ b o A k m c.rs h0 h1 hr hlk hkm (by omega) (by omega)
end Go.Proofs.YtnjfhpgmogopnaaGreat
end
section
set_option linter.unusedSimpArgs false
set_option linter.unusedVariables false
set_option maxRecDepth 100000
set_option maxHeartbeats 400000
namespace Go.Proofs.YtnjfhpgmogopnaaGreat
open Go.ChangeShapes Go.WideShapes Go.ChangeAt Go.RowKit
theorem ChartV.box {w : World} {S : Nat → Prop} {A : Option Addr} {k : Nat} {c : ChartM} (h : ChartV w S (.agg #[.int .i64 c.n, .slice A c.rs.length k]) c) : ChartAt (w.alloc (.cells #[.int .i64 c.n, .slice A c.rs.length k] 31)) S w.heap.size 0 c := by
  obtain ⟨s, h1, h2, h3⟩ := h
  obtain rfl : .slice A c.rs.length k = s := by simpa using h1
  obtain ⟨A', k', he, h4, h5, _⟩ := h2.shape
  obtain ⟨rfl, rfl⟩ : A = A' ∧ k = k' := by simpa using he
  exact ⟨A, k, cell_new _ _ _ _, cell_new _ _ _ _, h2.up ((Chg.refl _ _).alloc _), h4, h5, h3, by simp⟩
theorem ChartV.up {w w' : World} {S : Nat → Prop} {v : Value} {c : ChartM} (h : ChartV w S v c) (g : Up w w') : ChartV w' S v c :=
  let ⟨s, h1, h2, h3⟩ := h; ⟨s, h1, h2.up g, h3⟩
theorem ValidChart_any (w : World) (S : Nat → Prop) (v : Value) (c : ChartM) (h : ChartV w S v c) :
    Calls Tryz.prog 32 #[v] w fun e w' => e = .returned (.bool (chartB c)) ∧ Up w w' := by
  obtain ⟨A, k, rfl, -⟩ := h.shape
  have U0 := Lib.hid ((Chg.refl Nowhere w).alloc (.cells #[.int .i64 c.n, .slice A c.rs.length k] 31))
  have H := Lib.hid (h.up U0.out)
  clear h
  go_enter Tryz.func32, Tryz.ntmps32
  go_wp2_with fail
  with_reducible refine (allStacks_any _ _ _ c H.out).mono ?_
  rintro e w1 ⟨v1, rfl, k1, g1⟩
  have G1 := Lib.hid (Chg.trans U0.out g1)
  clear k1 g1
  go_wp2
  go_ret
  exact ⟨by simp, G1.out⟩
theorem l15Ok_any (w : World) (S : Nat → Prop) (b o : Nat) (c : ChartM) (h : ChartAt w S b o c) :
    Calls Tryz.prog 41 #[.pointer (some ⟨b, o, none⟩)] w fun e w' => e = .returned (.bool (chartB c)) ∧ Up w w' := by
  have H := Lib.hid h
  clear h
  go_enter Tryz.func41, Tryz.ntmps41
  go_wp2_with fail
  with_reducible refine (l15Stacks_any _ _ _ _ c H.out).mono ?_
  rintro e w1 ⟨v1, rfl, k1, g1⟩
  have G1 := Lib.hid g1
  clear k1 g1
  go_wp2
  go_ret
  exact ⟨by simp, G1.out⟩
theorem sValidChart_any (w : World) (S : Nat → Prop) (v : Value) (c : ChartM) (h : ChartV w S v c) :
    Calls Tryz.prog 29 #[v] w fun e w' => e = .returned (.bool (chartB c)) ∧ Up w w' := by
  obtain ⟨A, k, rfl, -⟩ := h.shape
  have U0 := Lib.hid ((Chg.refl Nowhere w).alloc (.cells #[.int .i64 c.n, .slice A c.rs.length k] 31))
  have H := Lib.hid h.box
  clear h
  go_enter Tryz.func29, Tryz.ntmps29
  go_wp2_with fail
  with_reducible refine (l15Ok_any _ _ _ _ c H.out).mono ?_
  rintro e w1 ⟨rfl, g1⟩
  have G1 := Lib.hid (Chg.trans U0.out g1)
  clear g1
  go_wp2
  go_ret
  exact ⟨by simp, G1.out⟩
/-- the widest of the stacks -/
def mxTo (n : Int) (xss : List (List Int)) : Nat → Int
  | 0 => n
  | j + 1 => if mxTo n xss j > ((xss.getD j []).length : Int) then mxTo n xss j else (xss.getD j []).length
theorem saL_len (st ks : List Int) : (saL st ks).length ≤ 8 := by
  by_cases h : saC st ks = 0
  · rw [(saC_fits h).2]; exact saC_le8 h
  · unfold saL; rw [if_neg h]; simp
theorem chartL_len (c : ChartM) : (∀ xs ∈ chartL c, xs.length ≤ 8) ∧ (chartL c).length ≤ c.rs.length := by
  unfold chartL
  split
  · refine ⟨fun xs hx => ?_, by rw [outC_length]; omega⟩
    unfold outC at hx
    obtain ⟨i, _, rfl⟩ := List.mem_map.1 hx
    exact saL_len _ _
  · simp
theorem mxTo_bd {n : Int} {xss : List (List Int)} (hn : 1 ≤ n ∧ n ≤ 8) (hx : ∀ xs ∈ xss, xs.length ≤ 8) : ∀ j, j ≤ xss.length → 1 ≤ mxTo n xss j ∧ mxTo n xss j ≤ 8
  | 0, _ => hn
  | j + 1, h => by
    have ih := mxTo_bd hn hx j (by omega)
    have h8 := hx _ (List.getElem_mem (show j < xss.length by omega))
    have e : xss.getD j [] = xss[j] := by simp [show j < xss.length by omega]
    unfold mxTo
    rw [e]
    split <;> omega
def widM (c : ChartM) : Int := 2 * mxTo c.n (chartL c) (chartL c).length + 1
theorem chart_size {c : ChartM} (h : chartB c = true) : (1 ≤ c.n ∧ c.n ≤ 8) ∧ c.rs.length ≤ 8 := by
  unfold chartB sizeB inB at h
  rw [Bool.and_eq_true, Bool.and_eq_true] at h
  have h1 := of_decide_eq_true h.1.1
  have h2 := of_decide_eq_true h.1.2
  exact ⟨h1, by omega⟩
def widV (c : ChartM) : Int := if chartB c then widM c else 0
def widC (c : ChartM) : Int := if chartB c then 0 else 1
theorem wid_no {c : ChartM} (h : chartB c = false) : widV c = 0 ∧ widC c = 1 := by unfold widV widC; rw [h]; exact ⟨rfl, rfl⟩
theorem wid_yes {c : ChartM} (h : chartB c = true) : widV c = widM c ∧ widC c = 0 := by unfold widV widC; rw [h]; exact ⟨rfl, rfl⟩
theorem l00Max_any (a b : Int) (w : World) : Calls Tryz.prog 170 #[.int .i64 a, .int .i64 b] w fun e w' => e = .returned (.int .i64 (if a > b then a else b)) ∧ w = w' := by
  by_cases h : a > b
  · rw [if_pos h]
    go_enter Tryz.func170, Tryz.ntmps170
    go_wp2
    go_ret
    exact ⟨rfl, rfl⟩
  · rw [if_neg h]
    go_enter Tryz.func170, Tryz.ntmps170
    go_wp2
    go_ret
    exact ⟨rfl, rfl⟩
end Go.Proofs.YtnjfhpgmogopnaaGreat
end
section
set_option linter.unusedSimpArgs false
set_option linter.unusedVariables false
set_option maxRecDepth 100000
set_option maxHeartbeats 400000
namespace Go.Proofs.YtnjfhpgmogopnaaGreat
open Go.ChangeShapes Go.WideShapes Go.ChangeAt Go.RowKit
theorem RowAt.val {w : World} {S : Nat → Prop} {b o : Nat} {r : RowM} (h : RowAt w S b o r) : ∃ A c, w.cell? ⟨b, o, none⟩ = some (.int .i64 r.d) ∧ w.cell? ⟨b, o + 1, none⟩ = some (.int .i64 r.c) ∧ w.cell? ⟨b, o + 2, none⟩ = some (.slice A r.xs.length c) ∧ RowV w S (.agg #[.int .i64 r.d, .int .i64 r.c, .slice A r.xs.length c]) r := by
  obtain ⟨A, c, h1, h2, h3, h4, h5, h6, h7, h8⟩ := h
  exact ⟨A, c, h1, h2, h3, _, rfl, h4, h7⟩
/-- the numbers in the first rows -/
def cntR (rs : List RowM) (j : Nat) : Nat := ((rs.take j).map fun r => r.xs.length).sum
theorem cntR_succ {rs : List RowM} {j : Nat} (h : j < rs.length) : cntR rs (j + 1) = cntR rs j + rs[j].xs.length := by
  unfold cntR
  rw [List.take_succ_eq_append_getElem h, List.map_append, List.sum_append]
  rfl
theorem cntR_le {rs : List RowM} {i j : Nat} (h : i ≤ j) : cntR rs i ≤ cntR rs j := by
  unfold cntR
  have e : (rs.take j) = (rs.take j).take i ++ (rs.take j).drop i := (List.take_append_drop i _).symm
  rw [List.take_take, Nat.min_eq_left h] at e
  rw [e]
  simp
def cntRs (rs : List RowM) : Nat := rs.length + cntR rs rs.length
theorem szRowS_ok (w : World) (S : Nat → Prop) (v : Value) (rs : List RowM) (k : Int) (hk : 0 ≤ k ∧ k ≤ 1048576) (hl : (cntRs rs : Int) ≤ k) (h : RowsV w S v rs) :
    Calls Tryz.prog 28 #[v, .int .i64 k] w fun e w' => e = .returned (.int .i64 (k - cntRs rs)) ∧ Up w w' := by
  obtain ⟨A, c, rfl, hlc, hcm, -⟩ := h.shape
  have H := Lib.hid h
  have HC : Hid (cntRs rs = rs.length + cntR rs rs.length) := Lib.hid rfl
  have HL := Lib.hid hl
  clear h hl
  have hd : decide (k - (rs.length : Int) < 0) = false := decide_eq_false (by have := HL.out; have := HC.out; omega)
  go_enter Tryz.func28, Tryz.ntmps28
  go_wp2
  go_loopw [1, 5] (fun q i wr => ∃ (j : Nat), j ≤ rs.length ∧ i = .int .i64 j ∧ q = .int .i64 (k - rs.length - cntR rs j) ∧ Hid (0 ≤ k - rs.length - cntR rs j) ∧ Hid (Up w wr)) (fun _ i _ => rs.length - (intOf i).toNat)
  case atStart => exact ⟨0, by omega, rfl, by simp [cntR], Lib.hid (by have := HL.out; have := HC.out; simp [cntR]; omega), Chg.refl _ _⟩
  case round =>
    obtain ⟨j, hj, rfl, rfl, hp, hu⟩ := hrel
    by_cases hlt : j < rs.length
    · obtain ⟨b, o, rfl, hc⟩ := (H.out.up hu.out).at_ hlt
      obtain ⟨A3, c3, f1, f2, f3, hv⟩ := (hc j hlt).val
      have HV := Lib.hid hv
      have HS := Lib.hid (cntR_succ hlt)
      have HM := Lib.hid (cntR_le (rs := rs) (show j + 1 ≤ rs.length by omega))
      obtain ⟨q, hq⟩ : ∃ q, q = k - (rs.length : Int) - cntR rs j := ⟨_, rfl⟩
      rw [← hq] at hp ⊢
      have HQ := Lib.hid hq
      have HB : Hid (0 ≤ q ∧ q ≤ 1048576) := Lib.hid (by have := hp.out; omega)
      clear hc hv hq
      have HX : Hid ((rs[j].xs.length : Int) ≤ q) := Lib.hid (by have h1 := HS.out; have h2 := HM.out; have h3 := HL.out; have h4 := HC.out; have h5 := HQ.out; omega)
      go_wp2_with fail
      with_reducible refine (szRow_ok _ _ _ _ _ HB.out HX.out HV.out).mono ?_
      rintro e w1 ⟨rfl, g1⟩
      have G1 := Lib.hid (Chg.trans hu.out g1)
      have hd2 : decide (q - (rs[j].xs.length : Int) < 0) = false := decide_eq_false (by have := HX.out; omega)
      clear f1 f2 f3 g1
      go_wp2
      go_roundw
      case rel => exact ⟨j + 1, by omega, by go_num, by rw [HS.out, HQ.out]; congr 1; omega, Lib.hid (by have h1 := HS.out; have h2 := HQ.out; have h3 := HX.out; omega), G1.out⟩
      case measure => first | (simp [intOf]; done) | (simp [intOf]; omega)
    · obtain rfl : j = rs.length := by omega
      go_wp2
      go_ret
      exact ⟨ret_int (by rw [HC.out]; omega), hu.out⟩
theorem szRowS_no (w : World) (S : Nat → Prop) (v : Value) (rs : List RowM) (k : Int) (hk : 0 ≤ k ∧ k ≤ 1048576) (hl : k < (cntRs rs : Int)) (h : RowsV w S v rs) :
    Calls Tryz.prog 28 #[v, .int .i64 k] w fun e w' => e = .returned (.int .i64 (-1)) ∧ Up w w' := by
  obtain ⟨A, c, rfl, hlc, hcm, -⟩ := h.shape
  have H := Lib.hid h
  have HC : Hid (cntRs rs = rs.length + cntR rs rs.length) := Lib.hid rfl
  have HL := Lib.hid hl
  clear h hl
  by_cases h0 : k < (rs.length : Int)
  · have hd : decide (k - (rs.length : Int) < 0) = true := decide_eq_true (by omega)
    go_enter Tryz.func28, Tryz.ntmps28
    go_wp2
    go_ret
    exact ⟨rfl, Chg.refl _ _⟩
  have hd : decide (k - (rs.length : Int) < 0) = false := decide_eq_false (by have := HL.out; have := HC.out; omega)
  go_enter Tryz.func28, Tryz.ntmps28
  go_wp2
  go_loopw [1, 5] (fun q i wr => ∃ (j : Nat), j ≤ rs.length ∧ i = .int .i64 j ∧ q = .int .i64 (k - rs.length - cntR rs j) ∧ Hid (0 ≤ k - rs.length - cntR rs j) ∧ Hid (Up w wr)) (fun _ i _ => rs.length - (intOf i).toNat)
  case atStart => exact ⟨0, by omega, rfl, by simp [cntR], Lib.hid (by have := HL.out; have := HC.out; simp [cntR]; omega), Chg.refl _ _⟩
  case round =>
    obtain ⟨j, hj, rfl, rfl, hp, hu⟩ := hrel
    by_cases hlt : j < rs.length
    · obtain ⟨b, o, rfl, hc⟩ := (H.out.up hu.out).at_ hlt
      obtain ⟨A3, c3, f1, f2, f3, hv⟩ := (hc j hlt).val
      have HV := Lib.hid hv
      have HS := Lib.hid (cntR_succ hlt)
      have HM := Lib.hid (cntR_le (rs := rs) (show j + 1 ≤ rs.length by omega))
      obtain ⟨q, hq⟩ : ∃ q, q = k - (rs.length : Int) - cntR rs j := ⟨_, rfl⟩
      rw [← hq] at hp ⊢
      have HQ := Lib.hid hq
      have HB : Hid (0 ≤ q ∧ q ≤ 1048576) := Lib.hid (by have := hp.out; omega)
      clear hc hv hq
      by_cases hx : (rs[j].xs.length : Int) ≤ q
      rotate_left
      · have HX : Hid (q < (rs[j].xs.length : Int)) := Lib.hid (by omega)
        clear hx
        go_wp2_with fail
        with_reducible refine (szRow_no _ _ _ _ _ HB.out HX.out HV.out).mono ?_
        rintro e w1 ⟨rfl, g1⟩
        have G1 := Lib.hid (Chg.trans hu.out g1)
        have hd2 : decide ((-1 : Int) < 0) = true := rfl
        clear f1 f2 f3 g1
        go_wp2
        go_ret
        exact ⟨by simp, G1.out⟩
      have HX := Lib.hid hx
      clear hx
      go_wp2_with fail
      with_reducible refine (szRow_ok _ _ _ _ _ HB.out HX.out HV.out).mono ?_
      rintro e w1 ⟨rfl, g1⟩
      have G1 := Lib.hid (Chg.trans hu.out g1)
      have hd2 : decide (q - (rs[j].xs.length : Int) < 0) = false := decide_eq_false (by have := HX.out; omega)
      clear f1 f2 f3 g1
      go_wp2
      go_roundw
      case rel => exact ⟨j + 1, by omega, by go_num, by rw [HS.out, HQ.out]; congr 1; omega, Lib.hid (by have h1 := HS.out; have h2 := HQ.out; have h3 := HX.out; omega), G1.out⟩
      case measure => first | (simp [intOf]; done) | (simp [intOf]; omega)
    · obtain rfl : j = rs.length := by omega
      exact absurd hp.out (by have := HL.out; have := HC.out; omega)
end Go.Proofs.YtnjfhpgmogopnaaGreat
end
section
set_option linter.unusedSimpArgs false
set_option linter.unusedVariables false
set_option maxRecDepth 100000
set_option maxHeartbeats 1000000
namespace Go.Proofs.YtnjfhpgmogopnaaGreat
open Go.ChangeShapes Go.WideShapes Go.ChangeAt Go.RowKit
theorem Copying.grow {w : World} {b m n j : Nat} {cs : List Value} (h : Copying w b m n j cs) (hl : cs.length = j * m) (vs : List Value) : Copying w b m n j (cs ++ vs) := fun t ht => by
  obtain ⟨h1, h2, h3⟩ := h t ht
  refine ⟨h1, h2, fun hlt => ?_⟩
  rw [h3 hlt, List.getElem?_append_left (by omega)]
theorem Chg.setCellsAt {S : Nat → Prop} {a : World} {b : Nat} (hb : S b) : ∀ (vs : List Value) (o : Nat) {w : World}, Chg S a w → Chg S a (w.setCells b o vs)
  | [], _, _, h => h
  | v :: r, o, _, h => Chg.setCellsAt hb r (o + 1) (h.setCell (.inl hb) v)
/-- the rows that were copied so far -/
def RowsIn (w : World) (g : Nat) (cs : List Value) (rs : List RowM) (j : Nat) : Prop :=
  ∀ i (hi : i < rs.length), i < j → ∃ A c, cs[i * 3]? = some (.int .i64 rs[i].d) ∧ cs[i * 3 + 1]? = some (.int .i64 rs[i].c) ∧ cs[i * 3 + 2]? = some (.slice A rs[i].xs.length c) ∧ Ints w (fun b => g < b) (.slice A rs[i].xs.length c) rs[i].xs ∧ rs[i].xs.length ≤ c ∧ c ≤ 9223372036854775807
theorem RowsIn.keep {S : Nat → Prop} {w w' : World} {g : Nat} {cs : List Value} {rs : List RowM} {j : Nat} (h : RowsIn w g cs rs j) (k : Chg S w w') (hS : ∀ b, b < w.heap.size → g < b → ¬ S b) : RowsIn w' g cs rs j := fun i hi hij =>
  let ⟨A, c, h1, h2, h3, h4, h5⟩ := h i hi hij; ⟨A, c, h1, h2, h3, h4.keep k hS, h5⟩
theorem RowsIn.next {w : World} {g : Nat} {cs : List Value} {rs : List RowM} {j : Nat} (h : RowsIn w g cs rs j) (hl : cs.length = j * 3) (hj : j < rs.length) {A : Option Addr} {c : Nat} (hi : Ints w (fun b => g < b) (.slice A rs[j].xs.length c) rs[j].xs) (h1 : rs[j].xs.length ≤ c) (h2 : c ≤ 9223372036854775807) :
    RowsIn w g (cs ++ [.int .i64 rs[j].d, .int .i64 rs[j].c, .slice A rs[j].xs.length c]) rs (j + 1) := fun i hi' hij => by
  by_cases he : i < j
  · obtain ⟨A', c', k1, k2, k3, k4⟩ := h i hi' he
    exact ⟨A', c', by rw [List.getElem?_append_left (by omega)]; exact k1, by rw [List.getElem?_append_left (by omega)]; exact k2, by rw [List.getElem?_append_left (by omega)]; exact k3, k4⟩
  · obtain rfl : i = j := by omega
    exact ⟨A, c, by rw [List.getElem?_append_right (by omega), hl]; simp, by rw [List.getElem?_append_right (by omega), hl]; simp, by rw [List.getElem?_append_right (by omega), hl]; simp, hi, h1, h2⟩
theorem infoRows : (Tryz.prog.info? 72).map (fun i => (i.zero, i.size, i.bytes)) = some (some (.agg #[.int .i64 0, .int .i64 0, .slice none 0 0]), 3, 40) := by kernel_rfl
theorem toRowS_any (w : World) (S : Nat → Prop) (v : Value) (rs : List RowM) (hb : cntRs rs ≤ 1048576) (h : RowsV w S v rs) :
    Calls Tryz.prog 31 #[v] w fun e w' => ∃ u, e = .returned u ∧ RowsV w' (New w.heap.size w'.heap.size) u rs ∧ Up w w' := by
  obtain ⟨A, c, rfl, hlc, hcm, -⟩ := h.shape
  have H := Lib.hid h
  have hbl : rs.length ≤ 1048576 := by unfold cntRs at hb; omega
  have HB := Lib.hid hb
  clear h hb
  obtain ⟨i0, hi, hz0, hz1, hz2⟩ := info_parts infoRows
  have hmk : ∀ u : World, (Instr.makeSlice 29 (.int .i64 (rs.length : Int)) (.int .i64 (rs.length : Int))).run Tryz.prog u =
      .ok (.slice (some ⟨u.heap.size, 0, none⟩) rs.length rs.length) (u.alloc (.cells (madeCells #[Value.int .i64 0, Value.int .i64 0, Value.slice none 0 0] (rs.length * 3)) 72)) := fun u => by
    have h := run_make (P := Tryz.prog) u 29 72 i0 (.agg #[.int .i64 0, .int .i64 0, .slice none 0 0]) Tryz.underlying29 hi hz0 .i64 .i64 (rs.length : Int) (rs.length : Int) (by omega) (Int.le_refl _) (by rw [hz2]; omega) (by omega)
    simpa [hz1, Value.cells] using h
  go_enter Tryz.func31, Tryz.ntmps31
  go_wp2
  have Hi := Lib.hid hmk
  clear hmk hi hz0 hz1 hz2
  go_loopw [4] (fun i wr => ∃ (j : Nat) (cs : List Value), j ≤ rs.length ∧ i = .int .i64 j ∧ Hid (Up w wr) ∧ w.heap.size < wr.heap.size ∧ Hid (cs.length = j * 3) ∧ Hid (Copying wr w.heap.size 3 rs.length j cs) ∧ Hid (RowsIn wr w.heap.size cs rs j)) (fun i _ => rs.length - (intOf i).toNat)
  case atStart => exact ⟨0, [], by omega, rfl, (Chg.refl _ _).alloc _, by simp, Lib.hid rfl, Copying.start _ _ _ _ _ _ (by simp [size_madeCells]), Lib.hid (fun i hi h => by omega)⟩
  case round =>
    obtain ⟨j, cs, hj, rfl, hg, hsz, hcl, hcs, hin⟩ := hrel
    by_cases hlt : j < rs.length
    · obtain ⟨b, o, rfl, hc⟩ := (H.out.up hg.out).at_ hlt
      obtain ⟨A3, c3, f1, f2, f3, hv⟩ := (hc j hlt).val
      have HV := Lib.hid hv
      have HBJ : Hid (cntInts rs[j].xs ≤ 8388608) := Lib.hid (by have h1 := cntR_succ hlt; have h2 := cntR_le (rs := rs) (show j + 1 ≤ rs.length by omega); have h3 := HB.out; unfold cntRs at h3; unfold cntInts; omega)
      clear hc hv
      go_wp2_with fail
      with_reducible refine (toRow_any _ _ _ rs[j] HBJ.out HV.out).mono ?_
      rintro e w2 ⟨u, rfl, k2, g2⟩
      obtain ⟨A4, c4, rfl, k4, hl4, hc4, -⟩ := k2.shape
      have hcs := Lib.hid (Copying.up hcs.out g2)
      have hin := Lib.hid (hin.out.keep g2 (fun _ _ _ h => h))
      have HG := Lib.hid (Chg.trans hg.out g2)
      have K4 := Lib.hid (k4.mono (T := fun b => w.heap.size < b) (fun b _ hb => by have := hb.1; omega))
      have hsz2 := Nat.lt_of_lt_of_le hsz g2.size
      clear g2 k2 k4 f1 f2 f3
      obtain ⟨u0, x0, q0⟩ := hcs.out.cell hlt 0 (by omega)
      obtain ⟨u1, x1, q1⟩ := hcs.out.cell hlt 1 (by omega)
      obtain ⟨u2, x2, q2⟩ := hcs.out.cell hlt 2 (by omega)
      rw [Nat.add_zero] at x0 q0
      go_wp2
      go_roundw
      case rel =>
        refine ⟨j + 1, cs ++ [.int .i64 rs[j].d, .int .i64 rs[j].c, .slice A4 rs[j].xs.length c4], by omega, by go_num, Chg.setCellsNew (Nat.le_refl _) [.int .i64 rs[j].d, .int .i64 rs[j].c, .slice A4 rs[j].xs.length c4] (j * 3) HG.out, ?_, Lib.hid (by rw [List.length_append, hcl.out]; simp; omega), Copying.next (Copying.grow hcs.out hcl.out _) hlt (vs := [.int .i64 rs[j].d, .int .i64 rs[j].c, .slice A4 rs[j].xs.length c4]) rfl (fun i hi => ?_), Lib.hid ((RowsIn.next hin.out hcl.out hlt K4.out hl4 hc4).keep (Chg.setCellsAt (S := fun b => b = w.heap.size) rfl [.int .i64 rs[j].d, .int .i64 rs[j].c, .slice A4 rs[j].xs.length c4] (j * 3) (Chg.refl _ _)) (fun b _ h1 h2 => by have h2 : b = w.heap.size := h2; omega))⟩
        · simpa [World.setCell] using hsz2
        · have e := hcl.out
          rw [List.getElem?_append_right (by omega), e, Nat.add_sub_cancel_left]
          exact List.getElem?_eq_getElem hi
      case measure => first | (simp [intOf]; done) | (simp [intOf]; omega)
    · obtain rfl : j = rs.length := by omega
      go_wp2
      go_ret
      refine ⟨_, rfl, ⟨_, _, rfl, Nat.le_refl _, by omega, fun hp => ⟨w.heap.size, 0, rfl, ⟨Nat.le_refl _, hsz⟩, fun i hi => ?_⟩, by simp⟩, hg.out⟩
      obtain ⟨b, o, -, hc⟩ := H.out.at_ hi
      obtain ⟨-, -, -, -, -, -, -, -, h7, -⟩ := hc i hi
      obtain ⟨A', c', k1, k2, k3, k4, k5, k6⟩ := hin.out i hi hi
      have e0 := ((hcs.out (i * 3) (by omega)).2.2 (by omega)).trans k1
      have e1 := ((hcs.out (i * 3 + 1) (by omega)).2.2 (by omega)).trans k2
      have e2 := ((hcs.out (i * 3 + 2) (by omega)).2.2 (by omega)).trans k3
      rw [Nat.zero_add]
      exact ⟨A', c', e0, e1, e2, k4.mono (fun b h1 h2 => ⟨by omega, h1⟩), k5, k6, h7, hsz⟩
end Go.Proofs.YtnjfhpgmogopnaaGreat
end
section
set_option linter.unusedSimpArgs false
set_option linter.unusedVariables false
set_option maxRecDepth 100000
set_option maxHeartbeats 1000000
namespace Go.Proofs.YtnjfhpgmogopnaaGreat
open Go.ChangeShapes Go.WideShapes Go.ChangeAt Go.RowKit
theorem openChart {w : World} {S : Nat → Prop} {v : Value} {b : ChartM} (h : ChartV w S v b) : ∃ A c, v = .agg #[.int .i64 b.n, .slice A b.rs.length c] ∧ RowsV w S (.slice A b.rs.length c) b.rs ∧ b.rs.length ≤ c ∧ c ≤ 9223372036854775807 := by
  obtain ⟨s, h1, h2, h3⟩ := h
  obtain ⟨A, c, rfl, h5, h6, h7⟩ := h2.shape
  exact ⟨A, c, h1, h2, h5, h6⟩
theorem szChart_ok (w : World) (S : Nat → Prop) (v : Value) (b : ChartM) (k : Int) (hk : 0 ≤ k ∧ k ≤ 1048576) (hl : (cntRs b.rs : Int) ≤ k) (h : ChartV w S v b) :
    Calls Tryz.prog 7 #[v, .int .i64 k] w fun e w' => e = .returned (.int .i64 (k - cntRs b.rs)) ∧ Up w w' := by
  obtain ⟨A, c, rfl, h4, h5, h6⟩ := openChart h
  have U0 := Lib.hid ((Chg.refl Nowhere w).alloc (.cells #[.int .i64 b.n, .slice A b.rs.length c] 24))
  have H := Lib.hid (h4.up U0.out)
  have q1 := (show (w.alloc (.cells #[.int .i64 b.n, .slice A b.rs.length c] 24)).cell? ⟨w.heap.size, 1, none⟩ = some (.slice A b.rs.length c) from cell_new _ _ _ _)
  have hd : decide (k - (cntRs b.rs : Int) < 0) = false := decide_eq_false (by omega)
  clear h h4
  go_enter Tryz.func7, Tryz.ntmps7
  go_wp2_with fail
  with_reducible refine (szRowS_ok _ S _ b.rs k hk hl H.out).mono ?_
  rintro e w1 ⟨rfl, g1⟩
  have G1 := Lib.hid (Chg.trans U0.out g1)
  clear g1 q1
  go_wp2
  go_ret
  exact ⟨rfl, G1.out⟩
theorem szChart_no (w : World) (S : Nat → Prop) (v : Value) (b : ChartM) (k : Int) (hk : 0 ≤ k ∧ k ≤ 1048576) (hl : k < (cntRs b.rs : Int)) (h : ChartV w S v b) :
    Calls Tryz.prog 7 #[v, .int .i64 k] w fun e w' => e = .returned (.int .i64 (-1)) ∧ Up w w' := by
  obtain ⟨A, c, rfl, h4, h5, h6⟩ := openChart h
  have U0 := Lib.hid ((Chg.refl Nowhere w).alloc (.cells #[.int .i64 b.n, .slice A b.rs.length c] 24))
  have H := Lib.hid (h4.up U0.out)
  have q1 := (show (w.alloc (.cells #[.int .i64 b.n, .slice A b.rs.length c] 24)).cell? ⟨w.heap.size, 1, none⟩ = some (.slice A b.rs.length c) from cell_new _ _ _ _)
  have hd : decide ((-1 : Int) < 0) = true := rfl
  clear h h4
  go_enter Tryz.func7, Tryz.ntmps7
  go_wp2_with fail
  with_reducible refine (szRowS_no _ S _ b.rs k hk hl H.out).mono ?_
  rintro e w1 ⟨rfl, g1⟩
  have G1 := Lib.hid (Chg.trans U0.out g1)
  clear g1 q1
  go_wp2
  go_ret
  exact ⟨rfl, G1.out⟩
theorem toChart_any (w : World) (S : Nat → Prop) (v : Value) (b : ChartM) (hb : cntRs b.rs ≤ 1048576) (h : ChartV w S v b) :
    Calls Tryz.prog 9 #[v] w fun e w' => ∃ u, e = .returned u ∧ ChartV w' (New w.heap.size w'.heap.size) u b ∧ Up w w' := by
  obtain ⟨A, c, rfl, h4, h5, h6⟩ := openChart h
  have I0 := Lib.hid h4
  have U0 := Lib.hid (Chg.refl Nowhere w)
  obtain ⟨_, _, _, hi1⟩ := h
  have HI1 := Lib.hid hi1
  clear h4 hi1
  have U_1 := Lib.hid (Chg.trans U0.out ((Chg.refl Nowhere w).alloc (.cells #[.int .i64 b.n, .slice A b.rs.length c] 24)))
  clear U0
  have I_2 := Lib.hid (I0.out.up ((Chg.refl Nowhere w).alloc (.cells #[.int .i64 b.n, .slice A b.rs.length c] 24)))
  clear I0
  have q0_3 := (show (w.alloc (.cells #[.int .i64 b.n, .slice A b.rs.length c] 24)).cell? ⟨w.heap.size, 0, none⟩ = some (.int .i64 b.n) from cell_new _ _ _ _)
  have q1_4 := (show (w.alloc (.cells #[.int .i64 b.n, .slice A b.rs.length c] 24)).cell? ⟨w.heap.size, 1, none⟩ = some (.slice A b.rs.length c) from cell_new _ _ _ _)
  have hbx5 : w.heap.size < (w.alloc (.cells #[.int .i64 b.n, .slice A b.rs.length c] 24)).heap.size := by simp
  go_enter Tryz.func9, Tryz.ntmps9
  go_wp2_with fail
  refine (toRowS_any _ S _ b.rs hb (I_2.out.up (by repeat (first | exact Chg.refl _ _ | apply Chg.drew | apply Chg.drewN | refine Chg.alloc ?_ _)))).mono ?_
  rintro e w6 ⟨v6, rfl, k1, g1⟩
  obtain ⟨A6, c6, rfl, hl6, hc6, -⟩ := k1.shape
  have K1 := Lib.hid k1
  clear k1
  have G1 := Lib.hid g1
  have hz6 := G1.out.size
  clear g1
  have U_7 := Lib.hid (Chg.trans U_1.out (Chg.trans (by repeat (first | exact Chg.refl _ _ | apply Chg.drew | apply Chg.drewN | refine Chg.alloc ?_ _)) G1.out))
  clear U_1
  have I_8 := Lib.hid (I_2.out.up (Chg.trans (by repeat (first | exact Chg.refl _ _ | apply Chg.drew | apply Chg.drewN | refine Chg.alloc ?_ _)) G1.out))
  clear I_2
  have q0_9 := Chg.cell (Chg.trans (by repeat (first | exact Chg.refl _ _ | apply Chg.drew | apply Chg.drewN | refine Chg.alloc ?_ _)) G1.out) q0_3 id
  clear q0_3
  have q1_10 := Chg.cell (Chg.trans (by repeat (first | exact Chg.refl _ _ | apply Chg.drew | apply Chg.drewN | refine Chg.alloc ?_ _)) G1.out) q1_4 id
  clear q1_4
  obtain ⟨x0_11c, x0_11f⟩ := (show CellF w6 ⟨w.heap.size + 1 + 1, 0, none⟩ (.int .i64 b.n) from CellF.up G1.out (by repeat (first | ((refine cellF_at ?_ rfl); (simp; done)) | refine CellF.up ((Chg.refl _ _).alloc _) ?_)))
  obtain ⟨x1_12c, x1_12f⟩ := (show CellF w6 ⟨w.heap.size + 1 + 1, 1, none⟩ (.slice none 0 0) from CellF.up G1.out (by repeat (first | ((refine cellF_at ?_ rfl); (simp; done)) | refine CellF.up ((Chg.refl _ _).alloc _) ?_)))
  obtain ⟨y0_13c, y0_13f⟩ := (show CellF w6 ⟨w.heap.size + 1, 0, none⟩ (.int .i64 0) from CellF.up G1.out (by repeat (first | ((refine cellF_at ?_ rfl); (simp; done)) | refine CellF.up ((Chg.refl _ _).alloc _) ?_)))
  obtain ⟨y1_14c, y1_14f⟩ := (show CellF w6 ⟨w.heap.size + 1, 1, none⟩ (.slice none 0 0) from CellF.up G1.out (by repeat (first | ((refine cellF_at ?_ rfl); (simp; done)) | refine CellF.up ((Chg.refl _ _).alloc _) ?_)))
  clear G1
  have K_15 := Lib.hid (K1.out)
  clear K1
  go_wp2
  have HC := Lib.hid (show Chg (fun b => b = w.heap.size + 1 ∨ b = w.heap.size + 1 + 1) w6 _ from Chg.setCell (Chg.setCell (Chg.setCell (Chg.refl _ _) (p := ⟨w.heap.size + 1 + 1, 1, none⟩) (.inl (.inr rfl)) (.slice A6 b.rs.length c6)) (p := ⟨w.heap.size + 1, 0, none⟩) (.inl (.inl rfl)) (.int .i64 b.n)) (p := ⟨w.heap.size + 1, 1, none⟩) (.inl (.inl rfl)) (.slice A6 b.rs.length c6))
  exact bodyPost_ret (v := .agg #[.int .i64 b.n, .slice A6 b.rs.length c6]) (by simp [results, Tryz.results9, go_sem, y0_13c, y1_14c]) rfl ⟨_, rfl, ⟨_, rfl, (K_15.out.keep HC.out (fun b _ hb hd => by have := hb.1; simp at this; omega)).mono (fun b _ hb => ⟨by have := hb.1; simp at this; omega, Nat.lt_of_lt_of_le hb.2 HC.out.size⟩), HI1.out⟩, Chg.new U_7.out HC.out (fun i hi hd => by omega)⟩
end Go.Proofs.YtnjfhpgmogopnaaGreat
end
section
set_option linter.unusedSimpArgs false
set_option linter.unusedVariables false
set_option maxRecDepth 100000
set_option maxHeartbeats 400000
namespace Go.Proofs.YtnjfhpgmogopnaaGreat
open Go.ChangeShapes Go.WideShapes Go.ChangeAt Go.RowKit
theorem eqRowS_same (w : World) (S T : Nat → Prop) (v u : Value) (rs : List RowM) (h : RowsV w S v rs) (h2 : RowsV w T u rs) :
    Calls Tryz.prog 34 #[v, u] w fun e w' => e = .returned (.bool true) ∧ Up w w' := by
  obtain ⟨A, c, rfl, hlc, hcm, -⟩ := h.shape
  obtain ⟨A2, c2, rfl, hlc2, hcm2, -⟩ := h2.shape
  have H := Lib.hid h
  have H2 := Lib.hid h2
  clear h h2
  go_enter Tryz.func34, Tryz.ntmps34
  go_wp2
  go_loopw [5] (fun i wr => ∃ (j : Nat), j ≤ rs.length ∧ i = .int .i64 j ∧ Hid (Up w wr)) (fun i _ => rs.length - (intOf i).toNat)
  case atStart => exact ⟨0, by omega, rfl, Chg.refl _ _⟩
  case round =>
    obtain ⟨j, hj, rfl, hu⟩ := hrel
    by_cases hlt : j < rs.length
    · obtain ⟨b, o, rfl, hc⟩ := (H.out.up hu.out).at_ hlt
      obtain ⟨b2, o2, rfl, hc2⟩ := (H2.out.up hu.out).at_ hlt
      obtain ⟨A3, c3, f1, f2, f3, hv⟩ := (hc j hlt).val
      obtain ⟨A4, c4, e1, e2, e3, hv2⟩ := (hc2 j hlt).val
      have HV := Lib.hid hv
      have HV2 := Lib.hid hv2
      clear hc hv hc2 hv2
      go_wp2
      have qf1 := up_cell f1
      have qf2 := up_cell f2
      have qf3 := up_cell f3
      have qe1 := up_cell e1
      have qe2 := up_cell e2
      have qe3 := up_cell e3
      clear f1 f2 f3 e1 e2 e3
      refine wp_region_up (by kernel_rfl) (by kernel_rfl) ?_
      repeat (go_big_quiet_step (first | (go_at_call 56; with_reducible exact calls_up (eqRow_same _ _ _ _ _ _ (HV.out.up (UpOf.up _)) (HV2.out.up (UpOf.up _))))))
      refine wpQuiet_nil ?_
      rintro _ ⟨u, rfl⟩
      go_wp2
      go_roundw
      case rel => exact ⟨j + 1, by omega, by go_num, Lib.hid (Chg.trans hu.out u.up)⟩
      case measure => first | (simp [intOf]; done) | (simp [intOf]; omega)
    · obtain rfl : j = rs.length := by omega
      go_wp2
      go_ret
      exact ⟨rfl, hu.out⟩
theorem eqChart_same (w : World) (S T : Nat → Prop) (v u : Value) (b : ChartM) (h : ChartV w S v b) (h2 : ChartV w T u b) :
    Calls Tryz.prog 12 #[v, u] w fun e w' => e = .returned (.bool true) ∧ Up w w' := by
  obtain ⟨A, c, rfl, h4, h5, h6⟩ := openChart h
  obtain ⟨A2, c2, rfl, h24, h25, h26⟩ := openChart h2
  have I0 := Lib.hid h4
  have J0 := Lib.hid h24
  have U0 := Lib.hid (Chg.refl Nowhere w)
  clear h4 h24 h h2
  have e1 : (b.n != b.n) = false := by simp
  have U_1 := Lib.hid (Chg.trans U0.out ((Chg.refl Nowhere w).alloc (.cells #[.int .i64 b.n, .slice A b.rs.length c] 31)))
  clear U0
  have I_2 := Lib.hid (I0.out.up ((Chg.refl Nowhere w).alloc (.cells #[.int .i64 b.n, .slice A b.rs.length c] 31)))
  clear I0
  have J_3 := Lib.hid (J0.out.up ((Chg.refl Nowhere w).alloc (.cells #[.int .i64 b.n, .slice A b.rs.length c] 31)))
  clear J0
  have q0_4 := (show (w.alloc (.cells #[.int .i64 b.n, .slice A b.rs.length c] 31)).cell? ⟨w.heap.size, 0, none⟩ = some (.int .i64 b.n) from cell_new _ _ _ _)
  have q1_5 := (show (w.alloc (.cells #[.int .i64 b.n, .slice A b.rs.length c] 31)).cell? ⟨w.heap.size, 1, none⟩ = some (.slice A b.rs.length c) from cell_new _ _ _ _)
  have hbx6 : w.heap.size < (w.alloc (.cells #[.int .i64 b.n, .slice A b.rs.length c] 31)).heap.size := by simp
  have U_7 := Lib.hid (Chg.trans U_1.out ((Chg.refl Nowhere (w.alloc (.cells #[.int .i64 b.n, .slice A b.rs.length c] 31))).alloc (.cells #[.int .i64 b.n, .slice A2 b.rs.length c2] 31)))
  clear U_1
  have I_8 := Lib.hid (I_2.out.up ((Chg.refl Nowhere (w.alloc (.cells #[.int .i64 b.n, .slice A b.rs.length c] 31))).alloc (.cells #[.int .i64 b.n, .slice A2 b.rs.length c2] 31)))
  clear I_2
  have J_9 := Lib.hid (J_3.out.up ((Chg.refl Nowhere (w.alloc (.cells #[.int .i64 b.n, .slice A b.rs.length c] 31))).alloc (.cells #[.int .i64 b.n, .slice A2 b.rs.length c2] 31)))
  clear J_3
  have q0_10 := Chg.cell ((Chg.refl Nowhere (w.alloc (.cells #[.int .i64 b.n, .slice A b.rs.length c] 31))).alloc (.cells #[.int .i64 b.n, .slice A2 b.rs.length c2] 31)) q0_4 id
  clear q0_4
  have q1_11 := Chg.cell ((Chg.refl Nowhere (w.alloc (.cells #[.int .i64 b.n, .slice A b.rs.length c] 31))).alloc (.cells #[.int .i64 b.n, .slice A2 b.rs.length c2] 31)) q1_5 id
  clear q1_5
  have p0_12 := (show ((w.alloc (.cells #[.int .i64 b.n, .slice A b.rs.length c] 31)).alloc (.cells #[.int .i64 b.n, .slice A2 b.rs.length c2] 31)).cell? ⟨(w.alloc (.cells #[.int .i64 b.n, .slice A b.rs.length c] 31)).heap.size, 0, none⟩ = some (.int .i64 b.n) from cell_new _ _ _ _)
  have p1_13 := (show ((w.alloc (.cells #[.int .i64 b.n, .slice A b.rs.length c] 31)).alloc (.cells #[.int .i64 b.n, .slice A2 b.rs.length c2] 31)).cell? ⟨(w.alloc (.cells #[.int .i64 b.n, .slice A b.rs.length c] 31)).heap.size, 1, none⟩ = some (.slice A2 b.rs.length c2) from cell_new _ _ _ _)
  have hbx14 : (w.alloc (.cells #[.int .i64 b.n, .slice A b.rs.length c] 31)).heap.size < ((w.alloc (.cells #[.int .i64 b.n, .slice A b.rs.length c] 31)).alloc (.cells #[.int .i64 b.n, .slice A2 b.rs.length c2] 31)).heap.size := by simp
  go_enter Tryz.func12, Tryz.ntmps12
  go_wp2_with fail
  refine (eqRowS_same _ S T _ _ b.rs (I_8.out.up (by repeat (first | exact Chg.refl _ _ | apply Chg.drew | apply Chg.drewN | refine Chg.alloc ?_ _))) (J_9.out.up (by repeat (first | exact Chg.refl _ _ | apply Chg.drew | apply Chg.drewN | refine Chg.alloc ?_ _)))).mono ?_
  rintro e w15 ⟨rfl, g1⟩
  have G1 := Lib.hid g1
  have hz15 := G1.out.size
  clear g1
  have U_16 := Lib.hid (Chg.trans U_7.out (Chg.trans (by repeat (first | exact Chg.refl _ _ | apply Chg.drew | apply Chg.drewN | refine Chg.alloc ?_ _)) G1.out))
  clear U_7
  have I_17 := Lib.hid (I_8.out.up (Chg.trans (by repeat (first | exact Chg.refl _ _ | apply Chg.drew | apply Chg.drewN | refine Chg.alloc ?_ _)) G1.out))
  clear I_8
  have J_18 := Lib.hid (J_9.out.up (Chg.trans (by repeat (first | exact Chg.refl _ _ | apply Chg.drew | apply Chg.drewN | refine Chg.alloc ?_ _)) G1.out))
  clear J_9
  have q0_19 := Chg.cell (Chg.trans (by repeat (first | exact Chg.refl _ _ | apply Chg.drew | apply Chg.drewN | refine Chg.alloc ?_ _)) G1.out) q0_10 id
  clear q0_10
  have q1_20 := Chg.cell (Chg.trans (by repeat (first | exact Chg.refl _ _ | apply Chg.drew | apply Chg.drewN | refine Chg.alloc ?_ _)) G1.out) q1_11 id
  clear q1_11
  have p0_21 := Chg.cell (Chg.trans (by repeat (first | exact Chg.refl _ _ | apply Chg.drew | apply Chg.drewN | refine Chg.alloc ?_ _)) G1.out) p0_12 id
  clear p0_12
  have p1_22 := Chg.cell (Chg.trans (by repeat (first | exact Chg.refl _ _ | apply Chg.drew | apply Chg.drewN | refine Chg.alloc ?_ _)) G1.out) p1_13 id
  clear p1_13
  clear G1
  go_wp2
  go_ret
  exact ⟨rfl, (Chg.trans U_16.out (by repeat (first | exact Chg.refl _ _ | apply Chg.drew | apply Chg.drewN | refine Chg.alloc ?_ _)))⟩
end Go.Proofs.YtnjfhpgmogopnaaGreat
end
