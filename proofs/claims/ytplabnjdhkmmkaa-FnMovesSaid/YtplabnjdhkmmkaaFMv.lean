/- FnMoves: the law's walk. No condition. -/
import Derived.Test.YtplabnjdhkmmkaaPF10
import Derived.Test.YtplabnjdhkmmkaaPF17
import Derived.Test.YtplabnjdhkmmkaaPF21
set_option linter.unusedSimpArgs false
set_option linter.unusedVariables false
set_option maxRecDepth 100000
set_option maxHeartbeats 2000000
namespace Go.Proofs.Ytplabnjdhkmmkaa
open Go.ChangeShapes Go.WideShapes Go.ChangeAt Go.RowKit
theorem plc_code {xs : List Int} (h : placesB false xs = true) : plcCode xs 1 = 0 := if_pos ⟨h, by omega, by omega⟩
theorem plc_out {xs : List Int} (h : placesB false xs = true) : plcOut xs 1 = knitM xs 1 := if_pos ⟨h, by omega, by omega⟩
theorem cols_out {xs ys : List Int} (h : planCode xs ys = 0) : colsOut xs ys = colsM (planM xs ys) := by unfold colsOut planOut; rw [if_pos h]
theorem plan_out {xs ys : List Int} (h : planCode xs ys = 0) : planOut xs ys = planM xs ys := if_pos h
theorem sum_pos {f : MoveM → Int} : ∀ {ms : List MoveM}, (∀ m ∈ ms, 0 ≤ f m) → 0 ≤ (ms.map f).sum
  | [], _ => by simp
  | m :: ms, h => by
    have h1 := h m (by simp)
    have h2 := sum_pos (ms := ms) fun x hx => h x (by simp [hx])
    simp only [List.map_cons, List.sum_cons]
    omega
theorem all_moves {ms : List MoveM} (h : ∀ m ∈ ms, isMoveP m.fr m.to) : 0 ≤ lengthMv ms := by
  have h1 : allMv ms ms.length := fun i hi _ => h _ (List.getElem_mem hi)
  unfold lengthMv
  rw [if_pos h1]
  unfold lenMv
  exact sum_pos fun m hm => (absMv_in (h m hm).2.2.2).1
theorem fnMoves_any (w : World) (A : Option Addr) (cp : Nat) (bs : List Nat) (h : Byts w A cp bs) :
    Calls Try.prog 3 #[.slice A bs.length cp] w fun e w' => e = .returned (.bool true) ∧ Up w w' := by
  have e0 : decide (1048576 < (bs.length : Int)) = false := decide_eq_false (by have := h.1; omega)
  have HB := Lib.hid h
  clear h
  go_enter Try.func3, Try.ntmps3
  go_wp2_with fail
  refine (E8Moves_any _ A cp bs (HB.out.up (by repeat (first | exact Chg.refl _ _ | apply Chg.drew | apply Chg.drewN | refine Chg.alloc ?_ _)))).mono ?_
  rintro e w1 ⟨v, u, xs, ys, rfl, k1, k2, hp, g1⟩
  have K1 := Lib.hid k1
  have K2 := Lib.hid k2
  have G1 := Lib.hid g1
  have HP := Lib.hid hp
  obtain ⟨Av, cv, rfl, -⟩ := k1.shape
  obtain ⟨Au, cu, rfl, -⟩ := k2.shape
  have HPC := Lib.hid (plc_code (plan_ok hp).1)
  have HPO := Lib.hid (plc_out (plan_ok hp).1)
  have HCO := Lib.hid (cols_out hp)
  have HPL := Lib.hid (plan_out hp)
  have HX8 := Lib.hid (places_rise (plan_ok hp).1).1
  have HY8 := Lib.hid (show ys.length ≤ 8 ∧ xs.length = ys.length from ⟨(places_rise (plan_ok hp).2.1).1, (plan_ok hp).2.2⟩)
  have HRU := Lib.hid (plan_runs hp)
  have HML := Lib.hid (plan_len (planCode_zero' hp))
  have HMA := Lib.hid (mvOps_ok hp)
  have HMN := Lib.hid (mvOps_len hp)
  have HALL := Lib.hid (all_run hp)
  have HMO := Lib.hid (show mvOps xs ys = knitM xs 1 ++ colsM (planM xs ys) from rfl)
  obtain ⟨os, hos⟩ : ∃ os, os = mvOps xs ys := ⟨_, rfl⟩
  rw [← hos] at HMA HMN HALL HMO
  obtain ⟨ms, hms⟩ : ∃ ms, ms = planM xs ys := ⟨_, rfl⟩
  rw [← hms] at HCO HPL HRU HML HMO
  clear k1 k2 g1 hp hos hms
  go_wp2_with fail
  refine (PlaceColumns_any _ _ _ xs (K1.out.up (by repeat (first | exact Chg.refl _ _ | apply Chg.drew | apply Chg.drewN | refine Chg.alloc ?_ _))) 1).mono ?_
  rintro e w2 ⟨v2, rfl, k3, g2⟩
  rw [HPO.out] at k3
  rw [HPC.out]
  have K3 := Lib.hid k3
  have G2 := Lib.hid (show Up w1 w2 from Chg.trans (by repeat (first | exact Chg.refl _ _ | apply Chg.drew | apply Chg.drewN | refine Chg.alloc ?_ _)) g2)
  obtain ⟨A2, c2, rfl, -⟩ := k3.1.shape
  clear k3 g2
  go_wp2_with fail
  refine (MoveColumns_any _ _ _ xs (K1.out.up (Chg.trans G2.out (by repeat (first | exact Chg.refl _ _ | apply Chg.drew | apply Chg.drewN | refine Chg.alloc ?_ _)))) _ _ ys (K2.out.up (Chg.trans G2.out (by repeat (first | exact Chg.refl _ _ | apply Chg.drew | apply Chg.drewN | refine Chg.alloc ?_ _))))).mono ?_
  rintro e w3 ⟨v3, rfl, k4, g3⟩
  rw [HCO.out] at k4
  rw [HP.out]
  have K4 := Lib.hid k4
  have G3 := Lib.hid (show Up w2 w3 from Chg.trans (by repeat (first | exact Chg.refl _ _ | apply Chg.drew | apply Chg.drewN | refine Chg.alloc ?_ _)) g3)
  obtain ⟨A3, c3, rfl, -⟩ := k4.1.shape
  clear k4 g3
  go_wp2_with fail
  refine (PlanMoves_any _ _ _ _ _ xs ys (K1.out.up (Chg.trans G2.out (Chg.trans G3.out (by repeat (first | exact Chg.refl _ _ | apply Chg.drew | apply Chg.drewN | refine Chg.alloc ?_ _))))) (K2.out.up (Chg.trans G2.out (Chg.trans G3.out (by repeat (first | exact Chg.refl _ _ | apply Chg.drew | apply Chg.drewN | refine Chg.alloc ?_ _)))))).mono ?_
  rintro e w4 ⟨v4, rfl, k5, g4⟩
  rw [HPL.out] at k5
  rw [HP.out]
  have K5 := Lib.hid k5
  have G4 := Lib.hid (show Up w3 w4 from Chg.trans (by repeat (first | exact Chg.refl _ _ | apply Chg.drew | apply Chg.drewN | refine Chg.alloc ?_ _)) g4)
  obtain ⟨A4, c4, rfl, -⟩ := k5.shape
  clear k5 g4
  have ezl : (((colsM ms).length : Int) != 4 * (ms.length : Int)) = false := by rw [colsM_len]; simp
  have hml := HML.out
  have G14 := Lib.hid (show Up w1 w4 from Chg.trans G2.out (Chg.trans G3.out G4.out))
  obtain ⟨lo, hlo⟩ : ∃ n, n = (colsM ms).length := ⟨_, rfl⟩
  rw [← hlo] at ezl ⊢
  have HLO := Lib.hid hlo
  clear hlo
  obtain ⟨lk, hlk⟩ : ∃ n, n = (knitM xs 1).length := ⟨_, rfl⟩
  rw [← hlk]
  have HLK := Lib.hid hlk
  clear hlk
  have HKL := Lib.hid (show (knitM xs 1).length ≤ 9 by have h9 := HX8.out; simp [knitM]; omega)
  go_wp2_with (first | (at_builtin; refine wp_append_ops rfl _ _ rfl w4.heap.size _ [] rfl (OwnO.made w4 w4.heap.size (Nat.le_refl _)) (New w1.heap.size w2.heap.size) _ (knitM xs 1) rfl (by rw [HLK.out]; exact K3.out.up (Chg.trans G3.out (Chg.trans G4.out (by repeat (first | exact Chg.refl _ _ | apply Chg.drew | apply Chg.drewN | refine Chg.alloc ?_ _))))) (by have h9 := HLK.out; have h8 := HKL.out; simp; omega) (by simp [World.size_alloc]) ?_; intro v5 w5 h1 _ h3; have HO5 := Lib.hid (show OwnO w5 w4.heap.size v5 (knitM xs 1) by simpa using h1); have G5 := Lib.hid (show Up w4 w5 from Chg.new ((Chg.refl Nowhere w4).alloc _) h3 (fun i hi e => by omega)); clear h1 h3) | (at_builtin; refine wp_append_ops rfl _ _ rfl w4.heap.size _ (knitM xs 1) rfl HO5.out (New w2.heap.size w3.heap.size) _ (colsM ms) rfl (by rw [HLO.out]; exact K4.out.up (Chg.trans G4.out G5.out)) (by have h9 := HLK.out; have h8 := HKL.out; have h7 := HLO.out; have h6 := HML.out; rw [colsM_len]; omega) G5.out.size ?_; intro v6 w6 h1 _ h3; have HO6 := Lib.hid (show OwnO w6 w4.heap.size v6 os by rw [HMO.out]; exact h1); have G6 := Lib.hid (show Up w4 w6 from Chg.new G5.out h3 (fun i hi e => by omega)); clear h1 h3))
  refine (RunMachine_any _ _ _ os HO6.out.ops HMA.out).mono ?_
  rintro e w7 ⟨F, B, C, L, D, fs, bs, rfl, hM, g7⟩
  have HALL2 := HALL.out
  obtain ⟨mm, hmm⟩ : ∃ m, m = stopM (newM 24) os := ⟨_, rfl⟩
  obtain ⟨nn, hnn⟩ : ∃ n, n = stopN (newM 24) os := ⟨_, rfl⟩
  obtain ⟨rc, hrc⟩ : ∃ n, n = runM (newM 24) os := ⟨_, rfl⟩
  rw [← hmm] at hM HALL2 ⊢
  rw [← hrc] at HALL2 ⊢
  rw [← hnn]
  have G7 := Lib.hid g7
  clear hmm hnn hrc g7
  have HALL3 := Lib.hid HALL2
  clear HALL2
  obtain ⟨AF, cF, rfl, -⟩ := ownsRow_shape hM.f
  obtain ⟨AB, cB, rfl, -⟩ := ownsRow_shape hM.b
  obtain ⟨AC, cC, rfl, -⟩ := ownsRow_shape hM.c
  obtain ⟨cs1, hl1⟩ := hM.l
  obtain ⟨ds1, hd1, -⟩ := hM.d
  obtain ⟨AL, cL, rfl, -⟩ := ownsRow_shape hl1
  obtain ⟨AD, cD, rfl, -⟩ := hd1.ints.shape
  have HM := Lib.hid hM
  clear hM hl1 hd1
  unfold machVal
  go_wp2_with fail
  refine (TraceOf_any _ _ _ os (HO6.out.ops.up (Chg.trans G7.out (by repeat (first | exact Chg.refl _ _ | apply Chg.drew | apply Chg.drewN | refine Chg.alloc ?_ _)))) HMA.out).mono ?_
  rintro e w8 ⟨u8, rfl, hev, g8⟩
  have B0 := Lib.hid (show w8.cell? ⟨w7.heap.size, 0, none⟩ = some (.int .i64 mm.wd) from Chg.cell g8 (cell_new _ _ _ 0) id)
  have B1 := Lib.hid (show w8.cell? ⟨w7.heap.size, 1, none⟩ = some (.int .i64 mm.rack) from Chg.cell g8 (cell_new _ _ _ 1) id)
  have B2 := Lib.hid (show w8.cell? ⟨w7.heap.size, 2, none⟩ = some (.slice AF fs.length cF) from Chg.cell g8 (cell_new _ _ _ 2) id)
  have B3 := Lib.hid (show w8.cell? ⟨w7.heap.size, 3, none⟩ = some (.slice AB bs.length cB) from Chg.cell g8 (cell_new _ _ _ 3) id)
  have B4 := Lib.hid (show w8.cell? ⟨w7.heap.size, 4, none⟩ = some (.slice AC mm.cs.length cC) from Chg.cell g8 (cell_new _ _ _ 4) id)
  have B5 := Lib.hid (show w8.cell? ⟨w7.heap.size, 5, none⟩ = some (.slice AL mm.nl cL) from Chg.cell g8 (cell_new _ _ _ 5) id)
  have B6 := Lib.hid (show w8.cell? ⟨w7.heap.size, 6, none⟩ = some (.slice AD ds1.length cD) from Chg.cell g8 (cell_new _ _ _ 6) id)
  have HEV := Lib.hid hev
  have G8 := Lib.hid (show Up w7 w8 from Chg.trans (by repeat (first | exact Chg.refl _ _ | apply Chg.drew | apply Chg.drewN | refine Chg.alloc ?_ _)) g8)
  have UU := Lib.hid (show Up w w8 from Chg.trans G1.out (Chg.trans G14.out (Chg.trans G6.out (Chg.trans G7.out G8.out))))
  clear hev g8
  obtain ⟨tc, htc⟩ : ∃ n, n = trC (newM 24) 0 os := ⟨_, rfl⟩
  rw [← htc] at HEV HALL3 ⊢
  clear htc
  have hdis := HALL3.out
  clear HALL3
  rcases hdis with rfl | ⟨rfl, rfl, hel, hcs⟩
  · go_wp2
    go_ret
    exact ⟨rfl, UU.out⟩
  · have hev := HEV.out rfl
    obtain ⟨A8, c8, rfl, -⟩ := hev.shape
    rw [hel]
    have HCS := Lib.hid hcs
    have exl : ((xs.length : Int) != (xs.length : Int)) = false := by simp
    clear hev hel hcs HEV
    go_wp2
    obtain ⟨p8, hp8⟩ : ∃ p, p = w7.heap.size := ⟨_, rfl⟩
    go_loopw [17, 18] (fun q i wr => ∃ (j : Nat), j ≤ ys.length ∧ i = .int .i64 j ∧ Hid (OwnI wr w8.heap.size q (onceL ys ys j)) ∧ Hid (Up w8 wr)) (fun _ i _ => ys.length - (intOf i).toNat)
    case atStart => exact ⟨0, by omega, rfl, Lib.hid (OwnI.made w8 _ (Nat.le_refl _)), Lib.hid ((Chg.refl _ _).alloc _)⟩
    case round =>
      obtain ⟨j, hj, rfl, ho, hu⟩ := hrel
      have hzz := hu.out.size
      obtain ⟨Aq, cq, rfl, -⟩ := ho.out.ints.shape
      by_cases hlt : j < ys.length
      · obtain ⟨gy, oy, rfl, -, hcy⟩ := (K2.out.up (Chg.trans G14.out (Chg.trans G6.out (Chg.trans G7.out (Chg.trans G8.out hu.out))))).ix (i := j) hlt
        have HLN := Lib.hid (show (onceL ys ys j).length ≤ 1099511627776 by have h9 := onceL_length ys ys j; have h8 := HY8.out.1; omega)
        have HY := Lib.hid (show I64 (ix ys j) by have h9 := (places_rise (plan_ok HP.out).2.1).2.1 j hlt; unfold I64; omega)
        by_cases h0 : j = 0
        · have KB := Lib.hid (show keepB ys j = true by unfold keepB; rw [decide_eq_true h0]; rfl)
          subst h0
          have f0 := hcy 0 hlt
          rw [Nat.add_zero] at f0
          clear hcy
          go_wp2
          go_quiet (fail)
          go_wp2_with (at_builtin; refine wp_append_int rfl _ _ rfl w8.heap.size _ (onceL ys ys 0) rfl (ho.out.up (by repeat (first | exact Chg.refl _ _ | apply Chg.drew | apply Chg.drewN | refine Chg.alloc ?_ _))) _ (ix ys 0) rfl (cell_at (by simp [World.size_alloc]) rfl) HY.out HLN.out (by simp [World.size_alloc]; omega) ?_; intro v9 w9 ho9 _ hg9; have HO9 := Lib.hid ho9; have HG9 := Lib.hid hg9; clear ho9 hg9)
          go_roundw
          case rel => exact ⟨1, by omega, by go_num, Lib.hid (by rw [onceL_yes KB.out]; exact HO9.out), Lib.hid (Chg.new (by repeat (first | exact hu.out | apply Chg.drew | apply Chg.drewN | refine Chg.alloc ?_ _)) HG9.out (fun i hi hh => by omega))⟩
          case measure => first | (simp [intOf]; done) | (simp [intOf]; omega)
        · obtain ⟨q, rfl⟩ : ∃ q, j = q + 1 := ⟨j - 1, by omega⟩
          have f1 := hcy (q + 1) hlt
          have f3 := hcy q (by omega)
          have hxl : ((q : Int) + 1) < ys.length := by omega
          have hqd : decide ((ys.length : Int) ≤ (q : Int)) = false := decide_eq_false (by omega)
          have hqi : (q : Int) < (ys.length : Int) := by omega
          have hq0 : (0 : Int) ≤ (q : Int) := by omega
          have hy8 := HY8.out.1
          have d9 : (((q : Int) + 1) == 0) = false := by simp; omega
          clear hcy
          by_cases hne : ix ys (q + 1) = ix ys q
          · have KB := Lib.hid (show keepB ys (q + 1) = false by unfold keepB; rw [decide_eq_false h0, Nat.add_sub_cancel, hne]; simp)
            have ez : (ix ys q != ix ys (q + 1)) = false := by rw [hne]; simp
            clear hne
            go_wp2
            go_quiet (fail)
            go_wp2
            go_roundw
            case rel => exact ⟨q + 2, by omega, by go_num, Lib.hid (by rw [onceL_no KB.out]; exact (ho.out.up (by repeat (first | exact Chg.refl _ _ | apply Chg.drew | apply Chg.drewN | refine Chg.alloc ?_ _)))), Lib.hid (by repeat (first | exact hu.out | apply Chg.drew | apply Chg.drewN | refine Chg.alloc ?_ _))⟩
            case measure => first | (simp [intOf]; done) | (simp [intOf]; omega)
          · have KB := Lib.hid (show keepB ys (q + 1) = true by unfold keepB; rw [decide_eq_false h0, Nat.add_sub_cancel]; simpa using hne)
            have ez : (ix ys q != ix ys (q + 1)) = true := by simp; exact fun e => hne e.symm
            clear hne
            go_wp2
            go_quiet (fail)
            go_wp2_with (at_builtin; refine wp_append_int rfl _ _ rfl w8.heap.size _ (onceL ys ys (q + 1)) rfl (ho.out.up (by repeat (first | exact Chg.refl _ _ | apply Chg.drew | apply Chg.drewN | refine Chg.alloc ?_ _))) _ (ix ys (q + 1)) rfl (cell_at (by simp [World.size_alloc]) rfl) HY.out HLN.out (by simp [World.size_alloc]; omega) ?_; intro v9 w9 ho9 _ hg9; have HO9 := Lib.hid ho9; have HG9 := Lib.hid hg9; clear ho9 hg9)
            go_roundw
            case rel => exact ⟨q + 2, by omega, by go_num, Lib.hid (by rw [onceL_yes KB.out]; exact HO9.out), Lib.hid (Chg.new (by repeat (first | exact hu.out | apply Chg.drew | apply Chg.drewN | refine Chg.alloc ?_ _)) HG9.out (fun i hi hh => by omega))⟩
            case measure => first | (simp [intOf]; done) | (simp [intOf]; omega)
      · obtain rfl : j = ys.length := by omega
        have b0 := Chg.cell hu.out B0.out id
        have b1 := Chg.cell hu.out B1.out id
        have b2 := Chg.cell hu.out B2.out id
        have b3 := Chg.cell hu.out B3.out id
        have b4 := Chg.cell hu.out B4.out id
        have b5 := Chg.cell hu.out B5.out id
        have b6 := Chg.cell hu.out B6.out id
        have HW8 := ho
        go_wp2_with fail
        refine (d8Full_any _ (HM.out.up (Chg.trans G8.out (Chg.trans hu.out (by repeat (first | exact Chg.refl _ _ | apply Chg.drew | apply Chg.drewN | refine Chg.alloc ?_ _))))) HCS.out).mono ?_
        rintro e wf ⟨vf, rfl, kf, gf⟩
        rw [full_once HCS.out (plan_ok HP.out).2.1] at kf
        have KF := Lib.hid kf
        have GF := Lib.hid (show Up wr wf from Chg.trans (by repeat (first | exact Chg.refl _ _ | apply Chg.drew | apply Chg.drewN | refine Chg.alloc ?_ _)) gf)
        obtain ⟨Af, cf, rfl, -⟩ := kf.shape
        clear kf gf b0 b1 b2 b3 b4 b5 b6
        have HXL := Lib.hid (show ([] : List Int).length + xs.length ≤ 1099511627776 by have h9 := HX8.out; simp; omega)
        have HK1 := Lib.hid (K1.out.up (Chg.trans G14.out (Chg.trans G6.out (Chg.trans G7.out (Chg.trans G8.out (Chg.trans hu.out GF.out))))))
        go_wp2_with (at_builtin; refine wp_app_intsL rfl _ _ rfl wf.heap.size _ [] rfl (OwnI.made wf wf.heap.size (Nat.le_refl _)) _ _ xs rfl (HK1.out.up (by repeat (first | exact Chg.refl _ _ | apply Chg.drew | apply Chg.drewN | refine Chg.alloc ?_ _))) HXL.out (by simp [World.size_alloc]) ?_; intro vn wn h1 _ _ h4; have HN := Lib.hid (show OwnI wn wf.heap.size vn xs by simpa using h1); have GN := Lib.hid (show Up wf wn from Chg.new ((Chg.refl Nowhere wf).alloc _) h4 (fun i hi e => by omega)); clear h1 h4)
        go_loopw [21, 22, 23, 24] (fun q i _ _ wy => ∃ (j : Nat), j ≤ ms.length ∧ i = .int .i64 j ∧ Hid (Ints wy (fun _ => True) q (nowTo xs ms j)) ∧ Hid (Up wn wy)) (fun _ i _ _ _ => ms.length - (intOf i).toNat)
        case atStart => exact ⟨0, by omega, rfl, Lib.hid (HN.out.ints.mono (fun _ _ _ => trivial)), Lib.hid (Chg.refl _ _)⟩
        case round =>
          obtain ⟨j, hj, rfl, hq, hv⟩ := hrel
          obtain ⟨Aq2, cq2, rfl, -⟩ := hq.out.shape
          by_cases hlt : j < ms.length
          · obtain ⟨bm, om, cm, hem, -, -, hcm⟩ := (K5.out.up (Chg.trans G6.out (Chg.trans G7.out (Chg.trans G8.out (Chg.trans hu.out (Chg.trans GF.out (Chg.trans GN.out hv.out))))))).at_ hlt
            obtain ⟨rfl, rfl⟩ : A4 = some ⟨bm, om, none⟩ ∧ c4 = cm := by simpa using hem
            have f0 := (hcm 0 _ rfl).1
            have f1 := (hcm 1 _ rfl).1
            rw [Nat.add_zero] at f0
            clear hcm hem
            have HAC := Lib.hid (HRU.out.at_.2 j hlt)
            have HNS := Lib.hid (nowTo_succ (xs := xs) hlt)
            obtain ⟨mv, hmv⟩ : ∃ mv, mv = ms[j] := ⟨_, rfl⟩
            rw [← hmv] at f0 f1 HAC HNS
            obtain ⟨mf, mt⟩ := mv
            clear hmv
            simp only [] at f0 f1 HAC HNS
            go_wp2_with fail
            refine (ApplyMove_any _ _ _ (nowTo xs ms j) mf mt (hq.out.up (by repeat (first | exact Chg.refl _ _ | apply Chg.drew | apply Chg.drewN | refine Chg.alloc ?_ _)))).mono ?_
            rintro e wa ⟨va, rfl, ka, ga⟩
            rw [HAC.out]
            rw [← HNS.out] at ka
            have KA := Lib.hid ka
            have GA := Lib.hid ga
            obtain ⟨Aa, ca, rfl, -⟩ := ka.shape
            clear ka ga
            go_wp2
            go_roundw
            case rel => exact ⟨j + 1, by omega, by go_num, Lib.hid (KA.out.mono (fun _ _ _ => trivial)), Lib.hid (Chg.trans hv.out (Chg.trans (by repeat (first | exact Chg.refl _ _ | apply Chg.drew | apply Chg.drewN | refine Chg.alloc ?_ _)) GA.out))⟩
            case measure => first | (simp [intOf]; done) | (simp [intOf]; omega)
          · obtain rfl : j = ms.length := by omega
            have hq2 := hq.out
            rw [HRU.out.at_.1] at hq2
            rw [HRU.out.at_.1]
            have HQ2 := Lib.hid hq2
            clear hq2
            have HWT := Lib.hid (HW8.out.ints.up (Chg.trans GF.out (Chg.trans GN.out hv.out)))
            have HHV := Lib.hid (KF.out.up (Chg.trans GN.out hv.out))
            have HMV := Lib.hid (K5.out.up (Chg.trans G6.out (Chg.trans G7.out (Chg.trans G8.out (Chg.trans hu.out (Chg.trans GF.out (Chg.trans GN.out hv.out)))))))
            have HUU := Lib.hid (Chg.trans UU.out (Chg.trans hu.out (Chg.trans GF.out (Chg.trans GN.out hv.out))))
            obtain ⟨lz, hlz⟩ : ∃ z, z = lengthMv ms := ⟨_, rfl⟩
            have HLZ := Lib.hid (show lengthMv ms = lz from hlz.symm)
            have hlz0 : decide (lz ≥ 0) = true := decide_eq_true (by rw [hlz]; exact all_moves HRU.out.moves)
            clear hlz
            have LNQ := Lib.hid (HRU.out.at_.1)
            skip
            go_wp2_with fail
            refine (d8Same_any _ _ _ _ _ (onceL ys ys ys.length) (HHV.out.up (by repeat (first | exact Chg.refl _ _ | apply Chg.drew | apply Chg.drewN | refine Chg.alloc ?_ _))) (HWT.out.up (by repeat (first | exact Chg.refl _ _ | apply Chg.drew | apply Chg.drewN | refine Chg.alloc ?_ _)))).mono ?_
            rintro e ws ⟨rfl, ds⟩
            have D1 := Lib.hid (Chg.trans (show Up _ _ from (by repeat (first | exact Chg.refl _ _ | apply Chg.drew | apply Chg.drewN | refine Chg.alloc ?_ _))) ds.up)
            clear ds
            go_wp2_with fail
            refine (d8Same_any _ _ _ _ _ (onceL ys ys ys.length) (HQ2.out.up D1.out) (HWT.out.up D1.out)).mono ?_
            rintro e wt ⟨rfl, dt⟩
            have D2 := Lib.hid (Chg.trans D1.out dt.up)
            clear dt
            go_wp2_with fail
            refine (MoveLength_any _ _ _ ms (HMV.out.up D2.out) (by have h9 := HML.out; omega)).mono ?_
            rintro e wu ⟨rfl, gu⟩
            rw [HLZ.out]
            have D3 := Lib.hid (Chg.trans D2.out gu)
            clear gu
            go_wp2
            go_ret
            exact ⟨rfl, Chg.trans HUU.out D3.out⟩
end Go.Proofs.Ytplabnjdhkmmkaa
