/- Racking: the reference's steps, one and all. No condition. -/
import Derived.Test.YtchfjglofmphfaaRB8
import Derived.Test.YtchfjglofmphfaaRakS
set_option linter.unusedSimpArgs false
set_option linter.unusedVariables false
set_option maxRecDepth 100000
set_option maxHeartbeats 4000000
namespace Go.Proofs.Ytchfjglofmphfaa
open Go.ChangeShapes Go.WideShapes Go.ChangeAt Go.RowKit
theorem l10Rack_up (w : World) (M H L : Nat → Prop) (bm : Nat) (p : MacM) (hp : FewM p) (r : Int) (hr : -3 ≤ r ∧ r ≤ 3) (A0 A1 : Option Addr) (c0 c1 : Nat) (q0 : w.cell? ⟨bm, 0, none⟩ = some (.int .i64 p.wd)) (q1 : w.cell? ⟨bm, 1, none⟩ = some (.int .i64 r)) (q2 : w.cell? ⟨bm, 2, none⟩ = some (.slice A0 p.fr.length c0)) (q3 : w.cell? ⟨bm, 3, none⟩ = some (.slice A1 p.bk.length c1)) (h0 : IntSSV w M H L (.slice A0 p.fr.length c0) p.fr) (h1 : IntSSV w M H L (.slice A1 p.bk.length c1) p.bk) (y1 : w.frozen? ⟨bm, 1, none⟩ = false) :
    Calls Try.prog 108 #[.pointer (some ⟨bm, 0, none⟩), .int .i64 1] w fun e w' => ∃ v w1, e = .returned v ∧ Evs w1 (New w.heap.size w1.heap.size) v (oneRack p r 1) ∧ Up w w1 ∧ w' = w1.setCell ⟨bm, 1, none⟩ (.int .i64 (r + 1)) := by
  have H0 := Lib.hid h0
  have H1 := Lib.hid h1
  have Y1 := Lib.hid y1
  have hbm := World.block_lt_of_cell? w _ q0
  have Q0 := Lib.hid q0
  have Q1 := Lib.hid q1
  have Q2 := Lib.hid q2
  have Q3 := Lib.hid q3
  have HP := Lib.hid hp
  have HNN := Lib.hid hp.n1
  have HR := Lib.hid hr
  clear h0 h1 q0 q1 q2 q3 y1 hp
  go_enter Try.func108, Try.ntmps108
  go_wp2
  go_loopw [5, 6, 7, 8, 9] (fun v i _ _ _ wr => ∃ j : Nat, j ≤ p.fr.length ∧ i = .int .i64 j ∧ Hid (OwnEvs wr w.heap.size v (rackTo p r 1 j)) ∧ Hid (Up w wr)) (fun _ i _ _ _ _ => p.fr.length - (intOf i).toNat)
  case atStart => exact ⟨0, by omega, rfl, OwnEvs.made w _ (Nat.le_refl _), (Chg.refl _ _).alloc _⟩
  case round =>
    obtain ⟨j, hj, rfl, ho, hu⟩ := hrel
    have hnn := HNN.out
    have q0 := Chg.cell hu.out Q0.out id
    have q1 := Chg.cell hu.out Q1.out id
    have q2 := Chg.cell hu.out Q2.out id
    have q3 := Chg.cell hu.out Q3.out id
    rw [HP.out.wd] at q0
    have hsz := hu.out.size
    by_cases hlt : j < p.fr.length
    · have HFK := Lib.hid (show facK r 1 j = ((j : Int) - r - 1) by unfold facK; rw [if_pos (by omega)])
      have HTL := Lib.hid (rackTo_length HP.out r 1 j)
      have hr2 := hr
      by_cases hk : 0 ≤ ((j : Int) - r - 1) ∧ ((j : Int) - r - 1) < p.fr.length
      rotate_left
      · have HK := Lib.hid (inB_no (n := ((j : Int) - r - 1)) (lo := 0) (hi := (p.fr.length : Int) - 1) (by omega))
        have HE := Lib.hid (show rackTo p r 1 (j + 1) = rackTo p r 1 j by rw [rackTo, rackE_no (by rw [HFK.out, HP.out.n2]; exact hk), List.append_nil])
        clear hk
        go_wp2_with fail
        refine (callS (l00In_any _ _ _ _) HK.out).mono ?_
        rintro e w' ⟨rfl, rfl⟩
        go_wp2
        go_roundw
        case rel => exact ⟨j + 1, by omega, by go_num, by show Hid _; rw [HE.out]; exact ho, hu⟩
        case measure => first | (simp [intOf]; done) | (simp [intOf]; omega)
      have HK := Lib.hid (inB_yes (n := ((j : Int) - r - 1)) (lo := 0) (hi := (p.fr.length : Int) - 1) (by omega))
      obtain ⟨kk, hkk⟩ : ∃ kk : Nat, ((j : Int) - r - 1) = kk := ⟨(((j : Int) - r - 1)).toNat, by omega⟩
      have hkb : kk < p.bk.length := by have := HP.out.n2; omega
      have HKK := Lib.hid hkk
      have HFE := Lib.hid (show rackTo p r 1 (j + 1) = rackTo p r 1 j ++ crossE (befM p j kk) (-1) (lenB p kk) (lenF p j) by rw [rackTo, rackE_up (by rw [HFK.out, HP.out.n2]; exact hk) (by omega), HFK.out, hkk, Int.toNat_natCast])
      obtain ⟨b3, o3, c3', vs3, he3, -, -, -, hE3, hc3⟩ := (H1.out.up hu.out).at_ hkb
      obtain ⟨rfl, rfl⟩ : A1 = some ⟨b3, o3, none⟩ ∧ c1 = c3' := by simpa using he3
      obtain ⟨A7, k7, rfl, -, -, -⟩ := hE3.val
      have e1 := (hc3 0 _ rfl).1
      simp only [Nat.mul_one, Nat.add_zero] at e1
      clear hc3 he3 hE3
      obtain ⟨b4, o4, c4', vs4, he4, -, -, -, hE4, hc4⟩ := (H0.out.up hu.out).at_ hlt
      obtain ⟨rfl, rfl⟩ : A0 = some ⟨b4, o4, none⟩ ∧ c0 = c4' := by simpa using he4
      obtain ⟨A8, k8, rfl, -, -, -⟩ := hE4.val
      have e2 := (hc4 0 _ rfl).1
      simp only [Nat.mul_one, Nat.add_zero] at e2
      clear hc4 he4 hE4
      have lf : lenF p j = p.fr[j].length := by unfold lenF; rw [getD_eq hlt]
      have lb : lenB p kk = p.bk[kk].length := by unfold lenB; rw [getD_eq hkb]
      rw [lf, lb] at HFE
      have f4 := HP.out.f j hlt
      have b4' := HP.out.b kk hkb
      have HBD := Lib.hid (HP.out.bef j kk)
      have hbn := HP.out.n2
      clear lf lb
      have w1 : IntKind.i64.wrap ((j : Int) - r - 1) = kk := by rw [hkk]; exact IntWalk.i64_in _ (by omega)
      have HBF : Hid (Calls Try.prog 109 #[.pointer (some ⟨bm, 0, none⟩), .agg #[.int .i64 2, .int .i64 kk]] wr fun e w' => e = .returned (.int .i64 (befM p j kk)) ∧ Up wr w') := Lib.hid ((Before_back wr M H L bm p HP.out r (by omega) _ _ _ _ (Chg.cell hu.out Q0.out id) q1 q2 q3 (H0.out.up hu.out) (H1.out.up hu.out) kk ⟨by omega, by omega⟩).mono fun e w' ⟨h1, h2⟩ => ⟨h1.trans (by rw [show (kk : Int) + r + 1 = j from by omega]), h2⟩)
      have HLL := Lib.hid (show (rackTo p r 1 j).length + (crossE (befM p j kk) (-1) p.bk[kk].length p.fr[j].length).length ≤ 1099511627776 by rw [crossE_length]; have h1 := HTL.out; have h2 : p.fr[j].length * p.bk[kk].length ≤ 4 * 4 := Nat.mul_le_mul (by omega) (by omega); omega)
      clear hr2
      rw [hkk] at HK
      have hki : (kk : Int) < (p.bk.length : Int) := by omega
      have hk0 : (0 : Int) ≤ kk := by omega
      clear hk
      have hw : (j : Int) - r - 1 = kk := hkk
      clear hkk
      go_wp2_with fail
      refine (callS (l00In_any _ _ _ _) HK.out).mono ?_
      rintro e w' ⟨rfl, rfl⟩
      go_wp2_with fail
      refine HBF.out.mono ?_
      rintro e w2 ⟨rfl, g2⟩
      have U2 := Lib.hid g2
      clear g2 HBF
      have hbd := HBD.out
      have f4' := f4
      have b4'' := b4'
      go_wp2_with fail
      refine (l10Cross_any _ (befM p j kk) (-1) _ _ ⟨hbd.1, by omega⟩ (.inr rfl) b4' f4).mono ?_
      rintro e w3 ⟨v3, rfl, k3, g3⟩
      have U3 := Lib.hid (show Up wr w3 from Chg.trans U2.out (Chg.trans (by repeat (first | exact Chg.refl _ _ | apply Chg.drew | apply Chg.drewN | refine Chg.alloc ?_ _)) g3))
      have K3 := Lib.hid k3
      have hz3 := U3.out.size
      obtain ⟨A9, c9, rfl, -⟩ := k3.shape
      clear k3 g3 hbd
      go_wp2_with (at_builtin; refine wp_appendEvs rfl _ _ rfl w.heap.size _ (rackTo p r 1 j) rfl (ho.out.up U3.out) _ _ _ rfl K3.out HLL.out (by omega) ?_; intro v' w' h1 h2 h3; have HO := Lib.hid h1; have HG := Lib.hid h3; clear h1 h2 h3)
      go_roundw
      case rel => exact ⟨j + 1, by omega, by go_num, by show Hid _; rw [HFE.out]; exact HO, Lib.hid (Chg.new (Chg.trans hu.out U3.out) HG.out (fun i hi => by omega))⟩
      case measure => first | (simp [intOf]; done) | (simp [intOf]; omega)
    · obtain rfl : j = p.fr.length := by omega
      have y1 := (Chg.frozen hu.out Q1.out id).trans Y1.out
      have hr3 := HR.out
      go_wp2
      go_ret
      exact ⟨_, wr, rfl, ho.out.rd, hu.out, rfl⟩
theorem l10Rack_down (w : World) (M H L : Nat → Prop) (bm : Nat) (p : MacM) (hp : FewM p) (r : Int) (hr : -3 ≤ r ∧ r ≤ 3) (A0 A1 : Option Addr) (c0 c1 : Nat) (q0 : w.cell? ⟨bm, 0, none⟩ = some (.int .i64 p.wd)) (q1 : w.cell? ⟨bm, 1, none⟩ = some (.int .i64 r)) (q2 : w.cell? ⟨bm, 2, none⟩ = some (.slice A0 p.fr.length c0)) (q3 : w.cell? ⟨bm, 3, none⟩ = some (.slice A1 p.bk.length c1)) (h0 : IntSSV w M H L (.slice A0 p.fr.length c0) p.fr) (h1 : IntSSV w M H L (.slice A1 p.bk.length c1) p.bk) (y1 : w.frozen? ⟨bm, 1, none⟩ = false) :
    Calls Try.prog 108 #[.pointer (some ⟨bm, 0, none⟩), .int .i64 (-1)] w fun e w' => ∃ v w1, e = .returned v ∧ Evs w1 (New w.heap.size w1.heap.size) v (oneRack p r (-1)) ∧ Up w w1 ∧ w' = w1.setCell ⟨bm, 1, none⟩ (.int .i64 (r + (-1))) := by
  have H0 := Lib.hid h0
  have H1 := Lib.hid h1
  have Y1 := Lib.hid y1
  have hbm := World.block_lt_of_cell? w _ q0
  have Q0 := Lib.hid q0
  have Q1 := Lib.hid q1
  have Q2 := Lib.hid q2
  have Q3 := Lib.hid q3
  have HP := Lib.hid hp
  have HNN := Lib.hid hp.n1
  have HR := Lib.hid hr
  clear h0 h1 q0 q1 q2 q3 y1 hp
  go_enter Try.func108, Try.ntmps108
  go_wp2
  go_loopw [5, 6, 7, 8, 9] (fun v i _ _ _ wr => ∃ j : Nat, j ≤ p.fr.length ∧ i = .int .i64 j ∧ Hid (OwnEvs wr w.heap.size v (rackTo p r (-1) j)) ∧ Hid (Up w wr)) (fun _ i _ _ _ _ => p.fr.length - (intOf i).toNat)
  case atStart => exact ⟨0, by omega, rfl, OwnEvs.made w _ (Nat.le_refl _), (Chg.refl _ _).alloc _⟩
  case round =>
    obtain ⟨j, hj, rfl, ho, hu⟩ := hrel
    have hnn := HNN.out
    have q0 := Chg.cell hu.out Q0.out id
    have q1 := Chg.cell hu.out Q1.out id
    have q2 := Chg.cell hu.out Q2.out id
    have q3 := Chg.cell hu.out Q3.out id
    rw [HP.out.wd] at q0
    have hsz := hu.out.size
    by_cases hlt : j < p.fr.length
    · have HFK := Lib.hid (show facK r (-1) j = ((j : Int) - r) by unfold facK; rw [if_neg (by omega)])
      have HTL := Lib.hid (rackTo_length HP.out r (-1) j)
      have hr2 := hr
      by_cases hk : 0 ≤ ((j : Int) - r) ∧ ((j : Int) - r) < p.fr.length
      rotate_left
      · have HK := Lib.hid (inB_no (n := ((j : Int) - r)) (lo := 0) (hi := (p.fr.length : Int) - 1) (by omega))
        have HE := Lib.hid (show rackTo p r (-1) (j + 1) = rackTo p r (-1) j by rw [rackTo, rackE_no (by rw [HFK.out, HP.out.n2]; exact hk), List.append_nil])
        clear hk
        go_wp2_with fail
        refine (callS (l00In_any _ _ _ _) HK.out).mono ?_
        rintro e w' ⟨rfl, rfl⟩
        go_wp2
        go_roundw
        case rel => exact ⟨j + 1, by omega, by go_num, by show Hid _; rw [HE.out]; exact ho, hu⟩
        case measure => first | (simp [intOf]; done) | (simp [intOf]; omega)
      have HK := Lib.hid (inB_yes (n := ((j : Int) - r)) (lo := 0) (hi := (p.fr.length : Int) - 1) (by omega))
      obtain ⟨kk, hkk⟩ : ∃ kk : Nat, ((j : Int) - r) = kk := ⟨(((j : Int) - r)).toNat, by omega⟩
      have hkb : kk < p.bk.length := by have := HP.out.n2; omega
      have HKK := Lib.hid hkk
      have HFE := Lib.hid (show rackTo p r (-1) (j + 1) = rackTo p r (-1) j ++ crossE (befM p j kk) (1) (lenF p j) (lenB p kk) by rw [rackTo, rackE_down (by rw [HFK.out, HP.out.n2]; exact hk) (by omega), HFK.out, hkk, Int.toNat_natCast])
      obtain ⟨b3, o3, c3', vs3, he3, -, -, -, hE3, hc3⟩ := (H1.out.up hu.out).at_ hkb
      obtain ⟨rfl, rfl⟩ : A1 = some ⟨b3, o3, none⟩ ∧ c1 = c3' := by simpa using he3
      obtain ⟨A7, k7, rfl, -, -, -⟩ := hE3.val
      have e1 := (hc3 0 _ rfl).1
      simp only [Nat.mul_one, Nat.add_zero] at e1
      clear hc3 he3 hE3
      obtain ⟨b4, o4, c4', vs4, he4, -, -, -, hE4, hc4⟩ := (H0.out.up hu.out).at_ hlt
      obtain ⟨rfl, rfl⟩ : A0 = some ⟨b4, o4, none⟩ ∧ c0 = c4' := by simpa using he4
      obtain ⟨A8, k8, rfl, -, -, -⟩ := hE4.val
      have e2 := (hc4 0 _ rfl).1
      simp only [Nat.mul_one, Nat.add_zero] at e2
      clear hc4 he4 hE4
      have lf : lenF p j = p.fr[j].length := by unfold lenF; rw [getD_eq hlt]
      have lb : lenB p kk = p.bk[kk].length := by unfold lenB; rw [getD_eq hkb]
      rw [lf, lb] at HFE
      have f4 := HP.out.f j hlt
      have b4' := HP.out.b kk hkb
      have HBD := Lib.hid (HP.out.bef j kk)
      have hbn := HP.out.n2
      clear lf lb
      have w1 : IntKind.i64.wrap ((j : Int) - r) = kk := by rw [hkk]; exact IntWalk.i64_in _ (by omega)
      have HBF : Hid (Calls Try.prog 109 #[.pointer (some ⟨bm, 0, none⟩), .agg #[.int .i64 1, .int .i64 j]] wr fun e w' => e = .returned (.int .i64 (befM p j kk)) ∧ Up wr w') := Lib.hid ((Before_front wr M H L bm p HP.out r (by omega) _ _ _ _ (Chg.cell hu.out Q0.out id) q1 q2 q3 (H0.out.up hu.out) (H1.out.up hu.out) j ⟨by omega, by omega⟩).mono fun e w' ⟨h1, h2⟩ => ⟨h1.trans (by rw [show (j : Int) - r = kk from by omega]), h2⟩)
      have HLL := Lib.hid (show (rackTo p r (-1) j).length + (crossE (befM p j kk) (1) p.fr[j].length p.bk[kk].length).length ≤ 1099511627776 by rw [crossE_length]; have h1 := HTL.out; have h2 : p.bk[kk].length * p.fr[j].length ≤ 4 * 4 := Nat.mul_le_mul (by omega) (by omega); omega)
      clear hr2
      rw [hkk] at HK
      have hki : (kk : Int) < (p.bk.length : Int) := by omega
      have hk0 : (0 : Int) ≤ kk := by omega
      clear hk
      have hw : (j : Int) - r = kk := hkk
      clear hkk
      go_wp2_with fail
      refine (callS (l00In_any _ _ _ _) HK.out).mono ?_
      rintro e w' ⟨rfl, rfl⟩
      go_wp2_with fail
      refine HBF.out.mono ?_
      rintro e w2 ⟨rfl, g2⟩
      have U2 := Lib.hid g2
      clear g2 HBF
      have hbd := HBD.out
      have f4' := f4
      have b4'' := b4'
      go_wp2_with fail
      go_wp2_with fail
      refine (l10Cross_any _ (befM p j kk) 1 _ _ ⟨hbd.1, by omega⟩ (.inl rfl) f4 b4').mono ?_
      rintro e w3 ⟨v3, rfl, k3, g3⟩
      have U3 := Lib.hid (show Up wr w3 from Chg.trans U2.out (Chg.trans (by repeat (first | exact Chg.refl _ _ | apply Chg.drew | apply Chg.drewN | refine Chg.alloc ?_ _)) g3))
      have K3 := Lib.hid k3
      have hz3 := U3.out.size
      obtain ⟨A9, c9, rfl, -⟩ := k3.shape
      clear k3 g3 hbd
      go_wp2_with (at_builtin; refine wp_appendEvs rfl _ _ rfl w.heap.size _ (rackTo p r (-1) j) rfl (ho.out.up U3.out) _ _ _ rfl K3.out HLL.out (by omega) ?_; intro v' w' h1 h2 h3; have HO := Lib.hid h1; have HG := Lib.hid h3; clear h1 h2 h3)
      go_roundw
      case rel => exact ⟨j + 1, by omega, by go_num, by show Hid _; rw [HFE.out]; exact HO, Lib.hid (Chg.new (Chg.trans hu.out U3.out) HG.out (fun i hi => by omega))⟩
      case measure => first | (simp [intOf]; done) | (simp [intOf]; omega)
    · obtain rfl : j = p.fr.length := by omega
      have y1 := (Chg.frozen hu.out Q1.out id).trans Y1.out
      have hr3 := HR.out
      go_wp2
      go_ret
      exact ⟨_, wr, rfl, ho.out.rd, hu.out, rfl⟩
end Go.Proofs.Ytchfjglofmphfaa
