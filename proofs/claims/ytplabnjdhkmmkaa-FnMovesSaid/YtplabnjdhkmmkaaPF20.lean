/- Racking: the program's Index of needles; the list on a needle. No condition. Racking: the program's events of one step. No condition. Racking: the program's events of one step. No condition. Racking: the program's events of all steps. No condition. Racking: the reference's steps, one and all. No condition. Racking: the reference's steps, all. No condition. -/
import Derived.Test.YtplabnjdhkmmkaaPF19
import Derived.Laws.StructEq
import Derived.Deep.RegionLaw
import Derived.Deep.RegionHeld3
import Derived.Deep.DeepCutAuto
section
set_option maxRecDepth 100000
set_option maxHeartbeats 4000000
set_option linter.unusedSimpArgs false
set_option linter.unusedVariables false
namespace Go.Proofs.Ytplabnjdhkmmkaa
open Go.ChangeShapes Go.WideShapes Go.ChangeAt Go.RowKit
def ndEq (x y : NdM) : Bool := decide (x.bd = y.bd) && decide (x.at_ = y.at_)
end Go.Proofs.Ytplabnjdhkmmkaa
end
section
set_option maxRecDepth 100000
set_option maxHeartbeats 4000000
set_option linter.unusedSimpArgs false
set_option linter.unusedVariables false
namespace Go.Proofs.Ytplabnjdhkmmkaa
open Go.ChangeShapes Go.WideShapes Go.ChangeAt Go.RowKit
/-- the cells of a row of needles, to be read and written -/
def NdC (w : World) (g : Nat) (L : List NdM) : Prop := ∀ j (h : j < L.length), (w.cell? ⟨g, j * 2, none⟩ = some (.int .i64 L[j].bd) ∧ w.frozen? ⟨g, j * 2, none⟩ = false) ∧ (w.cell? ⟨g, j * 2 + 1, none⟩ = some (.int .i64 L[j].at_) ∧ w.frozen? ⟨g, j * 2 + 1, none⟩ = false)
theorem NdC.keep {w w' : World} {g : Nat} {L : List NdM} {T : Nat → Prop} (h : NdC w g L) (k : Chg T w w') (hg : ¬ T g) : NdC w' g L := fun j hj => by
  obtain ⟨⟨h1, h2⟩, h3, h4⟩ := h j hj
  exact ⟨⟨k.cell h1 hg, (k.frozen h1 hg).trans h2⟩, k.cell h3 hg, (k.frozen h3 hg).trans h4⟩
theorem NdC.up {w w' : World} {g : Nat} {L : List NdM} (h : NdC w g L) (k : Up w w') : NdC w' g L := h.keep k id
theorem Nds.cells {w : World} {S : Nat → Prop} {g c n : Nat} {L : List NdM} (h : Nds w S (.slice (some ⟨g, 0, none⟩) n c) L) : NdC w g L := fun j hj => by
  obtain ⟨b, o, c', he, -, -, hc⟩ := h.at_ hj
  simp only [Value.slice.injEq, Option.some.injEq, Addr.mk.injEq, and_true] at he
  obtain ⟨⟨rfl, rfl⟩, -, -⟩ := he
  have h0 := hc 0 _ rfl
  have h1 := hc 1 _ rfl
  simp only [Nat.zero_add, Nat.add_zero] at h0 h1
  exact ⟨h0, h1⟩
def NdM.vld (N : Nat) (y : NdM) : Prop := (y.bd = 1 ∨ y.bd = 2) ∧ 0 ≤ y.at_ ∧ y.at_ < N
/-- what a round of a step does to the order -/
structure OrdR (p : MacM) (N j : Nat) (K : Int) (O O' : List NdM) (up : Bool) (A R : List NdM) : Prop where
  a : ∀ y ∈ A, y.vld N
  r : ∀ y ∈ R, y.vld N
  ne : ∀ y ∈ A, ndEq ⟨1, j⟩ y = false
  sum : (sumN p A : Int) = befM p j K
  yes : 0 ≤ K ∧ K < N → (up = true → O = A ++ ⟨2, K⟩ :: ⟨1, j⟩ :: R ∧ O' = A ++ ⟨1, j⟩ :: ⟨2, K⟩ :: R) ∧ (up = false → O = A ++ ⟨1, j⟩ :: ⟨2, K⟩ :: R ∧ O' = A ++ ⟨2, K⟩ :: ⟨1, j⟩ :: R)
  no : ¬ (0 ≤ K ∧ K < N) → O = A ++ ⟨1, j⟩ :: R ∧ O' = O
theorem NdC.two {w : World} {g : Nat} {A R : List NdM} {x y : NdM} (h : NdC w g (A ++ x :: y :: R)) {m : Nat} (hm : m = A.length) : w.cell? ⟨g, m * 2, none⟩ = some (.int .i64 x.bd) ∧ w.cell? ⟨g, m * 2 + 1, none⟩ = some (.int .i64 x.at_) ∧ w.cell? ⟨g, (m + 1) * 2, none⟩ = some (.int .i64 y.bd) ∧ w.cell? ⟨g, (m + 1) * 2 + 1, none⟩ = some (.int .i64 y.at_) ∧ (∀ t, t < 4 → w.frozen? ⟨g, m * 2 + t, none⟩ = false) := by
  subst hm
  have h1 : A.length < (A ++ x :: y :: R).length := by simp
  have h2 : A.length + 1 < (A ++ x :: y :: R).length := by simp
  obtain ⟨⟨a1, f1⟩, a2, f2⟩ := h _ h1
  obtain ⟨⟨a3, f3⟩, a4, f4⟩ := h _ h2
  have e1 : (A ++ x :: y :: R)[A.length] = x := by simp
  have e2 : (A ++ x :: y :: R)[A.length + 1] = y := by simp [List.getElem_append_right]
  rw [e1] at a1 a2
  rw [e2] at a3 a4
  refine ⟨a1, a2, a3, a4, fun t ht => ?_⟩
  rcases (show t = 0 ∨ t = 1 ∨ t = 2 ∨ t = 3 by omega) with rfl | rfl | rfl | rfl
  · exact f1
  · exact f2
  · rw [show A.length * 2 + 2 = (A.length + 1) * 2 by omega]; exact f3
  · rw [show A.length * 2 + 3 = (A.length + 1) * 2 + 1 by omega]; exact f4
theorem NdC.pre {w : World} {g : Nat} {A Z : List NdM} (h : NdC w g (A ++ Z)) {t : Nat} (ht : t < A.length) : w.cell? ⟨g, t * 2, none⟩ = some (.int .i64 A[t].bd) ∧ w.cell? ⟨g, t * 2 + 1, none⟩ = some (.int .i64 A[t].at_) := by
  have h1 : t < (A ++ Z).length := by simp; omega
  have e : (A ++ Z)[t] = A[t] := List.getElem_append_left ht
  have h2 := h t h1
  rw [e] at h2
  exact ⟨h2.1.1, h2.2.1⟩
end Go.Proofs.Ytplabnjdhkmmkaa
end
section
set_option maxRecDepth 100000
set_option maxHeartbeats 4000000
set_option linter.unusedSimpArgs false
set_option linter.unusedVariables false
namespace Go.Proofs.Ytplabnjdhkmmkaa
open Go.ChangeShapes Go.WideShapes Go.ChangeAt Go.RowKit
section
variable {P : Program}
end
end Go.Proofs.Ytplabnjdhkmmkaa
end
section
set_option maxRecDepth 100000
set_option maxHeartbeats 4000000
set_option linter.unusedSimpArgs false
set_option linter.unusedVariables false
namespace Go.Proofs.Ytplabnjdhkmmkaa
open Go.ChangeShapes Go.WideShapes Go.ChangeAt Go.RowKit
def cellInt (w : World) (a : Addr) : Int := match w.cell? a with
  | some v => intOf v
  | none => 0
theorem cellInt_of {w : World} {a : Addr} {k : IntKind} {n : Int} (h : w.cell? a = some (.int k n)) : cellInt w a = n := by
  unfold cellInt
  rw [h]
  rfl
end Go.Proofs.Ytplabnjdhkmmkaa
end
section
set_option maxRecDepth 100000
set_option maxHeartbeats 4000000
set_option linter.unusedSimpArgs false
set_option linter.unusedVariables false
namespace Go.Proofs.Ytplabnjdhkmmkaa
open Go.ChangeShapes Go.WideShapes Go.ChangeAt Go.RowKit
theorem l10Rack_up (w : World) (M H L : Nat → Prop) (bm : Nat) (p : MacM) (hp : FewM p) (r : Int) (hr : -3 ≤ r ∧ r ≤ 3) (A0 A1 : Option Addr) (c0 c1 : Nat) (q0 : w.cell? ⟨bm, 0, none⟩ = some (.int .i64 p.wd)) (q1 : w.cell? ⟨bm, 1, none⟩ = some (.int .i64 r)) (q2 : w.cell? ⟨bm, 2, none⟩ = some (.slice A0 p.fr.length c0)) (q3 : w.cell? ⟨bm, 3, none⟩ = some (.slice A1 p.bk.length c1)) (h0 : IntSSV w M H L (.slice A0 p.fr.length c0) p.fr) (h1 : IntSSV w M H L (.slice A1 p.bk.length c1) p.bk) (y1 : w.frozen? ⟨bm, 1, none⟩ = false) :
    Calls Try.prog 95 #[.pointer (some ⟨bm, 0, none⟩), .int .i64 1] w fun e w' => ∃ v w1, e = .returned v ∧ Evs w1 (New w.heap.size w1.heap.size) v (oneRack p r 1) ∧ Up w w1 ∧ w' = w1.setCell ⟨bm, 1, none⟩ (.int .i64 (r + 1)) := by
  have H0 := Lib.hid h0
  have H1 := Lib.hid h1
  have Y1 := Lib.hid y1
  have hbm := World.block_lt_of_cell? w _ q0
  have Q0 := Lib.hid q0
  have Q1 := Lib.hid q1
  have Q2 := Lib.hid q2
  have Q3 := Lib.hid q3
  have HP := Lib.hid hp
  have HNN := Lib.hid hp.n1
  have HR := Lib.hid hr
  clear h0 h1 q0 q1 q2 q3 y1 hp
  go_enter Try.func95, Try.ntmps95
  go_wp2
  go_loopw [5, 6, 7, 8, 9] (fun v i _ _ _ wr => ∃ j : Nat, j ≤ p.fr.length ∧ i = .int .i64 j ∧ Hid (OwnEvs wr w.heap.size v (rackTo p r 1 j)) ∧ Hid (Up w wr)) (fun _ i _ _ _ _ => p.fr.length - (intOf i).toNat)
  case atStart => exact ⟨0, by omega, rfl, OwnEvs.made w _ (Nat.le_refl _), (Chg.refl _ _).alloc _⟩
  case round =>
    obtain ⟨j, hj, rfl, ho, hu⟩ := hrel
    have hnn := HNN.out
    have q0 := Chg.cell hu.out Q0.out id
    have q1 := Chg.cell hu.out Q1.out id
    have q2 := Chg.cell hu.out Q2.out id
    have q3 := Chg.cell hu.out Q3.out id
    rw [HP.out.wd] at q0
    have hsz := hu.out.size
    by_cases hlt : j < p.fr.length
    · have HFK := Lib.hid (show facK r 1 j = ((j : Int) - r - 1) by unfold facK; rw [if_pos (by omega)])
      have HTL := Lib.hid (rackTo_length HP.out r 1 j)
      have hr2 := hr
      by_cases hk : 0 ≤ ((j : Int) - r - 1) ∧ ((j : Int) - r - 1) < p.fr.length
      rotate_left
      · have HK := Lib.hid (inB_no (n := ((j : Int) - r - 1)) (lo := 0) (hi := (p.fr.length : Int) - 1) (by omega))
        have HE := Lib.hid (show rackTo p r 1 (j + 1) = rackTo p r 1 j by rw [rackTo, rackE_no (by rw [HFK.out, HP.out.n2]; exact hk), List.append_nil])
        clear hk
        go_wp2_with fail
        refine (callS (l00In_any _ _ _ _) HK.out).mono ?_
        rintro e w' ⟨rfl, rfl⟩
        go_wp2
        go_roundw
        case rel => exact ⟨j + 1, by omega, by go_num, by show Hid _; rw [HE.out]; exact ho, hu⟩
        case measure => first | (simp [intOf]; done) | (simp [intOf]; omega)
      have HK := Lib.hid (inB_yes (n := ((j : Int) - r - 1)) (lo := 0) (hi := (p.fr.length : Int) - 1) (by omega))
      obtain ⟨kk, hkk⟩ : ∃ kk : Nat, ((j : Int) - r - 1) = kk := ⟨(((j : Int) - r - 1)).toNat, by omega⟩
      have hkb : kk < p.bk.length := by have := HP.out.n2; omega
      have HKK := Lib.hid hkk
      have HFE := Lib.hid (show rackTo p r 1 (j + 1) = rackTo p r 1 j ++ crossE (befM p j kk) (-1) (lenB p kk) (lenF p j) by rw [rackTo, rackE_up (by rw [HFK.out, HP.out.n2]; exact hk) (by omega), HFK.out, hkk, Int.toNat_natCast])
      obtain ⟨b3, o3, c3', vs3, he3, -, -, -, hE3, hc3⟩ := (H1.out.up hu.out).at_ hkb
      obtain ⟨rfl, rfl⟩ : A1 = some ⟨b3, o3, none⟩ ∧ c1 = c3' := by simpa using he3
      obtain ⟨A7, k7, rfl, -, -, -⟩ := hE3.val
      have e1 := (hc3 0 _ rfl).1
      simp only [Nat.mul_one, Nat.add_zero] at e1
      clear hc3 he3 hE3
      obtain ⟨b4, o4, c4', vs4, he4, -, -, -, hE4, hc4⟩ := (H0.out.up hu.out).at_ hlt
      obtain ⟨rfl, rfl⟩ : A0 = some ⟨b4, o4, none⟩ ∧ c0 = c4' := by simpa using he4
      obtain ⟨A8, k8, rfl, -, -, -⟩ := hE4.val
      have e2 := (hc4 0 _ rfl).1
      simp only [Nat.mul_one, Nat.add_zero] at e2
      clear hc4 he4 hE4
      have lf : lenF p j = p.fr[j].length := by unfold lenF; rw [getD_eq hlt]
      have lb : lenB p kk = p.bk[kk].length := by unfold lenB; rw [getD_eq hkb]
      rw [lf, lb] at HFE
      have f4 := HP.out.f j hlt
      have b4' := HP.out.b kk hkb
      have HBD := Lib.hid (HP.out.bef j kk)
      have hbn := HP.out.n2
      clear lf lb
      have w1 : IntKind.i64.wrap ((j : Int) - r - 1) = kk := by rw [hkk]; exact IntWalk.i64_in _ (by omega)
      have HBF : Hid (Calls Try.prog 96 #[.pointer (some ⟨bm, 0, none⟩), .agg #[.int .i64 2, .int .i64 kk]] wr fun e w' => e = .returned (.int .i64 (befM p j kk)) ∧ Up wr w') := Lib.hid ((Before_back wr M H L bm p HP.out r (by omega) _ _ _ _ (Chg.cell hu.out Q0.out id) q1 q2 q3 (H0.out.up hu.out) (H1.out.up hu.out) kk ⟨by omega, by omega⟩).mono fun e w' ⟨h1, h2⟩ => ⟨h1.trans (by rw [show (kk : Int) + r + 1 = j from by omega]), h2⟩)
      have HLL := Lib.hid (show (rackTo p r 1 j).length + (crossE (befM p j kk) (-1) p.bk[kk].length p.fr[j].length).length ≤ 1099511627776 by rw [crossE_length]; have h1 := HTL.out; have h2 : p.fr[j].length * p.bk[kk].length ≤ 4 * 4 := Nat.mul_le_mul (by omega) (by omega); omega)
      clear hr2
      rw [hkk] at HK
      have hki : (kk : Int) < (p.bk.length : Int) := by omega
      have hk0 : (0 : Int) ≤ kk := by omega
      clear hk
      have hw : (j : Int) - r - 1 = kk := hkk
      clear hkk
      go_wp2_with fail
      refine (callS (l00In_any _ _ _ _) HK.out).mono ?_
      rintro e w' ⟨rfl, rfl⟩
      go_wp2_with fail
      refine HBF.out.mono ?_
      rintro e w2 ⟨rfl, g2⟩
      have U2 := Lib.hid g2
      clear g2 HBF
      have hbd := HBD.out
      have f4' := f4
      have b4'' := b4'
      go_wp2_with fail
      refine (l10Cross_any _ (befM p j kk) (-1) _ _ ⟨hbd.1, by omega⟩ (.inr rfl) b4' f4).mono ?_
      rintro e w3 ⟨v3, rfl, k3, g3⟩
      have U3 := Lib.hid (show Up wr w3 from Chg.trans U2.out (Chg.trans (by repeat (first | exact Chg.refl _ _ | apply Chg.drew | apply Chg.drewN | refine Chg.alloc ?_ _)) g3))
      have K3 := Lib.hid k3
      have hz3 := U3.out.size
      obtain ⟨A9, c9, rfl, -⟩ := k3.shape
      clear k3 g3 hbd
      go_wp2_with (at_builtin; refine wp_appendEvs rfl _ _ rfl w.heap.size _ (rackTo p r 1 j) rfl (ho.out.up U3.out) _ _ _ rfl K3.out HLL.out (by omega) ?_; intro v' w' h1 h2 h3; have HO := Lib.hid h1; have HG := Lib.hid h3; clear h1 h2 h3)
      go_roundw
      case rel => exact ⟨j + 1, by omega, by go_num, by show Hid _; rw [HFE.out]; exact HO, Lib.hid (Chg.new (Chg.trans hu.out U3.out) HG.out (fun i hi => by omega))⟩
      case measure => first | (simp [intOf]; done) | (simp [intOf]; omega)
    · obtain rfl : j = p.fr.length := by omega
      have y1 := (Chg.frozen hu.out Q1.out id).trans Y1.out
      have hr3 := HR.out
      go_wp2
      go_ret
      exact ⟨_, wr, rfl, ho.out.rd, hu.out, rfl⟩
theorem l10Rack_down (w : World) (M H L : Nat → Prop) (bm : Nat) (p : MacM) (hp : FewM p) (r : Int) (hr : -3 ≤ r ∧ r ≤ 3) (A0 A1 : Option Addr) (c0 c1 : Nat) (q0 : w.cell? ⟨bm, 0, none⟩ = some (.int .i64 p.wd)) (q1 : w.cell? ⟨bm, 1, none⟩ = some (.int .i64 r)) (q2 : w.cell? ⟨bm, 2, none⟩ = some (.slice A0 p.fr.length c0)) (q3 : w.cell? ⟨bm, 3, none⟩ = some (.slice A1 p.bk.length c1)) (h0 : IntSSV w M H L (.slice A0 p.fr.length c0) p.fr) (h1 : IntSSV w M H L (.slice A1 p.bk.length c1) p.bk) (y1 : w.frozen? ⟨bm, 1, none⟩ = false) :
    Calls Try.prog 95 #[.pointer (some ⟨bm, 0, none⟩), .int .i64 (-1)] w fun e w' => ∃ v w1, e = .returned v ∧ Evs w1 (New w.heap.size w1.heap.size) v (oneRack p r (-1)) ∧ Up w w1 ∧ w' = w1.setCell ⟨bm, 1, none⟩ (.int .i64 (r + (-1))) := by
  have H0 := Lib.hid h0
  have H1 := Lib.hid h1
  have Y1 := Lib.hid y1
  have hbm := World.block_lt_of_cell? w _ q0
  have Q0 := Lib.hid q0
  have Q1 := Lib.hid q1
  have Q2 := Lib.hid q2
  have Q3 := Lib.hid q3
  have HP := Lib.hid hp
  have HNN := Lib.hid hp.n1
  have HR := Lib.hid hr
  clear h0 h1 q0 q1 q2 q3 y1 hp
  go_enter Try.func95, Try.ntmps95
  go_wp2
  go_loopw [5, 6, 7, 8, 9] (fun v i _ _ _ wr => ∃ j : Nat, j ≤ p.fr.length ∧ i = .int .i64 j ∧ Hid (OwnEvs wr w.heap.size v (rackTo p r (-1) j)) ∧ Hid (Up w wr)) (fun _ i _ _ _ _ => p.fr.length - (intOf i).toNat)
  case atStart => exact ⟨0, by omega, rfl, OwnEvs.made w _ (Nat.le_refl _), (Chg.refl _ _).alloc _⟩
  case round =>
    obtain ⟨j, hj, rfl, ho, hu⟩ := hrel
    have hnn := HNN.out
    have q0 := Chg.cell hu.out Q0.out id
    have q1 := Chg.cell hu.out Q1.out id
    have q2 := Chg.cell hu.out Q2.out id
    have q3 := Chg.cell hu.out Q3.out id
    rw [HP.out.wd] at q0
    have hsz := hu.out.size
    by_cases hlt : j < p.fr.length
    · have HFK := Lib.hid (show facK r (-1) j = ((j : Int) - r) by unfold facK; rw [if_neg (by omega)])
      have HTL := Lib.hid (rackTo_length HP.out r (-1) j)
      have hr2 := hr
      by_cases hk : 0 ≤ ((j : Int) - r) ∧ ((j : Int) - r) < p.fr.length
      rotate_left
      · have HK := Lib.hid (inB_no (n := ((j : Int) - r)) (lo := 0) (hi := (p.fr.length : Int) - 1) (by omega))
        have HE := Lib.hid (show rackTo p r (-1) (j + 1) = rackTo p r (-1) j by rw [rackTo, rackE_no (by rw [HFK.out, HP.out.n2]; exact hk), List.append_nil])
        clear hk
        go_wp2_with fail
        refine (callS (l00In_any _ _ _ _) HK.out).mono ?_
        rintro e w' ⟨rfl, rfl⟩
        go_wp2
        go_roundw
        case rel => exact ⟨j + 1, by omega, by go_num, by show Hid _; rw [HE.out]; exact ho, hu⟩
        case measure => first | (simp [intOf]; done) | (simp [intOf]; omega)
      have HK := Lib.hid (inB_yes (n := ((j : Int) - r)) (lo := 0) (hi := (p.fr.length : Int) - 1) (by omega))
      obtain ⟨kk, hkk⟩ : ∃ kk : Nat, ((j : Int) - r) = kk := ⟨(((j : Int) - r)).toNat, by omega⟩
      have hkb : kk < p.bk.length := by have := HP.out.n2; omega
      have HKK := Lib.hid hkk
      have HFE := Lib.hid (show rackTo p r (-1) (j + 1) = rackTo p r (-1) j ++ crossE (befM p j kk) (1) (lenF p j) (lenB p kk) by rw [rackTo, rackE_down (by rw [HFK.out, HP.out.n2]; exact hk) (by omega), HFK.out, hkk, Int.toNat_natCast])
      obtain ⟨b3, o3, c3', vs3, he3, -, -, -, hE3, hc3⟩ := (H1.out.up hu.out).at_ hkb
      obtain ⟨rfl, rfl⟩ : A1 = some ⟨b3, o3, none⟩ ∧ c1 = c3' := by simpa using he3
      obtain ⟨A7, k7, rfl, -, -, -⟩ := hE3.val
      have e1 := (hc3 0 _ rfl).1
      simp only [Nat.mul_one, Nat.add_zero] at e1
      clear hc3 he3 hE3
      obtain ⟨b4, o4, c4', vs4, he4, -, -, -, hE4, hc4⟩ := (H0.out.up hu.out).at_ hlt
      obtain ⟨rfl, rfl⟩ : A0 = some ⟨b4, o4, none⟩ ∧ c0 = c4' := by simpa using he4
      obtain ⟨A8, k8, rfl, -, -, -⟩ := hE4.val
      have e2 := (hc4 0 _ rfl).1
      simp only [Nat.mul_one, Nat.add_zero] at e2
      clear hc4 he4 hE4
      have lf : lenF p j = p.fr[j].length := by unfold lenF; rw [getD_eq hlt]
      have lb : lenB p kk = p.bk[kk].length := by unfold lenB; rw [getD_eq hkb]
      rw [lf, lb] at HFE
      have f4 := HP.out.f j hlt
      have b4' := HP.out.b kk hkb
      have HBD := Lib.hid (HP.out.bef j kk)
      have hbn := HP.out.n2
      clear lf lb
      have w1 : IntKind.i64.wrap ((j : Int) - r) = kk := by rw [hkk]; exact IntWalk.i64_in _ (by omega)
      have HBF : Hid (Calls Try.prog 96 #[.pointer (some ⟨bm, 0, none⟩), .agg #[.int .i64 1, .int .i64 j]] wr fun e w' => e = .returned (.int .i64 (befM p j kk)) ∧ Up wr w') := Lib.hid ((Before_front wr M H L bm p HP.out r (by omega) _ _ _ _ (Chg.cell hu.out Q0.out id) q1 q2 q3 (H0.out.up hu.out) (H1.out.up hu.out) j ⟨by omega, by omega⟩).mono fun e w' ⟨h1, h2⟩ => ⟨h1.trans (by rw [show (j : Int) - r = kk from by omega]), h2⟩)
      have HLL := Lib.hid (show (rackTo p r (-1) j).length + (crossE (befM p j kk) (1) p.fr[j].length p.bk[kk].length).length ≤ 1099511627776 by rw [crossE_length]; have h1 := HTL.out; have h2 : p.bk[kk].length * p.fr[j].length ≤ 4 * 4 := Nat.mul_le_mul (by omega) (by omega); omega)
      clear hr2
      rw [hkk] at HK
      have hki : (kk : Int) < (p.bk.length : Int) := by omega
      have hk0 : (0 : Int) ≤ kk := by omega
      clear hk
      have hw : (j : Int) - r = kk := hkk
      clear hkk
      go_wp2_with fail
      refine (callS (l00In_any _ _ _ _) HK.out).mono ?_
      rintro e w' ⟨rfl, rfl⟩
      go_wp2_with fail
      refine HBF.out.mono ?_
      rintro e w2 ⟨rfl, g2⟩
      have U2 := Lib.hid g2
      clear g2 HBF
      have hbd := HBD.out
      have f4' := f4
      have b4'' := b4'
      go_wp2_with fail
      go_wp2_with fail
      refine (l10Cross_any _ (befM p j kk) 1 _ _ ⟨hbd.1, by omega⟩ (.inl rfl) f4 b4').mono ?_
      rintro e w3 ⟨v3, rfl, k3, g3⟩
      have U3 := Lib.hid (show Up wr w3 from Chg.trans U2.out (Chg.trans (by repeat (first | exact Chg.refl _ _ | apply Chg.drew | apply Chg.drewN | refine Chg.alloc ?_ _)) g3))
      have K3 := Lib.hid k3
      have hz3 := U3.out.size
      obtain ⟨A9, c9, rfl, -⟩ := k3.shape
      clear k3 g3 hbd
      go_wp2_with (at_builtin; refine wp_appendEvs rfl _ _ rfl w.heap.size _ (rackTo p r (-1) j) rfl (ho.out.up U3.out) _ _ _ rfl K3.out HLL.out (by omega) ?_; intro v' w' h1 h2 h3; have HO := Lib.hid h1; have HG := Lib.hid h3; clear h1 h2 h3)
      go_roundw
      case rel => exact ⟨j + 1, by omega, by go_num, by show Hid _; rw [HFE.out]; exact HO, Lib.hid (Chg.new (Chg.trans hu.out U3.out) HG.out (fun i hi => by omega))⟩
      case measure => first | (simp [intOf]; done) | (simp [intOf]; omega)
    · obtain rfl : j = p.fr.length := by omega
      have y1 := (Chg.frozen hu.out Q1.out id).trans Y1.out
      have hr3 := HR.out
      go_wp2
      go_ret
      exact ⟨_, wr, rfl, ho.out.rd, hu.out, rfl⟩
end Go.Proofs.Ytplabnjdhkmmkaa
end
section
set_option maxRecDepth 100000
set_option maxHeartbeats 4000000
set_option linter.unusedSimpArgs false
set_option linter.unusedVariables false
namespace Go.Proofs.Ytplabnjdhkmmkaa
open Go.ChangeShapes Go.WideShapes Go.ChangeAt Go.RowKit
theorem Chg.newS {S T : Nat → Prop} {a b c : World} (h : Chg S a b) (k : Chg T b c) (hT : ∀ i, i < a.heap.size → ¬ T i) : Chg S a c :=
  ⟨k.os.trans h.os, k.tape.trans h.tape, k.output.trans h.output, Nat.le_trans h.size k.size, fun i hi hn => (k.block i (Nat.lt_of_lt_of_le hi h.size) (hT i hi)).trans (h.block i hi hn)⟩
theorem l10Do_rackJ (w : World) (J : World → Int → Prop) (M H L : Nat → Prop) (bm bo oi : Nat) (p : MacM) (hp : FewM p) (hr : -3 ≤ p.rk ∧ p.rk ≤ 3) (t : Int) (ht : -3 ≤ t ∧ t ≤ 3) (A0 A1 : Option Addr) (c0 c1 : Nat) (q0 : w.cell? ⟨bm, 0, none⟩ = some (.int .i64 p.wd)) (q1 : w.cell? ⟨bm, 1, none⟩ = some (.int .i64 p.rk)) (q2 : w.cell? ⟨bm, 2, none⟩ = some (.slice A0 p.fr.length c0)) (q3 : w.cell? ⟨bm, 3, none⟩ = some (.slice A1 p.bk.length c1)) (h0 : IntSSV w M H L (.slice A0 p.fr.length c0) p.fr) (h1 : IntSSV w M H L (.slice A1 p.bk.length c1) p.bk) (y1 : w.frozen? ⟨bm, 1, none⟩ = false) (hbo : bo ≠ bm) (hj : J w p.rk) (hJu : ∀ a b r, Up a b → J a r → J b r) (hJn : ∀ a b r, Chg (fun x => w.heap.size ≤ x) a b → J a r → J b r) (hJs : ∀ a r r', J a r → J (a.setCell ⟨bm, 1, none⟩ (.int .i64 r')) r') (z0 : w.cell? ⟨bo, oi, none⟩ = some (.int .i64 7)) (z5 : w.cell? ⟨bo, oi + 7, none⟩ = some (.int .i64 t)) (hM : ∀ b, M b ∨ H b ∨ L b → b ≠ bm) :
    Calls Try.prog 71 #[.pointer (some ⟨bm, 0, none⟩), .pointer (some ⟨bo, oi, none⟩)] w fun e w' => ∃ v, e = .returned (.tuple #[v, .int .i64 0]) ∧ Evs w' (New w.heap.size w'.heap.size) v (rackAllM p t) ∧ J w' t ∧ Chg (fun b => b = bm) w w' := by
  have H0 := Lib.hid h0
  have H1 := Lib.hid h1
  have hbm := World.block_lt_of_cell? w _ q0
  have hbl := World.block_lt_of_cell? w _ z0
  have HMM := Lib.hid hM
  have HBO := Lib.hid hbo
  have HJ0 := Lib.hid hj
  have HJU := Lib.hid hJu
  have HJN := Lib.hid hJn
  have HJS := Lib.hid hJs
  have Q0 := Lib.hid q0
  have Q1 := Lib.hid q1
  have Q2 := Lib.hid q2
  have Q3 := Lib.hid q3
  have Y1 := Lib.hid y1
  have Z0 := Lib.hid z0
  have Z5 := Lib.hid z5
  have HP := Lib.hid hp
  have HR := Lib.hid hr
  have HT := Lib.hid ht
  obtain ⟨k1, hk1⟩ : ∃ k1, k1 = (t - p.rk).toNat := ⟨_, rfl⟩
  have HK1 := Lib.hid hk1
  clear h0 h1 hM hbo hj hJu hJn hJs q0 q1 q2 q3 y1 z5 hp hr ht hk1
  go_enter Try.func71, Try.ntmps71
  go_wp2
  go_loopw [6] (fun v wr => ∃ n : Nat, n ≤ k1 ∧ Hid (OwnEvs wr w.heap.size v (racksTo p p.rk 1 n)) ∧ Hid (wr.cell? ⟨bm, 0, none⟩ = some (.int .i64 p.wd)) ∧ Hid (wr.cell? ⟨bm, 1, none⟩ = some (.int .i64 (p.rk + 1 * (n : Int))) ∧ wr.frozen? ⟨bm, 1, none⟩ = false) ∧ Hid (wr.cell? ⟨bm, 2, none⟩ = some (.slice A0 p.fr.length c0) ∧ wr.cell? ⟨bm, 3, none⟩ = some (.slice A1 p.bk.length c1)) ∧ Hid (J wr (p.rk + 1 * (n : Int))) ∧ Hid (Chg (fun b => b = bm) w wr)) (fun _ wr => (t - cellInt wr ⟨bm, 1, none⟩).toNat)
  case atStart => exact ⟨0, Nat.zero_le _, Lib.hid (OwnEvs.made w _ (Nat.le_refl _)), Lib.hid (Chg.cell ((Chg.refl Nowhere w).alloc _) Q0.out id), Lib.hid ⟨(Chg.cell ((Chg.refl Nowhere w).alloc _) Q1.out id).trans (by simp), (Chg.frozen ((Chg.refl Nowhere w).alloc _) Q1.out id).trans Y1.out⟩, Lib.hid ⟨Chg.cell ((Chg.refl Nowhere w).alloc _) Q2.out id, Chg.cell ((Chg.refl Nowhere w).alloc _) Q3.out id⟩, Lib.hid (by rw [show p.rk + 1 * ((0 : Nat) : Int) = p.rk by omega]; exact HJU.out _ _ _ ((Chg.refl _ _).alloc _) HJ0.out), Lib.hid ((Chg.refl _ _).alloc _)⟩
  case round =>
    obtain ⟨n, hn, ho, hc0, hc1, hc23, hj, hu⟩ := hrel
    obtain ⟨r, hr0⟩ : ∃ r, r = p.rk + 1 * (n : Int) := ⟨_, rfl⟩
    have HRN := Lib.hid hr0
    obtain ⟨e1, f1⟩ := hc1.out
    rw [← hr0] at e1
    have hj := hj.out
    rw [← hr0] at hj
    have HJ := Lib.hid hj
    clear hj
    have e0 := hc0.out
    obtain ⟨e2, e3⟩ := hc23.out
    have hr1 := HR.out
    have ht1 := HT.out
    have hkk := HK1.out
    have z0 := Chg.cell hu.out Z0.out (fun h => HBO.out h)
    have z5 := Chg.cell hu.out Z5.out (fun h => HBO.out h)
    by_cases hlt : n < k1
    · have hlt2 : r < t := by omega
      have hrb : -3 ≤ r ∧ r ≤ 3 := by omega
      have HLT := Lib.hid hlt
      have hdd : decide (r < t) = true := decide_eq_true hlt2
      have HRK := Lib.hid (fun W (g : Chg (fun b => b = bm) wr W) (gu : Up wr W) => l10Rack_up W M H L bm p HP.out r hrb A0 A1 c0 c1 (Chg.cell gu e0 id) (Chg.cell gu e1 id) (Chg.cell gu e2 id) (Chg.cell gu e3 id) (H0.out.keep (Chg.trans hu.out g) (fun b h => HMM.out b h)) (H1.out.keep (Chg.trans hu.out g) (fun b h => HMM.out b h)) ((Chg.frozen gu e1 id).trans f1))
      have E0 := Lib.hid e0
      have E1 := Lib.hid e1
      have E2 := Lib.hid e2
      have E3 := Lib.hid e3
      have F1 := Lib.hid f1
      clear hkk hr0 hlt e0 e2 e3
      go_wp2_with fail
      go_quiet (fail)
      go_wp2_with fail
      refine (HRK.out _ (by repeat (first | exact Chg.refl _ _ | apply Chg.drew | apply Chg.drewN | refine Chg.alloc ?_ _)) (by repeat (first | exact Chg.refl _ _ | apply Chg.drew | apply Chg.drewN | refine Chg.alloc ?_ _))).mono ?_
      rintro e w' ⟨v3, w3, rfl, k3, g3, rfl⟩
      have U3 := Lib.hid (show Up wr w3 from Chg.trans (by repeat (first | exact Chg.refl _ _ | apply Chg.drew | apply Chg.drewN | refine Chg.alloc ?_ _)) g3)
      have hzr := hu.out.size
      have hz3 := U3.out.size
      have CB := Lib.hid (show Chg (fun b => b = bm) w3 (w3.setCell ⟨bm, 1, none⟩ (.int .i64 (r + 1))) from (Chg.refl _ _).setCell (.inl (show bm = bm from rfl)) _)
      have K4 := Lib.hid (k3.keep CB.out (fun b _ hS h => by have h1 : wr.heap.size ≤ b := (by simpa using hS.1); have h2 : b = bm := h; omega))
      have O4 := Lib.hid ((ho.out.up U3.out).kept CB.out (fun g hg h => by have h1 := (ho.out.lt hg).1; have h2 : g = bm := h; omega))
      obtain ⟨A9, c9, rfl, -⟩ := k3.shape
      clear k3 g3
      have X0 : Hid ((w3.setCell ⟨bm, 1, none⟩ (.int .i64 (r + 1))).cell? ⟨bm, 0, none⟩ = _) := Lib.hid ((World.cell?_setCell_other _ _ _ _ (fun e => by injection e with e1 e2; omega)).trans (Chg.cell U3.out E0.out id))
      have X2 : Hid ((w3.setCell ⟨bm, 1, none⟩ (.int .i64 (r + 1))).cell? ⟨bm, 2, none⟩ = _) := Lib.hid ((World.cell?_setCell_other _ _ _ _ (fun e => by injection e with e1 e2; omega)).trans (Chg.cell U3.out E2.out id))
      have X3 : Hid ((w3.setCell ⟨bm, 1, none⟩ (.int .i64 (r + 1))).cell? ⟨bm, 3, none⟩ = _) := Lib.hid ((World.cell?_setCell_other _ _ _ _ (fun e => by injection e with e1 e2; omega)).trans (Chg.cell U3.out E3.out id))
      have X1 := Lib.hid (World.cell?_setCell_same w3 ⟨bm, 1, none⟩ (.int .i64 (r + 1)) (Chg.cell U3.out E1.out id))
      have XF : Hid ((w3.setCell ⟨bm, 1, none⟩ (.int .i64 (r + 1))).frozen? ⟨bm, 1, none⟩ = false) := Lib.hid (by rw [World.frozen?_setCell]; exact (Chg.frozen U3.out E1.out id).trans F1.out)
      have HZ4 := Lib.hid (show w.heap.size ≤ (w3.setCell ⟨bm, 1, none⟩ (.int .i64 (r + 1))).heap.size by have h := CB.out.size; omega)
      have HJ4 := Lib.hid (HJS.out w3 r (r + 1) (HJU.out _ _ _ U3.out HJ.out))
      generalize (w3.setCell ⟨bm, 1, none⟩ (.int .i64 (r + 1))) = w4 at HJ4 CB K4 O4 X0 X1 X2 X3 XF HZ4 ⊢
      have HL := Lib.hid (show (racksTo p p.rk 1 n).length + (oneRack p r 1).length ≤ 1099511627776 by have h1 := racksTo_length HP.out p.rk 1 n; have h2 := oneRack_length HP.out r 1; have h3 := HLT.out; have h4 := HK1.out; omega)
      go_wp2_with (at_builtin; refine wp_appEvs2 rfl _ _ rfl w.heap.size _ (racksTo p p.rk 1 n) rfl O4.out _ _ _ rfl K4.out HL.out HZ4.out ?_; intro v' w' h1 h2 h3 h4; have HO := Lib.hid h1; have HGB := Lib.hid h4; clear h1 h2 h3 h4)
      have y0 := Lib.hid (Chg.cell HGB.out X0.out (fun h => by have h : w.heap.size ≤ bm := h; omega))
      have y1 := Lib.hid (Chg.cell HGB.out X1.out (fun h => by have h : w.heap.size ≤ bm := h; omega))
      have y2 := Lib.hid (Chg.cell HGB.out X2.out (fun h => by have h : w.heap.size ≤ bm := h; omega))
      have y3 := Lib.hid (Chg.cell HGB.out X3.out (fun h => by have h : w.heap.size ≤ bm := h; omega))
      have yf := Lib.hid ((Chg.frozen HGB.out X1.out (fun h => by have h : w.heap.size ≤ bm := h; omega)).trans XF.out)
      go_roundw
      case rel =>
        refine ⟨n + 1, by have := HLT.out; omega, Lib.hid ?_, y0, Lib.hid ⟨?_, yf.out⟩, Lib.hid ⟨y2.out, y3.out⟩, Lib.hid (by rw [show p.rk + 1 * ((n + 1 : Nat) : Int) = r + 1 by have := HRN.out; omega]; exact HJN.out _ _ _ HGB.out HJ4.out), Lib.hid ?_⟩
        · have e : racksTo p p.rk 1 (n + 1) = (racksTo p p.rk 1 n) ++ oneRack p r 1 := by rw [HRN.out]; rfl
          rw [e]
          exact HO.out
        · rw [y1.out, HRN.out]
          congr 2
          have : ((n + 1 : Nat) : Int) = (n : Int) + 1 := by omega
          rw [this]
          omega
        · exact Chg.newS (Chg.trans hu.out (Chg.trans (Chg.of_up U3.out) CB.out)) HGB.out (fun i hi => by omega)
      case measure =>
        have m0 := cellInt_of E1.out
        have m1 := cellInt_of y1.out
        rw [m0, m1]
        have h1 := HRN.out
        have h2 := HLT.out
        have h3 := HK1.out
        omega
    · have hnk : n = k1 := by omega
      have hrt : r = p.rk + (k1 : Int) := by omega
      have hlt2 : ¬ r < t := by omega
      have hdd : decide (r < t) = false := decide_eq_false hlt2
      obtain ⟨k2, hk2⟩ : ∃ k2, k2 = (p.rk + (k1 : Int) - t).toNat := ⟨_, rfl⟩
      have HK2 := Lib.hid hk2
      have HRT := Lib.hid hrt
      rw [hnk] at ho
      have E0 := Lib.hid e0
      have E1 := Lib.hid e1
      have E2 := Lib.hid e2
      have E3 := Lib.hid e3
      have F1 := Lib.hid f1
      clear hkk hr0 hlt e0 e2 e3 hk2 hrt hnk hn HRN
      go_wp2_with fail
      go_quiet (fail)
      go_wp2
      go_loopw [6] (fun v wx => ∃ n : Nat, n ≤ k2 ∧ Hid (OwnEvs wx w.heap.size v (racksTo p p.rk 1 k1 ++ racksTo p (p.rk + (k1 : Int)) (-1) n)) ∧ Hid (wx.cell? ⟨bm, 0, none⟩ = some (.int .i64 p.wd)) ∧ Hid (wx.cell? ⟨bm, 1, none⟩ = some (.int .i64 (p.rk + (k1 : Int) + (-1) * (n : Int))) ∧ wx.frozen? ⟨bm, 1, none⟩ = false) ∧ Hid (wx.cell? ⟨bm, 2, none⟩ = some (.slice A0 p.fr.length c0) ∧ wx.cell? ⟨bm, 3, none⟩ = some (.slice A1 p.bk.length c1)) ∧ Hid (J wx (p.rk + (k1 : Int) + (-1) * (n : Int))) ∧ Hid (Chg (fun b => b = bm) w wx)) (fun _ wx => (cellInt wx ⟨bm, 1, none⟩ - t).toNat)
      case atStart => exact ⟨0, Nat.zero_le _, Lib.hid (by rw [show racksTo p (p.rk + (k1 : Int)) (-1) 0 = [] from rfl, List.append_nil]; exact ho.out.up (show Up wr _ from (by repeat (first | exact Chg.refl _ _ | apply Chg.drew | apply Chg.drewN | refine Chg.alloc ?_ _)))), Lib.hid (Chg.cell (show Up wr _ from (by repeat (first | exact Chg.refl _ _ | apply Chg.drew | apply Chg.drewN | refine Chg.alloc ?_ _))) E0.out id), Lib.hid ⟨(Chg.cell (show Up wr _ from (by repeat (first | exact Chg.refl _ _ | apply Chg.drew | apply Chg.drewN | refine Chg.alloc ?_ _))) E1.out id).trans (by rw [HRT.out]; simp), (Chg.frozen (show Up wr _ from (by repeat (first | exact Chg.refl _ _ | apply Chg.drew | apply Chg.drewN | refine Chg.alloc ?_ _))) E1.out id).trans F1.out⟩, Lib.hid ⟨Chg.cell (show Up wr _ from (by repeat (first | exact Chg.refl _ _ | apply Chg.drew | apply Chg.drewN | refine Chg.alloc ?_ _))) E2.out id, Chg.cell (show Up wr _ from (by repeat (first | exact Chg.refl _ _ | apply Chg.drew | apply Chg.drewN | refine Chg.alloc ?_ _))) E3.out id⟩, Lib.hid (by rw [show p.rk + (k1 : Int) + (-1) * ((0 : Nat) : Int) = r by have := HRT.out; omega]; exact HJU.out _ _ _ (show Up wr _ from (by repeat (first | exact Chg.refl _ _ | apply Chg.drew | apply Chg.drewN | refine Chg.alloc ?_ _))) HJ.out), Lib.hid (Chg.trans hu.out (Chg.of_up (show Up wr _ from (by repeat (first | exact Chg.refl _ _ | apply Chg.drew | apply Chg.drewN | refine Chg.alloc ?_ _)))))⟩
      case round =>
        obtain ⟨n, hn, ho, hc0, hc1, hc23, hj, hu⟩ := hrel
        obtain ⟨r, hr0⟩ : ∃ r, r = p.rk + (k1 : Int) + (-1) * (n : Int) := ⟨_, rfl⟩
        have HRN := Lib.hid hr0
        obtain ⟨e1, f1⟩ := hc1.out
        rw [← hr0] at e1
        have hj := hj.out
        rw [← hr0] at hj
        have HJ := Lib.hid hj
        clear hj
        have e0 := hc0.out
        obtain ⟨e2, e3⟩ := hc23.out
        have hr1 := HR.out
        have ht1 := HT.out
        have hkk := HK1.out
        have z0 := Chg.cell hu.out Z0.out (fun h => HBO.out h)
        have z5 := Chg.cell hu.out Z5.out (fun h => HBO.out h)
        have hk2 := HK2.out
        by_cases hlt : n < k2
        · have hlt2 : t < r := by omega
          have hrb : -3 ≤ r ∧ r ≤ 3 := by omega
          have HLT := Lib.hid hlt
          have hdd : decide (t < r) = true := decide_eq_true hlt2
          have HRK := Lib.hid (fun W (g : Chg (fun b => b = bm) wr W) (gu : Up wr W) => l10Rack_down W M H L bm p HP.out r hrb A0 A1 c0 c1 (Chg.cell gu e0 id) (Chg.cell gu e1 id) (Chg.cell gu e2 id) (Chg.cell gu e3 id) (H0.out.keep (Chg.trans hu.out g) (fun b h => HMM.out b h)) (H1.out.keep (Chg.trans hu.out g) (fun b h => HMM.out b h)) ((Chg.frozen gu e1 id).trans f1))
          have E0 := Lib.hid e0
          have E1 := Lib.hid e1
          have E2 := Lib.hid e2
          have E3 := Lib.hid e3
          have F1 := Lib.hid f1
          clear hkk hr0 hlt e0 e2 e3 hk2
          go_wp2_with fail
          go_quiet (fail)
          go_wp2_with fail
          refine (HRK.out _ (by repeat (first | exact Chg.refl _ _ | apply Chg.drew | apply Chg.drewN | refine Chg.alloc ?_ _)) (by repeat (first | exact Chg.refl _ _ | apply Chg.drew | apply Chg.drewN | refine Chg.alloc ?_ _))).mono ?_
          rintro e w' ⟨v3, w3, rfl, k3, g3, rfl⟩
          have U3 := Lib.hid (show Up wr w3 from Chg.trans (by repeat (first | exact Chg.refl _ _ | apply Chg.drew | apply Chg.drewN | refine Chg.alloc ?_ _)) g3)
          have hzr := hu.out.size
          have hz3 := U3.out.size
          have CB := Lib.hid (show Chg (fun b => b = bm) w3 (w3.setCell ⟨bm, 1, none⟩ (.int .i64 (r + (-1)))) from (Chg.refl _ _).setCell (.inl (show bm = bm from rfl)) _)
          have K4 := Lib.hid (k3.keep CB.out (fun b _ hS h => by have h1 : wr.heap.size ≤ b := (by simpa using hS.1); have h2 : b = bm := h; omega))
          have O4 := Lib.hid ((ho.out.up U3.out).kept CB.out (fun g hg h => by have h1 := (ho.out.lt hg).1; have h2 : g = bm := h; omega))
          obtain ⟨A9, c9, rfl, -⟩ := k3.shape
          clear k3 g3
          have X0 : Hid ((w3.setCell ⟨bm, 1, none⟩ (.int .i64 (r + (-1)))).cell? ⟨bm, 0, none⟩ = _) := Lib.hid ((World.cell?_setCell_other _ _ _ _ (fun e => by injection e with e1 e2; omega)).trans (Chg.cell U3.out E0.out id))
          have X2 : Hid ((w3.setCell ⟨bm, 1, none⟩ (.int .i64 (r + (-1)))).cell? ⟨bm, 2, none⟩ = _) := Lib.hid ((World.cell?_setCell_other _ _ _ _ (fun e => by injection e with e1 e2; omega)).trans (Chg.cell U3.out E2.out id))
          have X3 : Hid ((w3.setCell ⟨bm, 1, none⟩ (.int .i64 (r + (-1)))).cell? ⟨bm, 3, none⟩ = _) := Lib.hid ((World.cell?_setCell_other _ _ _ _ (fun e => by injection e with e1 e2; omega)).trans (Chg.cell U3.out E3.out id))
          have X1 := Lib.hid (World.cell?_setCell_same w3 ⟨bm, 1, none⟩ (.int .i64 (r + (-1))) (Chg.cell U3.out E1.out id))
          have XF : Hid ((w3.setCell ⟨bm, 1, none⟩ (.int .i64 (r + (-1)))).frozen? ⟨bm, 1, none⟩ = false) := Lib.hid (by rw [World.frozen?_setCell]; exact (Chg.frozen U3.out E1.out id).trans F1.out)
          have HZ4 := Lib.hid (show w.heap.size ≤ (w3.setCell ⟨bm, 1, none⟩ (.int .i64 (r + (-1)))).heap.size by have h := CB.out.size; omega)
          have HJ4 := Lib.hid (HJS.out w3 r (r + (-1)) (HJU.out _ _ _ U3.out HJ.out))
          generalize (w3.setCell ⟨bm, 1, none⟩ (.int .i64 (r + (-1)))) = w4 at HJ4 CB K4 O4 X0 X1 X2 X3 XF HZ4 ⊢
          have HL := Lib.hid (show (racksTo p p.rk 1 k1 ++ racksTo p (p.rk + (k1 : Int)) (-1) n).length + (oneRack p r (-1)).length ≤ 1099511627776 by have h1 := racksTo_length HP.out (p.rk + (k1 : Int)) (-1) n; have h0 := racksTo_length HP.out p.rk 1 k1; have h2 := oneRack_length HP.out r (-1); have h3 := HLT.out; have h4 := HK1.out; have h5 := HK2.out; rw [List.length_append]; omega)
          go_wp2_with (at_builtin; refine wp_appEvs2 rfl _ _ rfl w.heap.size _ (racksTo p p.rk 1 k1 ++ racksTo p (p.rk + (k1 : Int)) (-1) n) rfl O4.out _ _ _ rfl K4.out HL.out HZ4.out ?_; intro v' w' h1 h2 h3 h4; have HO := Lib.hid h1; have HGB := Lib.hid h4; clear h1 h2 h3 h4)
          have y0 := Lib.hid (Chg.cell HGB.out X0.out (fun h => by have h : w.heap.size ≤ bm := h; omega))
          have y1 := Lib.hid (Chg.cell HGB.out X1.out (fun h => by have h : w.heap.size ≤ bm := h; omega))
          have y2 := Lib.hid (Chg.cell HGB.out X2.out (fun h => by have h : w.heap.size ≤ bm := h; omega))
          have y3 := Lib.hid (Chg.cell HGB.out X3.out (fun h => by have h : w.heap.size ≤ bm := h; omega))
          have yf := Lib.hid ((Chg.frozen HGB.out X1.out (fun h => by have h : w.heap.size ≤ bm := h; omega)).trans XF.out)
          go_roundw
          case rel =>
            refine ⟨n + 1, by have := HLT.out; omega, Lib.hid ?_, y0, Lib.hid ⟨?_, yf.out⟩, Lib.hid ⟨y2.out, y3.out⟩, Lib.hid (by rw [show p.rk + (k1 : Int) + (-1) * ((n + 1 : Nat) : Int) = r + (-1) by have := HRN.out; omega]; exact HJN.out _ _ _ HGB.out HJ4.out), Lib.hid ?_⟩
            · have e : racksTo p p.rk 1 k1 ++ racksTo p (p.rk + (k1 : Int)) (-1) (n + 1) = (racksTo p p.rk 1 k1 ++ racksTo p (p.rk + (k1 : Int)) (-1) n) ++ oneRack p r (-1) := by rw [HRN.out]; rw [List.append_assoc]; rfl
              rw [e]
              exact HO.out
            · rw [y1.out, HRN.out]
              congr 2
              have : ((n + 1 : Nat) : Int) = (n : Int) + 1 := by omega
              rw [this]
              omega
            · exact Chg.newS (Chg.trans hu.out (Chg.trans (Chg.of_up U3.out) CB.out)) HGB.out (fun i hi => by omega)
          case measure =>
            have m0 := cellInt_of E1.out
            have m1 := cellInt_of y1.out
            rw [m0, m1]
            have h1 := HRN.out
            have h2 := HLT.out
            have h3 := HK1.out
            have h4 := HK2.out
            omega
        · have hnk : n = k2 := by omega
          have hlt2 : ¬ t < r := by omega
          have hdd : decide (t < r) = false := decide_eq_false hlt2
          have HFIN := Lib.hid (show racksTo p p.rk 1 k1 ++ racksTo p (p.rk + (k1 : Int)) (-1) k2 = rackAllM p t by
            unfold rackAllM
            by_cases hs : p.rk ≤ t
            · rw [if_pos hs, ← hkk, show k2 = 0 by omega]
              exact List.append_nil _
            · rw [if_neg hs, show k1 = 0 by omega, show (p.rk - t).toNat = k2 by omega, show p.rk + ((0 : Nat) : Int) = p.rk by omega]
              rfl)
          have hrt2 : r = t := by omega
          rw [hrt2] at HJ
          clear hrt2
          rw [hnk] at ho
          clear hkk hr0 hlt e0 e2 e3 hk2 hnk hn HRN
          go_wp2_with fail
          go_quiet (fail)
          go_wp2
          go_ret2
          exact ⟨_, rfl, by rw [← HFIN.out]; exact ho.out.rd.up (by repeat (first | exact Chg.refl _ _ | apply Chg.drew | apply Chg.drewN | refine Chg.alloc ?_ _)), HJU.out _ _ _ (by repeat (first | exact Chg.refl _ _ | apply Chg.drew | apply Chg.drewN | refine Chg.alloc ?_ _)) HJ.out, Chg.trans hu.out (Chg.of_up (by repeat (first | exact Chg.refl _ _ | apply Chg.drew | apply Chg.drewN | refine Chg.alloc ?_ _)))⟩
end Go.Proofs.Ytplabnjdhkmmkaa
end
