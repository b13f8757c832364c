/- ValidNormal on both sides. No condition. -/
import Derived.Test.YtjgdcjhmfbefdaaPermY
set_option linter.unusedSimpArgs false
set_option linter.unusedVariables false
set_option maxRecDepth 100000
set_option maxHeartbeats 4000000
namespace Go.Proofs.Ytjgdcjhmfbefdaa
open Go.ChangeShapes Go.WideShapes Go.ChangeAt Go.RowKit
def fac (fs : List (List Int)) (i : Nat) : List Int := fs.getD i []
theorem fac_eq {fs : List (List Int)} {i : Nat} (h : i < fs.length) : fac fs i = fs[i] := by unfold fac; simp [h]
/-- whether factor i is fine -/
def facB (n : Int) (fs : List (List Int)) (i : Nat) : Bool :=
  decide (((fac fs i).length : Int) = n) && permB (fac fs i) && !sameL (fac fs i) (identM (fac fs i).length) && !sameL (fac fs i) (halfM (fac fs i).length) && (decide (i = 0) || decide (extraM (fac fs (i - 1)) (fac fs i) = 0))
def okN (x : NormM) : Bool := inB x.n 0 12 && inB x.p (-100) 100 && decide (x.fs.length ≤ 100) && (List.range x.fs.length).all (fun i => facB x.n x.fs i) && (decide (2 ≤ x.n) || decide (x.p = 0))
def facTo (x : NormM) (j : Nat) : Prop := ∀ i, i < j → facB x.n x.fs i = true
theorem facTo.start (x : NormM) : facTo x 0 := fun _ h => absurd h (Nat.not_lt_zero _)
theorem facTo.next {x : NormM} {j : Nat} (h : facTo x j) (hj : facB x.n x.fs j = true) : facTo x (j + 1) := fun i hi => by
  by_cases e : i = j
  · subst e; exact hj
  · exact h i (by omega)
theorem okN_fac {x : NormM} {j : Nat} (hj : j < x.fs.length) (h : facB x.n x.fs j = false) : okN x = false := by
  unfold okN
  have : (List.range x.fs.length).all (fun i => facB x.n x.fs i) = false := by
    rw [List.all_eq_false]
    exact ⟨j, List.mem_range.2 hj, by rw [h]; decide⟩
  rw [this]
  simp
theorem okN_all {x : NormM} (h : facTo x x.fs.length) (h1 : inB x.n 0 12 = true) (h2 : inB x.p (-100) 100 = true) (h3 : x.fs.length ≤ 100) : okN x = (decide (2 ≤ x.n) || decide (x.p = 0)) := by
  unfold okN
  have : (List.range x.fs.length).all (fun i => facB x.n x.fs i) = true := List.all_eq_true.2 fun i hi => h i (List.mem_range.1 hi)
  rw [h1, h2, decide_eq_true h3, this]
  simp
theorem okN_n {x : NormM} (h : inB x.n 0 12 = false) : okN x = false := by unfold okN; rw [h]; rfl
theorem okN_p {x : NormM} (h : inB x.p (-100) 100 = false) : okN x = false := by unfold okN; rw [h]; simp
theorem okN_l {x : NormM} (h : ¬ x.fs.length ≤ 100) : okN x = false := by unfold okN; rw [decide_eq_false h]; simp
theorem perm_small {p : List Int} (h : permB p = true) (hl : p.length < 2) : p = identM p.length := by
  match p, hl with
  | [], _ => rfl
  | [a], _ =>
    have := permB_in h a (by simp)
    simp at this
    obtain rfl : a = 0 := by omega
    rfl
theorem okN_few {x : NormM} (hn : x.n < 2) (h : x.p ≠ 0 ∨ 0 < x.fs.length) : okN x = false := by
  rcases h with h | h
  · unfold okN
    rw [decide_eq_false h, decide_eq_false (by omega : ¬ (2 : Int) ≤ x.n)]
    simp
  · refine okN_fac h ?_
    cases hb : facB x.n x.fs 0 with
    | false => rfl
    | true =>
      unfold facB at hb
      simp only [Bool.and_eq_true, decide_eq_true_eq, Bool.not_eq_true'] at hb
      obtain ⟨⟨⟨⟨h1, h2⟩, h3⟩, -⟩, -⟩ := hb
      exact absurd (perm_small h2 (by omega)) (of_decide_eq_false h3)
theorem facB_len {n : Int} {fs : List (List Int)} {i : Nat} (h : ¬ ((fac fs i).length : Int) = n) : facB n fs i = false := by unfold facB; rw [decide_eq_false h]; rfl
theorem facB_perm {n : Int} {fs : List (List Int)} {i : Nat} (h : permB (fac fs i) = false) : facB n fs i = false := by unfold facB; rw [h]; simp
theorem facB_id {n : Int} {fs : List (List Int)} {i : Nat} (h : sameL (fac fs i) (identM (fac fs i).length) = true) : facB n fs i = false := by unfold facB; rw [h]; simp
theorem facB_half {n : Int} {fs : List (List Int)} {i : Nat} (h : sameL (fac fs i) (halfM (fac fs i).length) = true) : facB n fs i = false := by unfold facB; rw [h]; simp
theorem facB_rest {n : Int} {fs : List (List Int)} {i : Nat} (h0 : ((fac fs i).length : Int) = n) (h1 : permB (fac fs i) = true) (h2 : sameL (fac fs i) (identM (fac fs i).length) = false) (h3 : sameL (fac fs i) (halfM (fac fs i).length) = false) : facB n fs i = (decide (i = 0) || decide (extraM (fac fs (i - 1)) (fac fs i) = 0)) := by
  unfold facB
  rw [decide_eq_true h0, h1, h2, h3]
  rfl
theorem facTo.perm {x : NormM} {j i : Nat} (h : facTo x j) (hi : i < j) : permB (fac x.fs i) = true := by
  have := h i hi
  unfold facB at this
  simp only [Bool.and_eq_true] at this
  exact this.1.1.1.2
theorem identM_len12 {p : List Int} (h : permB p = true) : p.length ≤ 1000 := by have := permB_len h; omega
theorem callI {f : FuncId} {args : Array Value} {w : World} {b c : Int} (h : Calls Try.prog f args w fun e w' => e = .returned (.int .i64 b) ∧ Up w w') (hb : b = c) : Calls Try.prog f args w fun e w' => e = .returned (.int .i64 c) ∧ Up w w' := hb ▸ h
theorem sIs_any (w : World) (S S' : Nat → Prop) (v u : Value) (xs ys : List Int) (h : Ints w S v xs) (h2 : Ints w S' u ys) :
    Calls Try.prog 211 #[v, u] w fun e w' => e = .returned (.bool (sameL xs ys)) ∧ Up w w' := by
  obtain ⟨A, c, rfl, hlc, hcm, -⟩ := h.shape
  obtain ⟨A2, c2, rfl, hlc2, hcm2, -⟩ := h2.shape
  have H := Lib.hid h
  have H2 := Lib.hid h2
  clear h h2
  go_enter Try.func211, Try.ntmps211
  go_wp2_with fail
  refine (l00Same_any _ _ _ _ _ _ _ H.out H2.out).mono ?_
  rintro e w1 ⟨rfl, g1⟩
  have G := Lib.hid g1
  clear g1
  go_wp2
  go_ret
  exact ⟨rfl, G.out⟩
theorem isStrands_any (w : World) (n : Int) : Calls Try.prog 155 #[.int .i64 n] w fun e w' => e = .returned (.bool (inB n 0 12)) ∧ w = w' := by
  go_enter Try.func155, Try.ntmps155
  go_wp2_with fail
  refine (within_any _ _ _ _).mono ?_
  rintro e w' ⟨rfl, rfl⟩
  go_wp2
  go_ret
  exact ⟨rfl, rfl⟩
theorem l04Ok_any (w : World) (M H L : Nat → Prop) (b o : Nat) (x : NormM) (A : Option Addr) (c : Nat) (f0 : w.cell? ⟨b, o, none⟩ = some (.int .i64 x.n)) (f1 : w.cell? ⟨b, o + 1, none⟩ = some (.int .i64 x.p)) (f2 : w.cell? ⟨b, o + 2, none⟩ = some (.slice A x.fs.length c))
    (h : IntSSV w M H L (.slice A x.fs.length c) x.fs) (hlc : x.fs.length ≤ c) (hcm : c ≤ 9223372036854775807) :
    Calls Try.prog 153 #[.pointer (some ⟨b, o, none⟩)] w fun e w' => e = .returned (.bool (okN x)) ∧ Up w w' := by
  have H0 := Lib.hid h
  clear h
  cases hn : inB x.n 0 12 with
  | false =>
    have HN := Lib.hid hn
    have HB := Lib.hid (okN_n hn)
    clear hn
    go_enter Try.func153, Try.ntmps153
    go_wp2_with fail
    refine (callS (l00In_any _ _ _ _) HN.out).mono ?_
    rintro e w' ⟨rfl, rfl⟩
    go_wp2
    go_ret
    exact ⟨ret_bool HB.out.symm, Chg.refl _ _⟩
  | true =>
  cases hp : inB x.p (-100) 100 with
  | false =>
    have HN := Lib.hid hn
    have HP := Lib.hid hp
    have HB := Lib.hid (okN_p hp)
    clear hn hp
    go_enter Try.func153, Try.ntmps153
    go_wp2_with fail
    refine (callS (l00In_any _ _ _ _) HN.out).mono ?_
    rintro e w' ⟨rfl, rfl⟩
    go_wp2_with fail
    refine (callS (l00In_any _ _ _ _) HP.out).mono ?_
    rintro e w' ⟨rfl, rfl⟩
    go_wp2
    go_ret
    exact ⟨ret_bool HB.out.symm, Chg.refl _ _⟩
  | true =>
  have HN := Lib.hid hn
  have HP := Lib.hid hp
  have HI := Lib.hid (of_decide_eq_true (show decide (0 ≤ x.n ∧ x.n ≤ 12) = true from hn))
  clear hn hp
  by_cases hl : x.fs.length ≤ 100
  rotate_left
  · have HB := Lib.hid (okN_l hl)
    go_enter Try.func153, Try.ntmps153
    go_wp2_with fail
    refine (callS (l00In_any _ _ _ _) HN.out).mono ?_
    rintro e w' ⟨rfl, rfl⟩
    go_wp2_with fail
    refine (callS (l00In_any _ _ _ _) HP.out).mono ?_
    rintro e w' ⟨rfl, rfl⟩
    go_wp2
    go_ret
    exact ⟨ret_bool HB.out.symm, Chg.refl _ _⟩
  have key : ∀ (hfew : x.n < 2 → x.p = 0 ∧ ¬ 0 < x.fs.length), Calls Try.prog 153 #[.pointer (some ⟨b, o, none⟩)] w fun e w' => e = .returned (.bool (okN x)) ∧ Up w w' := by
    intro hfew
    have HF := Lib.hid hfew
    have HFIN : Hid (facTo x x.fs.length → okN x = true) := Lib.hid fun h => by
      rw [okN_all h HN.out HP.out hl]
      by_cases h2 : 2 ≤ x.n
      · rw [decide_eq_true h2]; rfl
      · rw [decide_eq_true (HF.out (by omega)).1]; simp
    have Hf0 := Lib.hid f0
    have Hf1 := Lib.hid f1
    have Hf2 := Lib.hid f2
    have hw0 : Hid (Up w w) := Lib.hid (Chg.refl _ _)
    by_cases hs : x.n < 2
    · obtain ⟨hp0, hl0⟩ := hfew hs
      have hb1 : (x.p != 0) = false := by simp [hp0]
      have hb2 : decide (0 < x.fs.length) = false := decide_eq_false hl0
      have HL0 := Lib.hid hl0
      clear hp0 hl0 hfew
      go_enter Try.func153, Try.ntmps153
      go_wp2_with fail
      refine (callS (l00In_any _ _ _ _) HN.out).mono ?_
      rintro e w' ⟨rfl, rfl⟩
      go_wp2_with fail
      refine (callS (l00In_any _ _ _ _) HP.out).mono ?_
      rintro e w' ⟨rfl, rfl⟩
      have HB := Lib.hid (HFIN.out (fun i hi => absurd hi (by have := HL0.out; omega)))
      have hz : x.fs.length = 0 := by have := HL0.out; omega
      go_wp2
      go_loop [3] (fun i => i = .int .i64 0) (fun _ => 0)
      case atStart => rfl
      case round =>
        obtain rfl := hrel
        go_wp2
        go_ret
        exact ⟨ret_bool HB.out.symm, Chg.refl _ _⟩
    clear hfew
    go_enter Try.func153, Try.ntmps153
    go_wp2_with fail
    refine (callS (l00In_any _ _ _ _) HN.out).mono ?_
    rintro e w' ⟨rfl, rfl⟩
    go_wp2_with fail
    refine (callS (l00In_any _ _ _ _) HP.out).mono ?_
    rintro e w' ⟨rfl, rfl⟩
    go_wp2
    clear f0 f1 f2
    go_loopw [3] (fun i wr => ∃ j : Nat, j ≤ x.fs.length ∧ i = .int .i64 j ∧ Hid (Up w wr) ∧ Hid (facTo x j)) (fun i _ => x.fs.length - (intOf i).toNat)
    case atStart => exact ⟨0, by omega, rfl, Chg.refl _ _, facTo.start x⟩
    case round =>
      obtain ⟨j, hj, rfl, hu, hp⟩ := hrel
      have f0 := Chg.cell hu.out Hf0.out id
      have f1 := Chg.cell hu.out Hf1.out id
      have f2 := Chg.cell hu.out Hf2.out id
      clear Hf0 Hf1 Hf2
      have U0 : Hid (Up wr wr) := Lib.hid (Chg.refl _ _)
      by_cases hlt : j < x.fs.length
      · skip
        obtain ⟨b3, o3, c3', vs3, he3, -, -, -, hE3, hc3⟩ := (H0.out.up hu.out).at_ hlt
        obtain ⟨rfl, rfl⟩ : A = some ⟨b3, o3, none⟩ ∧ c = c3' := by simpa using he3
        obtain ⟨A3, k3, rfl, hv3, -⟩ := IntsE.val hE3
        have e0 := (hc3 0 _ rfl).1
        simp only [Nat.mul_one, Nat.add_zero] at e0
        have HV := Lib.hid hv3
        have He0 := Lib.hid e0
        clear hc3 hv3 he3
        have Hf1 := Lib.hid f1
        have Hf2 := Lib.hid f2
        have EF := Lib.hid (fac_eq hlt)
        by_cases hn : (x.fs[j].length : Int) = x.n
        rotate_left
        · have HB := Lib.hid (okN_fac hlt (facB_len (by rw [EF.out]; exact hn)))
          have hbn : ((x.fs[j].length : Int) != x.n) = true := by simpa using hn
          clear hn
          go_wp2
          go_ret
          exact ⟨ret_bool HB.out.symm, Chg.trans hu.out (by repeat (first | exact Chg.refl _ _ | apply Chg.drew | apply Chg.drewN | refine Chg.alloc ?_ _))⟩
        rw [← hn] at f0
        have Hf0 := Lib.hid f0
        have HN := Lib.hid hn
        clear hn
        cases hpm : permB x.fs[j] with
        | false =>
          have HPM := Lib.hid hpm
          have HB := Lib.hid (okN_fac hlt (facB_perm (by rw [EF.out]; exact hpm)))
          clear hpm
          go_wp2_with fail
          refine (callB (l04Perm_any _ _ _ _ (HV.out.up (by repeat (first | exact Chg.refl _ _ | apply Chg.drew | apply Chg.drewN | refine Chg.alloc ?_ _)))) HPM.out).mono ?_
          rintro e w1 ⟨rfl, g1⟩
          have U1 := Lib.hid (Chg.trans U0.out (Chg.trans (by repeat (first | exact Chg.refl _ _ | apply Chg.drew | apply Chg.drewN | refine Chg.alloc ?_ _)) g1))
          clear g1 f0 f1 f2 e0
          have f0 := Chg.cell U1.out Hf0.out id
          have f1 := Chg.cell U1.out Hf1.out id
          have f2 := Chg.cell U1.out Hf2.out id
          have e0 := Chg.cell U1.out He0.out id
          go_wp2
          go_ret
          exact ⟨ret_bool HB.out.symm, Chg.trans hu.out U1.out⟩
        | true =>
          have HPM := Lib.hid hpm
          have hl12 := identM_len12 hpm
          clear hpm
          go_wp2_with fail
          refine (callB (l04Perm_any _ _ _ _ (HV.out.up (by repeat (first | exact Chg.refl _ _ | apply Chg.drew | apply Chg.drewN | refine Chg.alloc ?_ _)))) HPM.out).mono ?_
          rintro e w1 ⟨rfl, g1⟩
          have U1 := Lib.hid (Chg.trans U0.out (Chg.trans (by repeat (first | exact Chg.refl _ _ | apply Chg.drew | apply Chg.drewN | refine Chg.alloc ?_ _)) g1))
          clear g1 f0 f1 f2 e0
          have f0 := Chg.cell U1.out Hf0.out id
          have f1 := Chg.cell U1.out Hf1.out id
          have f2 := Chg.cell U1.out Hf2.out id
          have e0 := Chg.cell U1.out He0.out id
          go_wp2_with fail
          refine (l04Identity_any _ x.fs[j].length hl12).mono ?_
          rintro e w2 ⟨v2, rfl, k2, g2⟩
          have K2 := Lib.hid k2
          clear k2
          have U2 := Lib.hid (Chg.trans U1.out (Chg.trans (by repeat (first | exact Chg.refl _ _ | apply Chg.drew | apply Chg.drewN | refine Chg.alloc ?_ _)) g2))
          clear g2 f0 f1 f2 e0
          have f0 := Chg.cell U2.out Hf0.out id
          have f1 := Chg.cell U2.out Hf1.out id
          have f2 := Chg.cell U2.out Hf2.out id
          have e0 := Chg.cell U2.out He0.out id
          cases hid : sameL x.fs[j] (identM x.fs[j].length) with
          | true =>
            have HS := Lib.hid hid
            have HB := Lib.hid (okN_fac hlt (facB_id (by rw [EF.out]; exact hid)))
            clear hid
            go_wp2_with fail
            refine (callB (sIs_any _ _ _ _ _ _ _ (HV.out.up U2.out) (K2.out.up (by repeat (first | exact Chg.refl _ _ | apply Chg.drew | apply Chg.drewN | refine Chg.alloc ?_ _)))) HS.out).mono ?_
            rintro e w3 ⟨rfl, g3⟩
            have U3 := Lib.hid (Chg.trans U2.out (Chg.trans (by repeat (first | exact Chg.refl _ _ | apply Chg.drew | apply Chg.drewN | refine Chg.alloc ?_ _)) g3))
            clear g3 f0 f1 f2 e0
            have f0 := Chg.cell U3.out Hf0.out id
            have f1 := Chg.cell U3.out Hf1.out id
            have f2 := Chg.cell U3.out Hf2.out id
            have e0 := Chg.cell U3.out He0.out id
            go_wp2
            go_ret
            exact ⟨ret_bool HB.out.symm, Chg.trans hu.out U3.out⟩
          | false =>
            have HS := Lib.hid hid
            clear hid
            go_wp2_with fail
            refine (callB (sIs_any _ _ _ _ _ _ _ (HV.out.up U2.out) (K2.out.up (by repeat (first | exact Chg.refl _ _ | apply Chg.drew | apply Chg.drewN | refine Chg.alloc ?_ _)))) HS.out).mono ?_
            rintro e w3 ⟨rfl, g3⟩
            have U3 := Lib.hid (Chg.trans U2.out (Chg.trans (by repeat (first | exact Chg.refl _ _ | apply Chg.drew | apply Chg.drewN | refine Chg.alloc ?_ _)) g3))
            clear g3 f0 f1 f2 e0
            have f0 := Chg.cell U3.out Hf0.out id
            have f1 := Chg.cell U3.out Hf1.out id
            have f2 := Chg.cell U3.out Hf2.out id
            have e0 := Chg.cell U3.out He0.out id
            go_wp2_with fail
            refine (l04Half_any _ x.fs[j].length hl12).mono ?_
            rintro e w4 ⟨v4, rfl, k4, g4⟩
            have K4 := Lib.hid k4
            clear k4
            have U4 := Lib.hid (Chg.trans U3.out (Chg.trans (by repeat (first | exact Chg.refl _ _ | apply Chg.drew | apply Chg.drewN | refine Chg.alloc ?_ _)) g4))
            clear g4 f0 f1 f2 e0
            have f0 := Chg.cell U4.out Hf0.out id
            have f1 := Chg.cell U4.out Hf1.out id
            have f2 := Chg.cell U4.out Hf2.out id
            have e0 := Chg.cell U4.out He0.out id
            cases hid : sameL x.fs[j] (halfM x.fs[j].length) with
            | true =>
              have HT := Lib.hid hid
              have HB := Lib.hid (okN_fac hlt (facB_half (by rw [EF.out]; exact hid)))
              clear hid
              go_wp2_with fail
              refine (callB (sIs_any _ _ _ _ _ _ _ (HV.out.up U4.out) (K4.out.up (by repeat (first | exact Chg.refl _ _ | apply Chg.drew | apply Chg.drewN | refine Chg.alloc ?_ _)))) HT.out).mono ?_
              rintro e w5 ⟨rfl, g5⟩
              have U5 := Lib.hid (Chg.trans U4.out (Chg.trans (by repeat (first | exact Chg.refl _ _ | apply Chg.drew | apply Chg.drewN | refine Chg.alloc ?_ _)) g5))
              clear g5 f0 f1 f2 e0
              have f0 := Chg.cell U5.out Hf0.out id
              have f1 := Chg.cell U5.out Hf1.out id
              have f2 := Chg.cell U5.out Hf2.out id
              have e0 := Chg.cell U5.out He0.out id
              go_wp2
              go_ret
              exact ⟨ret_bool HB.out.symm, Chg.trans hu.out U5.out⟩
            | false =>
              have HT := Lib.hid hid
              clear hid
              go_wp2_with fail
              refine (callB (sIs_any _ _ _ _ _ _ _ (HV.out.up U4.out) (K4.out.up (by repeat (first | exact Chg.refl _ _ | apply Chg.drew | apply Chg.drewN | refine Chg.alloc ?_ _)))) HT.out).mono ?_
              rintro e w5 ⟨rfl, g5⟩
              have U5 := Lib.hid (Chg.trans U4.out (Chg.trans (by repeat (first | exact Chg.refl _ _ | apply Chg.drew | apply Chg.drewN | refine Chg.alloc ?_ _)) g5))
              clear g5 f0 f1 f2 e0
              have f0 := Chg.cell U5.out Hf0.out id
              have f1 := Chg.cell U5.out Hf1.out id
              have f2 := Chg.cell U5.out Hf2.out id
              have e0 := Chg.cell U5.out He0.out id
              have HR := Lib.hid (facB_rest (n := x.n) (fs := x.fs) (i := j) (by rw [EF.out]; exact HN.out) (by rw [EF.out]; exact HPM.out) (by rw [EF.out]; exact HS.out) (by rw [EF.out]; exact HT.out))
              by_cases h0 : j = 0
              · have HX := Lib.hid (hp.out.next (HR.out.trans (by rw [decide_eq_true h0]; rfl)))
                have hb0 : decide (0 < j) = false := decide_eq_false (by omega)
                go_wp2
                go_roundw
                case rel => exact ⟨j + 1, by omega, by go_num, Lib.hid (Chg.trans hu.out U5.out), HX.out⟩
                case measure => first | (simp [intOf]; done) | (simp [intOf]; omega)
              have hb0 : decide (0 < j) = true := decide_eq_true (by omega)
              have hw1 : IntKind.i64.wrap ((j : Int) - 1) = (j : Int) - 1 := IntWalk.i64_in _ (by omega)
              have hw2 : (j : Int) - 1 = ((j - 1 : Nat) : Int) := by omega
              have hlt1 : j - 1 < x.fs.length := by omega
              have HPP := Lib.hid (hp.out.perm (i := j - 1) (by omega))
              obtain ⟨b6, o6, c6', vs6, he6, -, -, -, hE6, hc6⟩ := (H0.out.up (Chg.trans hu.out U5.out)).at_ hlt1
              obtain ⟨⟨rfl, rfl⟩, rfl⟩ : (b3 = b6 ∧ o3 = o6) ∧ c = c6' := by simpa using he6
              obtain ⟨A6, k6, rfl, hv6, -⟩ := IntsE.val hE6
              have d0 := (hc6 0 _ rfl).1
              simp only [Nat.mul_one, Nat.add_zero] at d0
              have HV6 := Lib.hid hv6
              have EP := Lib.hid (fac_eq hlt1)
              clear hc6 hv6 he6
              rw [EP.out] at HPP
              have HR2 : Hid (facB x.n x.fs j = decide (extraM x.fs[j - 1] x.fs[j] = 0)) := Lib.hid (HR.out.trans (by rw [decide_eq_false h0, EF.out, EP.out]; rfl))
              by_cases hx : extraM x.fs[j - 1] x.fs[j] = 0
              · have HX := Lib.hid (hp.out.next (HR2.out.trans (decide_eq_true hx)))
                have HXX := Lib.hid hx
                clear hx
                go_wp2_with fail
                refine (callI (l04Extra_any _ _ _ _ _ _ _ (HV6.out.up (by repeat (first | exact Chg.refl _ _ | apply Chg.drew | apply Chg.drewN | refine Chg.alloc ?_ _))) (HV.out.up (Chg.trans U5.out (by repeat (first | exact Chg.refl _ _ | apply Chg.drew | apply Chg.drewN | refine Chg.alloc ?_ _)))) HPP.out hl12) HXX.out).mono ?_
                rintro e w6 ⟨rfl, g6⟩
                have U6 := Lib.hid (Chg.trans U5.out (Chg.trans (by repeat (first | exact Chg.refl _ _ | apply Chg.drew | apply Chg.drewN | refine Chg.alloc ?_ _)) g6))
                clear g6 d0 f0 f1 f2 e0
                go_wp2
                go_roundw
                case rel => exact ⟨j + 1, by omega, by go_num, Lib.hid (Chg.trans hu.out U6.out), HX.out⟩
                case measure => first | (simp [intOf]; done) | (simp [intOf]; omega)
              · have HB := Lib.hid (okN_fac hlt (HR2.out.trans (decide_eq_false hx)))
                have hbx : (extraM x.fs[j - 1] x.fs[j] != 0) = true := by simpa using hx
                clear hx
                go_wp2_with fail
                refine (l04Extra_any _ _ _ _ _ _ _ (HV6.out.up (by repeat (first | exact Chg.refl _ _ | apply Chg.drew | apply Chg.drewN | refine Chg.alloc ?_ _))) (HV.out.up (Chg.trans U5.out (by repeat (first | exact Chg.refl _ _ | apply Chg.drew | apply Chg.drewN | refine Chg.alloc ?_ _)))) HPP.out hl12).mono ?_
                rintro e w6 ⟨rfl, g6⟩
                have U6 := Lib.hid (Chg.trans U5.out (Chg.trans (by repeat (first | exact Chg.refl _ _ | apply Chg.drew | apply Chg.drewN | refine Chg.alloc ?_ _)) g6))
                clear g6 d0 f0 f1 f2 e0
                go_wp2
                go_ret
                exact ⟨ret_bool HB.out.symm, Chg.trans hu.out U6.out⟩
      · obtain rfl : j = x.fs.length := by omega
        have HB := Lib.hid (HFIN.out hp.out)
        go_wp2
        go_ret
        exact ⟨ret_bool HB.out.symm, hu.out⟩
  by_cases hs : x.n < 2
  rotate_left
  · exact key (fun h => absurd h hs)
  by_cases hp0 : x.p = 0
  rotate_left
  · have HB := Lib.hid (okN_few hs (.inl hp0))
    have hb1 : (x.p != 0) = true := by simpa using hp0
    clear hp0 key
    go_enter Try.func153, Try.ntmps153
    go_wp2_with fail
    refine (callS (l00In_any _ _ _ _) HN.out).mono ?_
    rintro e w' ⟨rfl, rfl⟩
    go_wp2_with fail
    refine (callS (l00In_any _ _ _ _) HP.out).mono ?_
    rintro e w' ⟨rfl, rfl⟩
    go_wp2
    go_ret
    exact ⟨ret_bool HB.out.symm, Chg.refl _ _⟩
  by_cases hl0 : 0 < x.fs.length
  rotate_left
  · exact key (fun _ => ⟨hp0, hl0⟩)
  have HB := Lib.hid (okN_few hs (.inr hl0))
  have hb1 : (x.p != 0) = false := by simp [hp0]
  clear hp0 key
  go_enter Try.func153, Try.ntmps153
  go_wp2_with fail
  refine (callS (l00In_any _ _ _ _) HN.out).mono ?_
  rintro e w' ⟨rfl, rfl⟩
  go_wp2_with fail
  refine (callS (l00In_any _ _ _ _) HP.out).mono ?_
  rintro e w' ⟨rfl, rfl⟩
  go_wp2
  go_ret
  exact ⟨ret_bool HB.out.symm, Chg.refl _ _⟩
end Go.Proofs.Ytjgdcjhmfbefdaa
