/- The program's SwapLetters answers as the reference's, for all arguments; its memory is its own. No condition. -/
import Derived.Test.YtnfjflbndpelgaaSwap
namespace Go.Proofs.Ytnfjflbndpelgaa
open Go.ChangeShapes Go.WideShapes Go.ChangeAt Go.RowKit
namespace fnExactSwapLetters
def Ok (p l r : Int) : Prop := 0 ≤ p ∧ p ≤ 12 ∧ 0 ≤ l ∧ l ≤ 4 ∧ 0 ≤ r ∧ r ≤ 4 ∧ p + l + r ≤ 12
instance (p l r : Int) : Decidable (Ok p l r) := inferInstanceAs (Decidable (_ ∧ _))
def outOf (p l r : Int) (f : Bool) : List Int := if Ok p l r then swapTo p (if f then 1 else -1) l.toNat r.toNat else []
def okB (p l r : Int) : Bool := decide (Ok p l r)
theorem cases5 (p l r : Int) : (p < 0 ∨ 12 < p) ∨ ((0 ≤ p ∧ p ≤ 12) ∧ (l < 0 ∨ 4 < l)) ∨ ((0 ≤ p ∧ p ≤ 12) ∧ (0 ≤ l ∧ l ≤ 4) ∧ (r < 0 ∨ 4 < r)) ∨
    ((0 ≤ p ∧ p ≤ 12) ∧ (0 ≤ l ∧ l ≤ 4) ∧ (0 ≤ r ∧ r ≤ 4) ∧ 12 < p + l + r) ∨ ((0 ≤ p ∧ p ≤ 12) ∧ (0 ≤ l ∧ l ≤ 4) ∧ (0 ≤ r ∧ r ≤ 4) ∧ p + l + r ≤ 12) := by omega
set_option maxHeartbeats 2000000 in
theorem spec_any (w : World) (p l r : Int) (f : Bool) :
    Calls Try.prog 23 #[.int .i64 p, .int .i64 l, .int .i64 r, .bool f] w fun e w' => ∃ v, e = .returned (.tuple #[v, .bool (okB p l r)]) ∧ Ints w' (New w.heap.size w'.heap.size) v (outOf p l r f) ∧ Up w w' := by
  have hc := cases5 p l r
  rcases hc with h | ⟨h, h2⟩ | ⟨h, h2, h3⟩ | ⟨h, h2, h3, h4⟩ | ⟨h, h2, h3, h4⟩
  rotate_left 4
  · have hok : Ok p l r := by unfold Ok; omega
    have hb : okB p l r = true := decide_eq_true hok
    have ho : outOf p l r f = swapTo p (if f then 1 else -1) l.toNat r.toNat := if_pos hok
    rw [hb, ho]
    clear hok hb ho
    obtain ⟨l, rfl⟩ := Int.eq_ofNat_of_zero_le h2.1
    obtain ⟨r, rfl⟩ := Int.eq_ofNat_of_zero_le h3.1
    rw [Int.toNat_natCast, Int.toNat_natCast]
    cases f
    all_goals
      go_enter Try.func23, Try.ntmps23
      go_wp2_with (first | (go_at_call 25; refine (l00In_yes _ _ _ _ ?_).mono ?_; (omega); rintro e w' ⟨rfl, rfl⟩))
      refine (l03Swap_any _ p _ l r ⟨by omega, by omega⟩ (by simp) (by omega) (by omega)).mono ?_
      rintro e w1 ⟨v, rfl, h1, g1⟩
      have H1 := Lib.hid h1
      have G1 := Lib.hid g1
      clear h1 g1
      go_wp2
      go_ret2
      exact ⟨_, rfl, H1.out, G1.out⟩
  all_goals
    have hok : ¬ Ok p l r := by unfold Ok; omega
    have hb : okB p l r = false := decide_eq_false hok
    have ho : outOf p l r f = [] := if_neg hok
    rw [hb, ho]
    clear hok hb ho
    go_enter Try.func23, Try.ntmps23
    go_wp2_with (first | (go_at_call 25; refine (l00In_yes _ _ _ _ ?_).mono ?_; (omega); rintro e w' ⟨rfl, rfl⟩) | (go_at_call 25; refine (l00In_no _ _ _ _ ?_).mono ?_; (omega); rintro e w' ⟨rfl, rfl⟩))
    go_ret2
    exact ⟨_, rfl, Ints.nil _ _ _ _ (by omega), Chg.refl _ _⟩
theorem isStrands_yes (n : Int) (w : World) (h : 0 ≤ n ∧ n ≤ 12) :
    Calls Try.prog 34 #[.int .i64 n] w fun e w' => e = .returned (.bool true) ∧ w = w' := by
  go_enter Try.func34, Try.ntmps34
  go_wp2_with (first | (go_at_call 26; refine (within_yes _ _ _ _ ?_).mono ?_; (omega); rintro e w' ⟨rfl, rfl⟩))
  go_ret
  exact ⟨rfl, rfl⟩
theorem isStrands_no (n : Int) (w : World) (h : n < 0 ∨ 12 < n) :
    Calls Try.prog 34 #[.int .i64 n] w fun e w' => e = .returned (.bool false) ∧ w = w' := by
  go_enter Try.func34, Try.ntmps34
  go_wp2_with (first | (go_at_call 26; refine (within_no _ _ _ _ ?_).mono ?_; (omega); rintro e w' ⟨rfl, rfl⟩))
  go_ret
  exact ⟨rfl, rfl⟩
set_option maxHeartbeats 2000000 in
theorem impl_any (w : World) (p l r : Int) (f : Bool) :
    Calls Try.prog 24 #[.int .i64 p, .int .i64 l, .int .i64 r, .bool f] w fun e w' => ∃ v, e = .returned (.tuple #[v, .bool (okB p l r)]) ∧ Ints w' (New w.heap.size w'.heap.size) v (outOf p l r f) ∧ Up w w' := by
  have hc := cases5 p l r
  rcases hc with h | ⟨h, h2⟩ | ⟨h, h2, h3⟩ | ⟨h, h2, h3, h4⟩ | ⟨h, h2, h3, h4⟩
  rotate_left 4
  · have hok : Ok p l r := by unfold Ok; omega
    have hb : okB p l r = true := decide_eq_true hok
    have ho : outOf p l r f = swapTo p (if f then 1 else -1) l.toNat r.toNat := if_pos hok
    rw [hb, ho]
    clear hok hb ho
    obtain ⟨l, rfl⟩ := Int.eq_ofNat_of_zero_le h2.1
    obtain ⟨r, rfl⟩ := Int.eq_ofNat_of_zero_le h3.1
    rw [Int.toNat_natCast, Int.toNat_natCast]
    cases f
    all_goals
      go_enter Try.func24, Try.ntmps24
      go_wp2_with (first | (go_at_call 34; refine (isStrands_yes _ _ ?_).mono ?_; (omega); rintro e w' ⟨rfl, rfl⟩) | (go_at_call 34; refine (isStrands_no _ _ ?_).mono ?_; (omega); rintro e w' ⟨rfl, rfl⟩) | (go_at_call 26; refine (within_yes _ _ _ _ ?_).mono ?_; (omega); rintro e w' ⟨rfl, rfl⟩))
      refine (blockLetters_any _ p _ l r ⟨by omega, by omega⟩ (by simp) (by omega) (by omega)).mono ?_
      rintro e w1 ⟨v, rfl, h1, g1⟩
      have H1 := Lib.hid h1
      have G1 := Lib.hid g1
      clear h1 g1
      go_wp2
      go_ret2
      exact ⟨_, rfl, H1.out, G1.out⟩
  all_goals
    have hok : ¬ Ok p l r := by unfold Ok; omega
    have hb : okB p l r = false := decide_eq_false hok
    have ho : outOf p l r f = [] := if_neg hok
    rw [hb, ho]
    clear hok hb ho
    go_enter Try.func24, Try.ntmps24
    go_wp2_with (first | (go_at_call 34; refine (isStrands_yes _ _ ?_).mono ?_; (omega); rintro e w' ⟨rfl, rfl⟩) | (go_at_call 34; refine (isStrands_no _ _ ?_).mono ?_; (omega); rintro e w' ⟨rfl, rfl⟩) | (go_at_call 26; refine (within_yes _ _ _ _ ?_).mono ?_; (omega); rintro e w' ⟨rfl, rfl⟩) | (go_at_call 26; refine (within_no _ _ _ _ ?_).mono ?_; (omega); rintro e w' ⟨rfl, rfl⟩))
    go_ret2
    exact ⟨_, rfl, Ints.nil _ _ _ _ (by omega), Chg.refl _ _⟩
theorem outOf_len (p l r : Int) (f : Bool) : cntInts (outOf p l r f) ≤ 16 := by
  unfold outOf cntInts
  split
  · rename_i h
    unfold Ok at h
    rw [swapTo_length]
    have h1 : r.toNat * l.toNat ≤ 4 * 4 := Nat.mul_le_mul (by omega) (by omega)
    omega
  · simp
end fnExactSwapLetters
-- LAW
namespace fnExactSwapLetters
set_option linter.unusedVariables false in
set_option maxHeartbeats 2000000 in
theorem walk (w : World) (a0 : Int) (ia0 : I64 a0) (a1 : Int) (ia1 : I64 a1) (a2 : Int) (ia2 : I64 a2) (a3 : Bool) :
    Calls Try.prog 8 #[.int .i64 a0, .int .i64 a1, .int .i64 a2, .bool a3] w fun e w' => e = .returned (.bool true) ∧ Below w.heap.size w w' := by
  have U0 := Lib.hid (Chg.refl Nowhere w)
  go_enter Try.func8, Try.ntmps8
  go_wp2_with fail
  refine (spec_any _ a0 a1 a2 a3).mono ?_
  rintro e w1 ⟨uW, rfl, k1, g1⟩
  obtain ⟨BW, dW, rfl, eW, fW⟩ := k1.shape
  have K := Lib.hid k1
  have G1 := Lib.hid g1
  clear k1 g1
  have G1z := G1.out.size
  have U0' := Lib.hid (Chg.trans U0.out G1.out)
  clear U0 G1
  have W := K
  clear K
  go_wp2_with fail
  refine (impl_any _ a0 a1 a2 a3).mono ?_
  rintro e w2 ⟨uR, rfl, k1, g1⟩
  obtain ⟨BR, dR, rfl, eR, fR⟩ := k1.shape
  have K := Lib.hid k1
  have G2 := Lib.hid g1
  clear k1 g1
  have G2z := G2.out.size
  have W' := Lib.hid (W.out.up G2.out)
  clear W
  have U0'' := Lib.hid (Chg.trans U0'.out G2.out)
  clear U0' G2
  have R := K
  clear K
  go_wp2_with fail
  refine (eqInts _ _ _ _ _ (outOf a0 a1 a2 a3) R.out W'.out).mono ?_
  rintro e w3 ⟨rfl, g1⟩
  have G3 := Lib.hid g1
  clear g1
  have G3z := G3.out.up.size
  have W'' := Lib.hid (W'.out.up G3.out.up)
  clear W'
  have R' := Lib.hid (R.out.up G3.out.up)
  clear R
  have U0''' := Lib.hid (Chg.trans U0''.out G3.out.up)
  clear U0'' G3
  have hr := outOf_len a0 a1 a2 a3
  have hr1 : (0 : Int) ≤ 1 := by omega
  have hr2 : (1 : Int) + cntInts ((outOf a0 a1 a2 a3)) ≤ 4611686018427387904 := by have := hr; omega
  have HR := Lib.hid hr
  clear hr
  go_wp2_with fail
  refine (markInts _ _ _ (outOf a0 a1 a2 a3) 1 hr1 hr2 R'.out).mono ?_
  rintro e w4 ⟨rfl, g1, k1⟩
  have K := Lib.hid k1
  have G4 := Lib.hid g1
  clear k1 g1
  clear R'
  have G4z := G4.out.size
  have W''' := Lib.hid (W''.out.keep G4.out (fun b hb h1 h2 => by simp only [New] at h1 h2; omega))
  clear W''
  have U0'''' := Lib.hid (Chg.new U0'''.out G4.out (fun i hi h2 => by simp only [New] at h2; omega))
  clear U0''' G4
  have MR := K
  clear K
  go_wp2_with fail
  refine (heldInts _ _ _ (outOf a0 a1 a2 a3) 1 hr1 hr2 MR.out).mono ?_
  rintro e w5 ⟨rfl, g1⟩
  have G5 := Lib.hid g1
  clear g1
  have G5z := G5.out.up.size
  have W'''' := Lib.hid (W'''.out.up G5.out.up)
  clear W'''
  have MR' := Lib.hid (MR.out.up G5.out.up)
  clear MR
  have U0''''' := Lib.hid (Chg.trans U0''''.out G5.out.up)
  clear U0'''' G5
  go_wp2_with fail
  refine (impl_any _ a0 a1 a2 a3).mono ?_
  rintro e w6 ⟨uH, rfl, k1, g1⟩
  obtain ⟨BH, dH, rfl, eH, fH⟩ := k1.shape
  have K := Lib.hid k1
  have G6 := Lib.hid g1
  clear k1 g1
  have G6z := G6.out.size
  have W''''' := Lib.hid (W''''.out.up G6.out)
  clear W''''
  have MR'' := Lib.hid (MR'.out.up G6.out)
  clear MR'
  have U0'''''' := Lib.hid (Chg.trans U0'''''.out G6.out)
  clear U0''''' G6
  have H := K
  clear K
  go_wp2_with fail
  refine (eqInts _ _ _ _ _ (outOf a0 a1 a2 a3) H.out W'''''.out).mono ?_
  rintro e w7 ⟨rfl, g1⟩
  have G7 := Lib.hid g1
  clear g1
  have G7z := G7.out.up.size
  have W'''''' := Lib.hid (W'''''.out.up G7.out.up)
  clear W'''''
  have MR''' := Lib.hid (MR''.out.up G7.out.up)
  clear MR''
  have H' := Lib.hid (H.out.up G7.out.up)
  clear H
  have U0''''''' := Lib.hid (Chg.trans U0''''''.out G7.out.up)
  clear U0'''''' G7
  go_wp2_with fail
  refine (heldInts _ _ _ (outOf a0 a1 a2 a3) 1 hr1 hr2 MR'''.out).mono ?_
  rintro e w8 ⟨rfl, g1⟩
  have G8 := Lib.hid g1
  clear g1
  have G8z := G8.out.up.size
  have W''''''' := Lib.hid (W''''''.out.up G8.out.up)
  clear W''''''
  have MR'''' := Lib.hid (MR'''.out.up G8.out.up)
  clear MR'''
  have H'' := Lib.hid (H'.out.up G8.out.up)
  clear H'
  have U0'''''''' := Lib.hid (Chg.trans U0'''''''.out G8.out.up)
  clear U0''''''' G8
  go_wp2
  go_ret
  exact ⟨rfl, Up.below U0''''''''.out⟩
end fnExactSwapLetters
end Go.Proofs.Ytnfjflbndpelgaa
namespace Go.Proofs.Ytnfjflbndpelgaa.fnExactSwapLetters
open Go.ChangeShapes Go.WideShapes Go.ChangeAt Go.RowKit
set_option linter.unusedVariables false
theorem own : ownKnob Try.prog.godebug = none := by kernel_rfl
theorem laidOut : laidOutB Try.prog = true := by kernel_rfl
theorem readable : ∀ t ∈ Try.f8.params.toList, Try.prog.readableRec t = true ∧ t < Try.prog.types.size := by
  have h : (Try.f8.params.toList.all fun t => Try.prog.readableRec t && decide (t < Try.prog.types.size)) = true := by kernel_rfl
  intro t ht
  have h2 := List.all_eq_true.1 h t ht
  rw [Bool.and_eq_true, decide_eq_true_eq] at h2
  exact h2
theorem resT : Try.f8.resultTypes = #[4] := by kernel_rfl
set_option maxRecDepth 100000 in
theorem lifted (os : Os) (started : os.Started) (H : Type) (enc : TypeId × Value → H) :
    ReturnsInHanded {} Try.checked os 8 .any (Rows.fnExactSwapLettersSpec.pre6 enc Try.prog Try.f8 Rows.fnExactSwapLettersRow.domain false) (Rows.fnExactSwapLettersSpec.post enc Try.prog Try.f8 false true false false) := by
  refine returnsInHanded_of_change (C := Try.checked) own started (by kernel_rfl) Try.func8
    (ChangeSpec.witness6 (enc := enc) (C := Try.checked) false ⟨#[], #[.int .i64 0, .int .i64 0, .int .i64 0, .bool false], []⟩ 8 (by kernel_rfl) (by kernel_rfl) (by kernel_rfl) (by kernel_rfl)) ?_
  intro W base args ds gs before hval0 hW hcnd _
  have hval : ∀ (j : Nat) t v, Try.f8.params[j]? = some t → args[j]? = some v → Value.okWide Try.prog W .any base t v := hval0
  have hW' := hW
  obtain ⟨p, q, hA0, hV, rfl, hfz, hnd⟩ := hW
  have hA : DataW.TrodAll enc Try.prog W 0 (fun _ => true) true Try.f8.params.toList args.toList ds p := hA0
  rw [Try.params8] at hA hval
  obtain ⟨v0, vs0, d0, ds0, p0, q0, hargs, rfl, rfl, h0, r0⟩ := trodAll_cons hA
  obtain ⟨v1, vs1, d1, ds1, p1, q1, rfl, rfl, rfl, h1, r1⟩ := trodAll_cons r0
  obtain ⟨v2, vs2, d2, ds2, p2, q2, rfl, rfl, rfl, h2, r2⟩ := trodAll_cons r1
  obtain ⟨v3, vs3, d3, ds3, p3, q3, rfl, rfl, rfl, h3, r3⟩ := trodAll_cons r2
  obtain ⟨rfl, rfl, rfl⟩ := trodAll_nil r3
  obtain rfl : args = #[v0, v1, v2, v3] := by cases args; simp_all
  obtain ⟨rfl, rfl⟩ := trodVars_none hV
  have hpost : ∀ W', Below W.heap.size W W' → Rows.fnExactSwapLettersSpec.post enc Try.prog Try.f8 false true false false W #[v0, v1, v2, v3] (.bool true) W' := fun W' hb =>
    law_post laidOut readable resT Try.underlying4 rfl rfl hW' hb
  have hz : ∀ b off, MemPlace.cell b off ∈ p0 ++ (p1 ++ (p2 ++ (p3 ++ []))) → W.frozen? ⟨b, off, none⟩ = false := fun b off hm => hfz b off (by simpa using hm)
  clear hW' hA0 hval0 hcnd hnd hV hA
  obtain ⟨a0, rfl, -, -, w0⟩ := open_int Try.underlying2 (hval 0 2 v0 rfl rfl) h0
  obtain ⟨a1, rfl, -, -, w1⟩ := open_int Try.underlying2 (hval 1 2 v1 rfl rfl) h1
  obtain ⟨a2, rfl, -, -, w2⟩ := open_int Try.underlying2 (hval 2 2 v2 rfl rfl) h2
  obtain ⟨a3, rfl, -, -⟩ := open_bool Try.underlying4 (hval 3 4 v3 rfl rfl) h3
  refine (walk W a0 (I64.of_wf w0) a1 (I64.of_wf w1) a2 (I64.of_wf w2) a3).mono fun e W' ⟨he, hg⟩ => ?_
  subst he
  exact ⟨_, rfl, hpost W' hg⟩
theorem over : Rows.fnExactSwapLettersRow.holds Try.pinned (OpenSpec.ofChange Rows.fnExactSwapLettersSpec) :=
  OpenClaim.holds_of_wide 8 Try.f8 rfl rfl rfl rfl rfl rfl rfl ⟨rfl, rfl, rfl, rfl, rfl⟩ rfl rfl rfl rfl rfl (by kernel_rfl) Try.func8 (by kernel_rfl)
    (of_decide_eq_true (by kernel_rfl)) (by unfold Func.isWrapper; first | (rw [if_pos (by decide +kernel)]; kernel_rfl) | (rw [if_neg (by decide +kernel)]; exact ⟨rfl, rfl⟩))
    (fun os started H enc _ => lifted os started H enc)
theorem proved : Rows.FnExactSwapLettersSaid :=
  over
end Go.Proofs.Ytnfjflbndpelgaa.fnExactSwapLetters
