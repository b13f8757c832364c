/- The program's StitchOps answers as the reference's, for all numbers; its memory is its own. No condition. -/
import Derived.Test.YtaemcjakmeibjaaStitch
namespace Go.Proofs.Ytaemcjakmeibjaa
open Go.ChangeShapes Go.WideShapes Go.ChangeAt Go.RowKit
namespace fnExactStitchOps
def codeOf (k p d c : Int) : Int := if (1 ≤ k ∧ k ≤ 11) ∧ (0 ≤ p ∧ p ≤ 23) ∧ (d = 1 ∨ d = -1) ∧ (1 ≤ c ∧ c ≤ 4) then 0 else 2
def outOf (k p d c : Int) : List OpM := if (1 ≤ k ∧ k ≤ 11) ∧ (0 ≤ p ∧ p ≤ 23) ∧ (d = 1 ∨ d = -1) ∧ (1 ≤ c ∧ c ≤ 4) then stitchM k p d c else []
set_option maxHeartbeats 4000000 in
theorem spec_any (w : World) (k p d c : Int) :
    Calls Try.prog 40 #[.int .i64 k, .int .i64 p, .int .i64 d, .int .i64 c] w fun e w' => ∃ v, e = .returned (.tuple #[v, .int .i64 (codeOf k p d c)]) ∧ Ops w' (New w.heap.size w'.heap.size) v (outOf k p d c) ∧ Up w w' := by
  have hc : ((k < 1 ∨ 11 < k)) ∨ ((1 ≤ k ∧ k ≤ 11) ∧ (p < 0 ∨ 23 < p)) ∨ ((1 ≤ k ∧ k ≤ 11) ∧ (0 ≤ p ∧ p ≤ 23) ∧ (d ≠ 1 ∧ d ≠ -1)) ∨ ((1 ≤ k ∧ k ≤ 11) ∧ (0 ≤ p ∧ p ≤ 23) ∧ (d = 1 ∨ d = -1) ∧ (c < 1 ∨ 4 < c)) ∨ ((1 ≤ k ∧ k ≤ 11) ∧ (0 ≤ p ∧ p ≤ 23) ∧ (d = 1 ∨ d = -1) ∧ (1 ≤ c ∧ c ≤ 4)) := by omega
  rcases hc with h | ⟨h, h2⟩ | ⟨h, h2, h3⟩ | ⟨h, h2, h3, h4⟩ | ⟨h, h2, h3, h4⟩
  · have hco : codeOf k p d c = 2 := by
      unfold codeOf
      repeat' split
      all_goals first | rfl | omega
    have hou : outOf k p d c = [] := by
      unfold outOf
      repeat' split
      all_goals first | rfl | omega
    rw [hco, hou]
    clear hco hou
    go_enter Try.func40, Try.ntmps40
    go_wp2_with (first | (go_at_call 94; refine (l14Kind_yes _ _ ?_).mono ?_; (omega); rintro e w' ⟨rfl, rfl⟩) | (go_at_call 94; refine (l14Kind_no _ _ ?_).mono ?_; (omega); rintro e w' ⟨rfl, rfl⟩) | (go_at_call 70; refine (l00In_yes _ _ _ _ ?_).mono ?_; (omega); rintro e w' ⟨rfl, rfl⟩) | (go_at_call 70; refine (l00In_no _ _ _ _ ?_).mono ?_; (omega); rintro e w' ⟨rfl, rfl⟩) | (go_at_call 84; refine (l07Dir_yes _ _ ?_).mono ?_; (omega); rintro e w' ⟨rfl, rfl⟩) | (go_at_call 84; refine (l07Dir_no _ _ ?_).mono ?_; (omega); rintro e w' ⟨rfl, rfl⟩) | (go_at_call 71; refine (l07Yarn_yes _ _ ?_).mono ?_; (omega); rintro e w' ⟨rfl, rfl⟩) | (go_at_call 71; refine (l07Yarn_no _ _ ?_).mono ?_; (omega); rintro e w' ⟨rfl, rfl⟩))
    go_ret2
    exact ⟨_, rfl, Ops.nil _ _ _ _ (by omega), Chg.refl _ _⟩
  · have hco : codeOf k p d c = 2 := by
      unfold codeOf
      repeat' split
      all_goals first | rfl | omega
    have hou : outOf k p d c = [] := by
      unfold outOf
      repeat' split
      all_goals first | rfl | omega
    rw [hco, hou]
    clear hco hou
    go_enter Try.func40, Try.ntmps40
    go_wp2_with (first | (go_at_call 94; refine (l14Kind_yes _ _ ?_).mono ?_; (omega); rintro e w' ⟨rfl, rfl⟩) | (go_at_call 94; refine (l14Kind_no _ _ ?_).mono ?_; (omega); rintro e w' ⟨rfl, rfl⟩) | (go_at_call 70; refine (l00In_yes _ _ _ _ ?_).mono ?_; (omega); rintro e w' ⟨rfl, rfl⟩) | (go_at_call 70; refine (l00In_no _ _ _ _ ?_).mono ?_; (omega); rintro e w' ⟨rfl, rfl⟩) | (go_at_call 84; refine (l07Dir_yes _ _ ?_).mono ?_; (omega); rintro e w' ⟨rfl, rfl⟩) | (go_at_call 84; refine (l07Dir_no _ _ ?_).mono ?_; (omega); rintro e w' ⟨rfl, rfl⟩) | (go_at_call 71; refine (l07Yarn_yes _ _ ?_).mono ?_; (omega); rintro e w' ⟨rfl, rfl⟩) | (go_at_call 71; refine (l07Yarn_no _ _ ?_).mono ?_; (omega); rintro e w' ⟨rfl, rfl⟩))
    go_ret2
    exact ⟨_, rfl, Ops.nil _ _ _ _ (by omega), Chg.refl _ _⟩
  · have hco : codeOf k p d c = 2 := by
      unfold codeOf
      repeat' split
      all_goals first | rfl | omega
    have hou : outOf k p d c = [] := by
      unfold outOf
      repeat' split
      all_goals first | rfl | omega
    rw [hco, hou]
    clear hco hou
    go_enter Try.func40, Try.ntmps40
    go_wp2_with (first | (go_at_call 94; refine (l14Kind_yes _ _ ?_).mono ?_; (omega); rintro e w' ⟨rfl, rfl⟩) | (go_at_call 94; refine (l14Kind_no _ _ ?_).mono ?_; (omega); rintro e w' ⟨rfl, rfl⟩) | (go_at_call 70; refine (l00In_yes _ _ _ _ ?_).mono ?_; (omega); rintro e w' ⟨rfl, rfl⟩) | (go_at_call 70; refine (l00In_no _ _ _ _ ?_).mono ?_; (omega); rintro e w' ⟨rfl, rfl⟩) | (go_at_call 84; refine (l07Dir_yes _ _ ?_).mono ?_; (omega); rintro e w' ⟨rfl, rfl⟩) | (go_at_call 84; refine (l07Dir_no _ _ ?_).mono ?_; (omega); rintro e w' ⟨rfl, rfl⟩) | (go_at_call 71; refine (l07Yarn_yes _ _ ?_).mono ?_; (omega); rintro e w' ⟨rfl, rfl⟩) | (go_at_call 71; refine (l07Yarn_no _ _ ?_).mono ?_; (omega); rintro e w' ⟨rfl, rfl⟩))
    go_ret2
    exact ⟨_, rfl, Ops.nil _ _ _ _ (by omega), Chg.refl _ _⟩
  · have hco : codeOf k p d c = 2 := by
      unfold codeOf
      repeat' split
      all_goals first | rfl | omega
    have hou : outOf k p d c = [] := by
      unfold outOf
      repeat' split
      all_goals first | rfl | omega
    rw [hco, hou]
    clear hco hou
    go_enter Try.func40, Try.ntmps40
    go_wp2_with (first | (go_at_call 94; refine (l14Kind_yes _ _ ?_).mono ?_; (omega); rintro e w' ⟨rfl, rfl⟩) | (go_at_call 94; refine (l14Kind_no _ _ ?_).mono ?_; (omega); rintro e w' ⟨rfl, rfl⟩) | (go_at_call 70; refine (l00In_yes _ _ _ _ ?_).mono ?_; (omega); rintro e w' ⟨rfl, rfl⟩) | (go_at_call 70; refine (l00In_no _ _ _ _ ?_).mono ?_; (omega); rintro e w' ⟨rfl, rfl⟩) | (go_at_call 84; refine (l07Dir_yes _ _ ?_).mono ?_; (omega); rintro e w' ⟨rfl, rfl⟩) | (go_at_call 84; refine (l07Dir_no _ _ ?_).mono ?_; (omega); rintro e w' ⟨rfl, rfl⟩) | (go_at_call 71; refine (l07Yarn_yes _ _ ?_).mono ?_; (omega); rintro e w' ⟨rfl, rfl⟩) | (go_at_call 71; refine (l07Yarn_no _ _ ?_).mono ?_; (omega); rintro e w' ⟨rfl, rfl⟩))
    go_ret2
    exact ⟨_, rfl, Ops.nil _ _ _ _ (by omega), Chg.refl _ _⟩
  · have hco : codeOf k p d c = 0 := by
      unfold codeOf
      repeat' split
      all_goals first | rfl | omega
    have hou : outOf k p d c = stitchM k p d c := by
      unfold outOf
      repeat' split
      all_goals first | rfl | omega
    rw [hco, hou]
    clear hco hou
    go_enter Try.func40, Try.ntmps40
    go_wp2_with (first | (go_at_call 94; refine (l14Kind_yes _ _ ?_).mono ?_; (omega); rintro e w' ⟨rfl, rfl⟩) | (go_at_call 94; refine (l14Kind_no _ _ ?_).mono ?_; (omega); rintro e w' ⟨rfl, rfl⟩) | (go_at_call 70; refine (l00In_yes _ _ _ _ ?_).mono ?_; (omega); rintro e w' ⟨rfl, rfl⟩) | (go_at_call 70; refine (l00In_no _ _ _ _ ?_).mono ?_; (omega); rintro e w' ⟨rfl, rfl⟩) | (go_at_call 84; refine (l07Dir_yes _ _ ?_).mono ?_; (omega); rintro e w' ⟨rfl, rfl⟩) | (go_at_call 84; refine (l07Dir_no _ _ ?_).mono ?_; (omega); rintro e w' ⟨rfl, rfl⟩) | (go_at_call 71; refine (l07Yarn_yes _ _ ?_).mono ?_; (omega); rintro e w' ⟨rfl, rfl⟩) | (go_at_call 71; refine (l07Yarn_no _ _ ?_).mono ?_; (omega); rintro e w' ⟨rfl, rfl⟩))
    refine (l23Stitch_any _ k p d c h (by omega) h3 h4).mono ?_
    rintro e w1 ⟨v, rfl, k1, g1⟩
    have K1 := Lib.hid k1
    have G1 := Lib.hid g1
    clear k1 g1
    go_wp2
    go_ret2
    exact ⟨_, rfl, K1.out, G1.out⟩
set_option maxHeartbeats 4000000 in
theorem impl_any (w : World) (k p d c : Int) :
    Calls Try.prog 41 #[.int .i64 k, .int .i64 p, .int .i64 d, .int .i64 c] w fun e w' => ∃ v, e = .returned (.tuple #[v, .int .i64 (codeOf k p d c)]) ∧ Ops w' (New w.heap.size w'.heap.size) v (outOf k p d c) ∧ Up w w' := by
  have hc : ((k < 1 ∨ 11 < k)) ∨ ((1 ≤ k ∧ k ≤ 11) ∧ (p < 0 ∨ 23 < p)) ∨ ((1 ≤ k ∧ k ≤ 11) ∧ (0 ≤ p ∧ p ≤ 23) ∧ (d ≠ 1 ∧ d ≠ -1)) ∨ ((1 ≤ k ∧ k ≤ 11) ∧ (0 ≤ p ∧ p ≤ 23) ∧ (d = 1 ∨ d = -1) ∧ (c < 1 ∨ 4 < c)) ∨ ((1 ≤ k ∧ k ≤ 11) ∧ (0 ≤ p ∧ p ≤ 23) ∧ (d = 1 ∨ d = -1) ∧ (1 ≤ c ∧ c ≤ 4)) := by omega
  rcases hc with h | ⟨h, h2⟩ | ⟨h, h2, h3⟩ | ⟨h, h2, h3, h4⟩ | ⟨h, h2, h3, h4⟩
  · have hco : codeOf k p d c = 2 := by
      unfold codeOf
      repeat' split
      all_goals first | rfl | omega
    have hou : outOf k p d c = [] := by
      unfold outOf
      repeat' split
      all_goals first | rfl | omega
    rw [hco, hou]
    clear hco hou
    go_enter Try.func41, Try.ntmps41
    go_wp2_with (first | (go_at_call 96; refine (isStitch_yes _ _ ?_).mono ?_; (omega); rintro e w' ⟨rfl, rfl⟩) | (go_at_call 96; refine (isStitch_no _ _ ?_).mono ?_; (omega); rintro e w' ⟨rfl, rfl⟩) | (go_at_call 80; refine (isAt_yes _ _ ?_).mono ?_; (omega); rintro e w' ⟨rfl, rfl⟩) | (go_at_call 80; refine (isAt_no _ _ ?_).mono ?_; (omega); rintro e w' ⟨rfl, rfl⟩) | (go_at_call 87; refine (isDirection_yes _ _ ?_).mono ?_; (omega); rintro e w' ⟨rfl, rfl⟩) | (go_at_call 87; refine (isDirection_no _ _ ?_).mono ?_; (omega); rintro e w' ⟨rfl, rfl⟩) | (go_at_call 76; refine (isCarrier_yes _ _ ?_).mono ?_; (omega); rintro e w' ⟨rfl, rfl⟩) | (go_at_call 76; refine (isCarrier_no _ _ ?_).mono ?_; (omega); rintro e w' ⟨rfl, rfl⟩))
    go_ret2
    exact ⟨_, rfl, Ops.nil _ _ _ _ (by omega), Chg.refl _ _⟩
  · have hco : codeOf k p d c = 2 := by
      unfold codeOf
      repeat' split
      all_goals first | rfl | omega
    have hou : outOf k p d c = [] := by
      unfold outOf
      repeat' split
      all_goals first | rfl | omega
    rw [hco, hou]
    clear hco hou
    go_enter Try.func41, Try.ntmps41
    go_wp2_with (first | (go_at_call 96; refine (isStitch_yes _ _ ?_).mono ?_; (omega); rintro e w' ⟨rfl, rfl⟩) | (go_at_call 96; refine (isStitch_no _ _ ?_).mono ?_; (omega); rintro e w' ⟨rfl, rfl⟩) | (go_at_call 80; refine (isAt_yes _ _ ?_).mono ?_; (omega); rintro e w' ⟨rfl, rfl⟩) | (go_at_call 80; refine (isAt_no _ _ ?_).mono ?_; (omega); rintro e w' ⟨rfl, rfl⟩) | (go_at_call 87; refine (isDirection_yes _ _ ?_).mono ?_; (omega); rintro e w' ⟨rfl, rfl⟩) | (go_at_call 87; refine (isDirection_no _ _ ?_).mono ?_; (omega); rintro e w' ⟨rfl, rfl⟩) | (go_at_call 76; refine (isCarrier_yes _ _ ?_).mono ?_; (omega); rintro e w' ⟨rfl, rfl⟩) | (go_at_call 76; refine (isCarrier_no _ _ ?_).mono ?_; (omega); rintro e w' ⟨rfl, rfl⟩))
    go_ret2
    exact ⟨_, rfl, Ops.nil _ _ _ _ (by omega), Chg.refl _ _⟩
  · have hco : codeOf k p d c = 2 := by
      unfold codeOf
      repeat' split
      all_goals first | rfl | omega
    have hou : outOf k p d c = [] := by
      unfold outOf
      repeat' split
      all_goals first | rfl | omega
    rw [hco, hou]
    clear hco hou
    go_enter Try.func41, Try.ntmps41
    go_wp2_with (first | (go_at_call 96; refine (isStitch_yes _ _ ?_).mono ?_; (omega); rintro e w' ⟨rfl, rfl⟩) | (go_at_call 96; refine (isStitch_no _ _ ?_).mono ?_; (omega); rintro e w' ⟨rfl, rfl⟩) | (go_at_call 80; refine (isAt_yes _ _ ?_).mono ?_; (omega); rintro e w' ⟨rfl, rfl⟩) | (go_at_call 80; refine (isAt_no _ _ ?_).mono ?_; (omega); rintro e w' ⟨rfl, rfl⟩) | (go_at_call 87; refine (isDirection_yes _ _ ?_).mono ?_; (omega); rintro e w' ⟨rfl, rfl⟩) | (go_at_call 87; refine (isDirection_no _ _ ?_).mono ?_; (omega); rintro e w' ⟨rfl, rfl⟩) | (go_at_call 76; refine (isCarrier_yes _ _ ?_).mono ?_; (omega); rintro e w' ⟨rfl, rfl⟩) | (go_at_call 76; refine (isCarrier_no _ _ ?_).mono ?_; (omega); rintro e w' ⟨rfl, rfl⟩))
    go_ret2
    exact ⟨_, rfl, Ops.nil _ _ _ _ (by omega), Chg.refl _ _⟩
  · have hco : codeOf k p d c = 2 := by
      unfold codeOf
      repeat' split
      all_goals first | rfl | omega
    have hou : outOf k p d c = [] := by
      unfold outOf
      repeat' split
      all_goals first | rfl | omega
    rw [hco, hou]
    clear hco hou
    go_enter Try.func41, Try.ntmps41
    go_wp2_with (first | (go_at_call 96; refine (isStitch_yes _ _ ?_).mono ?_; (omega); rintro e w' ⟨rfl, rfl⟩) | (go_at_call 96; refine (isStitch_no _ _ ?_).mono ?_; (omega); rintro e w' ⟨rfl, rfl⟩) | (go_at_call 80; refine (isAt_yes _ _ ?_).mono ?_; (omega); rintro e w' ⟨rfl, rfl⟩) | (go_at_call 80; refine (isAt_no _ _ ?_).mono ?_; (omega); rintro e w' ⟨rfl, rfl⟩) | (go_at_call 87; refine (isDirection_yes _ _ ?_).mono ?_; (omega); rintro e w' ⟨rfl, rfl⟩) | (go_at_call 87; refine (isDirection_no _ _ ?_).mono ?_; (omega); rintro e w' ⟨rfl, rfl⟩) | (go_at_call 76; refine (isCarrier_yes _ _ ?_).mono ?_; (omega); rintro e w' ⟨rfl, rfl⟩) | (go_at_call 76; refine (isCarrier_no _ _ ?_).mono ?_; (omega); rintro e w' ⟨rfl, rfl⟩))
    go_ret2
    exact ⟨_, rfl, Ops.nil _ _ _ _ (by omega), Chg.refl _ _⟩
  · have hco : codeOf k p d c = 0 := by
      unfold codeOf
      repeat' split
      all_goals first | rfl | omega
    have hou : outOf k p d c = stitchM k p d c := by
      unfold outOf
      repeat' split
      all_goals first | rfl | omega
    rw [hco, hou]
    clear hco hou
    go_enter Try.func41, Try.ntmps41
    go_wp2_with (first | (go_at_call 96; refine (isStitch_yes _ _ ?_).mono ?_; (omega); rintro e w' ⟨rfl, rfl⟩) | (go_at_call 96; refine (isStitch_no _ _ ?_).mono ?_; (omega); rintro e w' ⟨rfl, rfl⟩) | (go_at_call 80; refine (isAt_yes _ _ ?_).mono ?_; (omega); rintro e w' ⟨rfl, rfl⟩) | (go_at_call 80; refine (isAt_no _ _ ?_).mono ?_; (omega); rintro e w' ⟨rfl, rfl⟩) | (go_at_call 87; refine (isDirection_yes _ _ ?_).mono ?_; (omega); rintro e w' ⟨rfl, rfl⟩) | (go_at_call 87; refine (isDirection_no _ _ ?_).mono ?_; (omega); rintro e w' ⟨rfl, rfl⟩) | (go_at_call 76; refine (isCarrier_yes _ _ ?_).mono ?_; (omega); rintro e w' ⟨rfl, rfl⟩) | (go_at_call 76; refine (isCarrier_no _ _ ?_).mono ?_; (omega); rintro e w' ⟨rfl, rfl⟩))
    refine (stitchOps_any _ k p d c h (by omega) h3 h4).mono ?_
    rintro e w1 ⟨v, rfl, k1, g1⟩
    have K1 := Lib.hid k1
    have G1 := Lib.hid g1
    clear k1 g1
    go_wp2
    go_ret2
    exact ⟨_, rfl, K1.out, G1.out⟩
theorem outOf_len (k p d c : Int) : cntOps (outOf k p d c) ≤ 24 := by
  unfold outOf stitchM cntOps
  repeat' split
  all_goals simp
end fnExactStitchOps
-- LAW
namespace fnExactStitchOps
set_option linter.unusedVariables false in
set_option maxHeartbeats 2000000 in
theorem walk (w : World) (a0 : Int) (ia0 : I64 a0) (a1 : Int) (ia1 : I64 a1) (a2 : Int) (ia2 : I64 a2) (a3 : Int) (ia3 : I64 a3) :
    Calls Try.prog 9 #[.int .i64 a0, .int .i64 a1, .int .i64 a2, .int .i64 a3] w fun e w' => e = .returned (.bool true) ∧ Below w.heap.size w w' := by
  have U0 := Lib.hid (Chg.refl Nowhere w)
  go_enter Try.func9, Try.ntmps9
  go_wp2_with fail
  refine (spec_any _ a0 a1 a2 a3).mono ?_
  rintro e w1 ⟨uW, rfl, k1, g1⟩
  obtain ⟨BW, dW, rfl, eW, fW⟩ := k1.shape
  have K := Lib.hid k1
  have G1 := Lib.hid g1
  clear k1 g1
  have G1z := G1.out.size
  have U0' := Lib.hid (Chg.trans U0.out G1.out)
  clear U0 G1
  have W := K
  clear K
  go_wp2_with fail
  refine (impl_any _ a0 a1 a2 a3).mono ?_
  rintro e w2 ⟨uR, rfl, k1, g1⟩
  obtain ⟨BR, dR, rfl, eR, fR⟩ := k1.shape
  have K := Lib.hid k1
  have G2 := Lib.hid g1
  clear k1 g1
  have G2z := G2.out.size
  have W' := Lib.hid (W.out.up G2.out)
  clear W
  have U0'' := Lib.hid (Chg.trans U0'.out G2.out)
  clear U0' G2
  have R := K
  clear K
  go_wp2_with fail
  refine (eqOps _ _ _ _ _ (outOf a0 a1 a2 a3) R.out W'.out).mono ?_
  rintro e w3 ⟨rfl, g1⟩
  have G3 := Lib.hid g1
  clear g1
  have G3z := G3.out.size
  have W'' := Lib.hid (W'.out.up G3.out)
  clear W'
  have R' := Lib.hid (R.out.up G3.out)
  clear R
  have U0''' := Lib.hid (Chg.trans U0''.out G3.out)
  clear U0'' G3
  have hr := outOf_len a0 a1 a2 a3
  have hr1 : (0 : Int) ≤ 1 := by omega
  have hr2 : (1 : Int) + cntOps ((outOf a0 a1 a2 a3)) ≤ 4611686018427387904 := by have := hr; omega
  have HR := Lib.hid hr
  clear hr
  go_wp2_with fail
  refine (markOps _ _ _ (outOf a0 a1 a2 a3) 1 hr1 hr2 R'.out).mono ?_
  rintro e w4 ⟨rfl, g1, k1⟩
  have K := Lib.hid k1
  have G4 := Lib.hid g1
  clear k1 g1
  clear R'
  have G4z := G4.out.size
  have W''' := Lib.hid (W''.out.keep G4.out (fun b hb h1 h2 => by simp only [New] at h1 h2; omega))
  clear W''
  have U0'''' := Lib.hid (Chg.new U0'''.out G4.out (fun i hi h2 => by simp only [New] at h2; omega))
  clear U0''' G4
  have MR := K
  clear K
  go_wp2_with fail
  refine (heldOps _ _ _ (outOf a0 a1 a2 a3) 1 hr1 hr2 MR.out).mono ?_
  rintro e w5 ⟨rfl, g1⟩
  have G5 := Lib.hid g1
  clear g1
  have G5z := G5.out.size
  have W'''' := Lib.hid (W'''.out.up G5.out)
  clear W'''
  have MR' := Lib.hid (MR.out.up G5.out)
  clear MR
  have U0''''' := Lib.hid (Chg.trans U0''''.out G5.out)
  clear U0'''' G5
  go_wp2_with fail
  refine (impl_any _ a0 a1 a2 a3).mono ?_
  rintro e w6 ⟨uH, rfl, k1, g1⟩
  obtain ⟨BH, dH, rfl, eH, fH⟩ := k1.shape
  have K := Lib.hid k1
  have G6 := Lib.hid g1
  clear k1 g1
  have G6z := G6.out.size
  have W''''' := Lib.hid (W''''.out.up G6.out)
  clear W''''
  have MR'' := Lib.hid (MR'.out.up G6.out)
  clear MR'
  have U0'''''' := Lib.hid (Chg.trans U0'''''.out G6.out)
  clear U0''''' G6
  have H := K
  clear K
  go_wp2_with fail
  refine (eqOps _ _ _ _ _ (outOf a0 a1 a2 a3) H.out W'''''.out).mono ?_
  rintro e w7 ⟨rfl, g1⟩
  have G7 := Lib.hid g1
  clear g1
  have G7z := G7.out.size
  have W'''''' := Lib.hid (W'''''.out.up G7.out)
  clear W'''''
  have MR''' := Lib.hid (MR''.out.up G7.out)
  clear MR''
  have H' := Lib.hid (H.out.up G7.out)
  clear H
  have U0''''''' := Lib.hid (Chg.trans U0''''''.out G7.out)
  clear U0'''''' G7
  go_wp2_with fail
  refine (heldOps _ _ _ (outOf a0 a1 a2 a3) 1 hr1 hr2 MR'''.out).mono ?_
  rintro e w8 ⟨rfl, g1⟩
  have G8 := Lib.hid g1
  clear g1
  have G8z := G8.out.size
  have W''''''' := Lib.hid (W''''''.out.up G8.out)
  clear W''''''
  have MR'''' := Lib.hid (MR'''.out.up G8.out)
  clear MR'''
  have H'' := Lib.hid (H'.out.up G8.out)
  clear H'
  have U0'''''''' := Lib.hid (Chg.trans U0'''''''.out G8.out)
  clear U0''''''' G8
  go_wp2
  go_ret
  exact ⟨rfl, Up.below U0''''''''.out⟩
end fnExactStitchOps
end Go.Proofs.Ytaemcjakmeibjaa
namespace Go.Proofs.Ytaemcjakmeibjaa.fnExactStitchOps
open Go.ChangeShapes Go.WideShapes Go.ChangeAt Go.RowKit
set_option linter.unusedVariables false
theorem own : ownKnob Try.prog.godebug = none := by kernel_rfl
theorem laidOut : laidOutB Try.prog = true := by kernel_rfl
theorem readable : ∀ t ∈ Try.f9.params.toList, Try.prog.readableRec t = true ∧ t < Try.prog.types.size := by
  have h : (Try.f9.params.toList.all fun t => Try.prog.readableRec t && decide (t < Try.prog.types.size)) = true := by kernel_rfl
  intro t ht
  have h2 := List.all_eq_true.1 h t ht
  rw [Bool.and_eq_true, decide_eq_true_eq] at h2
  exact h2
theorem resT : Try.f9.resultTypes = #[4] := by kernel_rfl
set_option maxRecDepth 100000 in
theorem lifted (os : Os) (started : os.Started) (H : Type) (enc : TypeId × Value → H) :
    ReturnsInHanded {} Try.checked os 9 .any (Rows.fnExactStitchOpsSpec.pre6 enc Try.prog Try.f9 Rows.fnExactStitchOpsRow.domain false) (Rows.fnExactStitchOpsSpec.post enc Try.prog Try.f9 false true false false) := by
  refine returnsInHanded_of_change (C := Try.checked) own started (by kernel_rfl) Try.func9
    (ChangeSpec.witness6 (enc := enc) (C := Try.checked) false ⟨#[], #[.int .i64 0, .int .i64 0, .int .i64 0, .int .i64 0], []⟩ 8 (by kernel_rfl) (by kernel_rfl) (by kernel_rfl) (by kernel_rfl)) ?_
  intro W base args ds gs before hval0 hW hcnd _
  have hval : ∀ (j : Nat) t v, Try.f9.params[j]? = some t → args[j]? = some v → Value.okWide Try.prog W .any base t v := hval0
  have hW' := hW
  obtain ⟨p, q, hA0, hV, rfl, hfz, hnd⟩ := hW
  have hA : DataW.TrodAll enc Try.prog W 0 (fun _ => true) true Try.f9.params.toList args.toList ds p := hA0
  rw [Try.params9] at hA hval
  obtain ⟨v0, vs0, d0, ds0, p0, q0, hargs, rfl, rfl, h0, r0⟩ := trodAll_cons hA
  obtain ⟨v1, vs1, d1, ds1, p1, q1, rfl, rfl, rfl, h1, r1⟩ := trodAll_cons r0
  obtain ⟨v2, vs2, d2, ds2, p2, q2, rfl, rfl, rfl, h2, r2⟩ := trodAll_cons r1
  obtain ⟨v3, vs3, d3, ds3, p3, q3, rfl, rfl, rfl, h3, r3⟩ := trodAll_cons r2
  obtain ⟨rfl, rfl, rfl⟩ := trodAll_nil r3
  obtain rfl : args = #[v0, v1, v2, v3] := by cases args; simp_all
  obtain ⟨rfl, rfl⟩ := trodVars_none hV
  have hpost : ∀ W', Below W.heap.size W W' → Rows.fnExactStitchOpsSpec.post enc Try.prog Try.f9 false true false false W #[v0, v1, v2, v3] (.bool true) W' := fun W' hb =>
    law_post laidOut readable resT Try.underlying4 rfl rfl hW' hb
  have hz : ∀ b off, MemPlace.cell b off ∈ p0 ++ (p1 ++ (p2 ++ (p3 ++ []))) → W.frozen? ⟨b, off, none⟩ = false := fun b off hm => hfz b off (by simpa using hm)
  clear hW' hA0 hval0 hcnd hnd hV hA
  obtain ⟨a0, rfl, -, -, w0⟩ := open_int Try.underlying2 (hval 0 2 v0 rfl rfl) h0
  obtain ⟨a1, rfl, -, -, w1⟩ := open_int Try.underlying2 (hval 1 2 v1 rfl rfl) h1
  obtain ⟨a2, rfl, -, -, w2⟩ := open_int Try.underlying2 (hval 2 2 v2 rfl rfl) h2
  obtain ⟨a3, rfl, -, -, w3⟩ := open_int Try.underlying2 (hval 3 2 v3 rfl rfl) h3
  refine (walk W a0 (I64.of_wf w0) a1 (I64.of_wf w1) a2 (I64.of_wf w2) a3 (I64.of_wf w3)).mono fun e W' ⟨he, hg⟩ => ?_
  subst he
  exact ⟨_, rfl, hpost W' hg⟩
theorem over : Rows.fnExactStitchOpsRow.holds Try.pinned (OpenSpec.ofChange Rows.fnExactStitchOpsSpec) :=
  OpenClaim.holds_of_wide 9 Try.f9 rfl rfl rfl rfl rfl rfl rfl ⟨rfl, rfl, rfl, rfl, rfl⟩ rfl rfl rfl rfl rfl (by kernel_rfl) Try.func9 (by kernel_rfl)
    (of_decide_eq_true (by kernel_rfl)) (by unfold Func.isWrapper; first | (rw [if_pos (by decide +kernel)]; kernel_rfl) | (rw [if_neg (by decide +kernel)]; exact ⟨rfl, rfl⟩))
    (fun os started H enc _ => lifted os started H enc)
theorem proved : Rows.FnExactStitchOpsSaid :=
  over
end Go.Proofs.Ytaemcjakmeibjaa.fnExactStitchOps
