/- The program's CrossColumns answers as the reference's, for all arguments; its memory is its own. No condition. -/
import Derived.Test.YtaemcjakmeibjaaCross
namespace Go.Proofs.Ytaemcjakmeibjaa
open Go.ChangeShapes Go.WideShapes Go.ChangeAt Go.RowKit
namespace fnExactCrossColumns
def codeOf (l : Int) (_f : Bool) : Int := if 1 ≤ l ∧ l ≤ 20 then 0 else 2
def outOf (l : Int) (f : Bool) : List OpM := if 1 ≤ l ∧ l ≤ 20 then crossM l f else []
set_option maxHeartbeats 4000000 in
theorem spec_any (w : World) (l : Int) (f : Bool) :
    Calls Try.prog 44 #[.int .i64 l, .bool f] w fun e w' => ∃ v, e = .returned (.tuple #[v, .int .i64 (codeOf l f)]) ∧ Ops w' (New w.heap.size w'.heap.size) v (outOf l f) ∧ Up w w' := by
  have hc : (l < 1 ∨ 20 < l) ∨ (1 ≤ l ∧ l ≤ 20) := by omega
  rcases hc with h | h
  · have hco : codeOf l f = 2 := by
      unfold codeOf
      repeat' split
      all_goals first | rfl | omega
    have hou : outOf l f = [] := by
      unfold outOf
      repeat' split
      all_goals first | rfl | omega
    rw [hco, hou]
    clear hco hou
    go_enter Try.func44, Try.ntmps44
    go_wp2_with (first | (go_at_call 70; refine (l00In_yes _ _ _ _ ?_).mono ?_; (omega); rintro e w' ⟨rfl, rfl⟩) | (go_at_call 70; refine (l00In_no _ _ _ _ ?_).mono ?_; (omega); rintro e w' ⟨rfl, rfl⟩))
    go_ret2
    exact ⟨_, rfl, Ops.nil _ _ _ _ (by omega), Chg.refl _ _⟩
  · have hco : codeOf l f = 0 := by
      unfold codeOf
      repeat' split
      all_goals first | rfl | omega
    have hou : outOf l f = crossM l f := by
      unfold outOf
      repeat' split
      all_goals first | rfl | omega
    rw [hco, hou]
    clear hco hou
    go_enter Try.func44, Try.ntmps44
    go_wp2_with (first | (go_at_call 70; refine (l00In_yes _ _ _ _ ?_).mono ?_; (omega); rintro e w' ⟨rfl, rfl⟩) | (go_at_call 70; refine (l00In_no _ _ _ _ ?_).mono ?_; (omega); rintro e w' ⟨rfl, rfl⟩))
    refine (l22Cross_any _ l f (by omega) (by omega)).mono ?_
    rintro e w1 ⟨v, rfl, k1, g1⟩
    have K1 := Lib.hid k1
    have G1 := Lib.hid g1
    clear k1 g1
    go_wp2
    go_ret2
    exact ⟨_, rfl, K1.out, G1.out⟩
set_option maxHeartbeats 4000000 in
theorem impl_any (w : World) (l : Int) (f : Bool) :
    Calls Try.prog 45 #[.int .i64 l, .bool f] w fun e w' => ∃ v, e = .returned (.tuple #[v, .int .i64 (codeOf l f)]) ∧ Ops w' (New w.heap.size w'.heap.size) v (outOf l f) ∧ Up w w' := by
  have hc : (l < 1 ∨ 20 < l) ∨ (1 ≤ l ∧ l ≤ 20) := by omega
  rcases hc with h | h
  · have hco : codeOf l f = 2 := by
      unfold codeOf
      repeat' split
      all_goals first | rfl | omega
    have hou : outOf l f = [] := by
      unfold outOf
      repeat' split
      all_goals first | rfl | omega
    rw [hco, hou]
    clear hco hou
    go_enter Try.func45, Try.ntmps45
    go_wp2_with (first | (go_at_call 75; refine (within_yes _ _ _ _ ?_).mono ?_; (omega); rintro e w' ⟨rfl, rfl⟩) | (go_at_call 75; refine (within_no _ _ _ _ ?_).mono ?_; (omega); rintro e w' ⟨rfl, rfl⟩))
    go_ret2
    exact ⟨_, rfl, Ops.nil _ _ _ _ (by omega), Chg.refl _ _⟩
  · have hco : codeOf l f = 0 := by
      unfold codeOf
      repeat' split
      all_goals first | rfl | omega
    have hou : outOf l f = crossM l f := by
      unfold outOf
      repeat' split
      all_goals first | rfl | omega
    rw [hco, hou]
    clear hco hou
    go_enter Try.func45, Try.ntmps45
    go_wp2_with (first | (go_at_call 75; refine (within_yes _ _ _ _ ?_).mono ?_; (omega); rintro e w' ⟨rfl, rfl⟩) | (go_at_call 75; refine (within_no _ _ _ _ ?_).mono ?_; (omega); rintro e w' ⟨rfl, rfl⟩))
    refine (crossColumns_any _ l f (by omega) (by omega)).mono ?_
    rintro e w1 ⟨v, rfl, k1, g1⟩
    have K1 := Lib.hid k1
    have G1 := Lib.hid g1
    clear k1 g1
    go_wp2
    go_ret2
    exact ⟨_, rfl, K1.out, G1.out⟩
theorem outOf_len (l : Int) (f : Bool) : cntOps (outOf l f) ≤ 96 := by
  unfold outOf cntOps
  split
  · rw [crossM_length]; omega
  · simp
end fnExactCrossColumns
-- LAW
namespace fnExactCrossColumns
set_option linter.unusedVariables false in
set_option maxHeartbeats 2000000 in
theorem walk (w : World) (a0 : Int) (ia0 : I64 a0) (a1 : Bool)  :
    Calls Try.prog 11 #[.int .i64 a0, .bool a1] w fun e w' => e = .returned (.bool true) ∧ Below w.heap.size w w' := by
  have U0 := Lib.hid (Chg.refl Nowhere w)
  go_enter Try.func11, Try.ntmps11
  go_wp2_with fail
  refine (spec_any _ a0 a1).mono ?_
  rintro e w1 ⟨uW, rfl, k1, g1⟩
  obtain ⟨BW, dW, rfl, eW, fW, -⟩ := k1.shape
  have K := Lib.hid k1
  have G1 := Lib.hid g1
  clear k1 g1
  have G1z := G1.out.size
  have U0' := Lib.hid (Chg.trans U0.out G1.out)
  clear U0 G1
  have W := K
  clear K
  go_wp2_with fail
  refine (impl_any _ a0 a1).mono ?_
  rintro e w2 ⟨uR, rfl, k1, g1⟩
  obtain ⟨BR, dR, rfl, eR, fR, -⟩ := k1.shape
  have K := Lib.hid k1
  have G2 := Lib.hid g1
  clear k1 g1
  have G2z := G2.out.size
  have W' := Lib.hid (W.out.up G2.out)
  clear W
  have U0'' := Lib.hid (Chg.trans U0'.out G2.out)
  clear U0' G2
  have R := K
  clear K
  go_wp2_with fail
  refine (eqOps _ _ _ _ _ (outOf a0 a1) R.out W'.out).mono ?_
  rintro e w3 ⟨rfl, g1⟩
  have G3 := Lib.hid g1
  clear g1
  have G3z := G3.out.size
  have W'' := Lib.hid (W'.out.up G3.out)
  clear W'
  have R' := Lib.hid (R.out.up G3.out)
  clear R
  have U0''' := Lib.hid (Chg.trans U0''.out G3.out)
  clear U0'' G3
  have hr := outOf_len a0 a1
  have hr1 : (0 : Int) ≤ 1 := by omega
  have hr2 : (1 : Int) + cntOps ((outOf a0 a1)) ≤ 4611686018427387904 := by have := hr; omega
  have HR := Lib.hid hr
  clear hr
  go_wp2_with fail
  refine (markOps _ _ _ (outOf a0 a1) 1 hr1 hr2 R'.out).mono ?_
  rintro e w4 ⟨rfl, g1, k1⟩
  have K := Lib.hid k1
  have G4 := Lib.hid g1
  clear k1 g1
  clear R'
  have G4z := G4.out.size
  have W''' := Lib.hid (W''.out.keep G4.out (fun b hb h1 h2 => by simp only [New] at h1 h2; omega))
  clear W''
  have U0'''' := Lib.hid (Chg.new U0'''.out G4.out (fun i hi h2 => by simp only [New] at h2; omega))
  clear U0''' G4
  have MR := K
  clear K
  go_wp2_with fail
  refine (heldOps _ _ _ (outOf a0 a1) 1 hr1 hr2 MR.out).mono ?_
  rintro e w5 ⟨rfl, g1⟩
  have G5 := Lib.hid g1
  clear g1
  have G5z := G5.out.size
  have W'''' := Lib.hid (W'''.out.up G5.out)
  clear W'''
  have MR' := Lib.hid (MR.out.up G5.out)
  clear MR
  have U0''''' := Lib.hid (Chg.trans U0''''.out G5.out)
  clear U0'''' G5
  go_wp2_with fail
  refine (impl_any _ a0 a1).mono ?_
  rintro e w6 ⟨uH, rfl, k1, g1⟩
  obtain ⟨BH, dH, rfl, eH, fH, -⟩ := k1.shape
  have K := Lib.hid k1
  have G6 := Lib.hid g1
  clear k1 g1
  have G6z := G6.out.size
  have W''''' := Lib.hid (W''''.out.up G6.out)
  clear W''''
  have MR'' := Lib.hid (MR'.out.up G6.out)
  clear MR'
  have U0'''''' := Lib.hid (Chg.trans U0'''''.out G6.out)
  clear U0''''' G6
  have H := K
  clear K
  go_wp2_with fail
  refine (eqOps _ _ _ _ _ (outOf a0 a1) H.out W'''''.out).mono ?_
  rintro e w7 ⟨rfl, g1⟩
  have G7 := Lib.hid g1
  clear g1
  have G7z := G7.out.size
  have W'''''' := Lib.hid (W'''''.out.up G7.out)
  clear W'''''
  have MR''' := Lib.hid (MR''.out.up G7.out)
  clear MR''
  have H' := Lib.hid (H.out.up G7.out)
  clear H
  have U0''''''' := Lib.hid (Chg.trans U0''''''.out G7.out)
  clear U0'''''' G7
  go_wp2_with fail
  refine (heldOps _ _ _ (outOf a0 a1) 1 hr1 hr2 MR'''.out).mono ?_
  rintro e w8 ⟨rfl, g1⟩
  have G8 := Lib.hid g1
  clear g1
  have G8z := G8.out.size
  have W''''''' := Lib.hid (W''''''.out.up G8.out)
  clear W''''''
  have MR'''' := Lib.hid (MR'''.out.up G8.out)
  clear MR'''
  have H'' := Lib.hid (H'.out.up G8.out)
  clear H'
  have U0'''''''' := Lib.hid (Chg.trans U0'''''''.out G8.out)
  clear U0''''''' G8
  go_wp2
  go_ret
  exact ⟨rfl, Up.below U0''''''''.out⟩
end fnExactCrossColumns
end Go.Proofs.Ytaemcjakmeibjaa
namespace Go.Proofs.Ytaemcjakmeibjaa.fnExactCrossColumns
open Go.ChangeShapes Go.WideShapes Go.ChangeAt Go.RowKit
set_option linter.unusedVariables false
theorem own : ownKnob Try.prog.godebug = none := by kernel_rfl
theorem laidOut : laidOutB Try.prog = true := by kernel_rfl
theorem readable : ∀ t ∈ Try.f11.params.toList, Try.prog.readableRec t = true ∧ t < Try.prog.types.size := by
  have h : (Try.f11.params.toList.all fun t => Try.prog.readableRec t && decide (t < Try.prog.types.size)) = true := by kernel_rfl
  intro t ht
  have h2 := List.all_eq_true.1 h t ht
  rw [Bool.and_eq_true, decide_eq_true_eq] at h2
  exact h2
theorem resT : Try.f11.resultTypes = #[4] := by kernel_rfl
set_option maxRecDepth 100000 in
theorem lifted (os : Os) (started : os.Started) (H : Type) (enc : TypeId × Value → H) :
    ReturnsInHanded {} Try.checked os 11 .any (Rows.fnExactCrossColumnsSpec.pre6 enc Try.prog Try.f11 Rows.fnExactCrossColumnsRow.domain false) (Rows.fnExactCrossColumnsSpec.post enc Try.prog Try.f11 false true false false) := by
  refine returnsInHanded_of_change (C := Try.checked) own started (by kernel_rfl) Try.func11
    (ChangeSpec.witness6 (enc := enc) (C := Try.checked) false ⟨#[], #[.int .i64 0, .bool false], []⟩ 8 (by kernel_rfl) (by kernel_rfl) (by kernel_rfl) (by kernel_rfl)) ?_
  intro W base args ds gs before hval0 hW hcnd _
  have hval : ∀ (j : Nat) t v, Try.f11.params[j]? = some t → args[j]? = some v → Value.okWide Try.prog W .any base t v := hval0
  have hW' := hW
  obtain ⟨p, q, hA0, hV, rfl, hfz, hnd⟩ := hW
  have hA : DataW.TrodAll enc Try.prog W 0 (fun _ => true) true Try.f11.params.toList args.toList ds p := hA0
  rw [Try.params11] at hA hval
  obtain ⟨v0, vs0, d0, ds0, p0, q0, hargs, rfl, rfl, h0, r0⟩ := trodAll_cons hA
  obtain ⟨v1, vs1, d1, ds1, p1, q1, rfl, rfl, rfl, h1, r1⟩ := trodAll_cons r0
  obtain ⟨rfl, rfl, rfl⟩ := trodAll_nil r1
  obtain rfl : args = #[v0, v1] := by cases args; simp_all
  obtain ⟨rfl, rfl⟩ := trodVars_none hV
  have hpost : ∀ W', Below W.heap.size W W' → Rows.fnExactCrossColumnsSpec.post enc Try.prog Try.f11 false true false false W #[v0, v1] (.bool true) W' := fun W' hb =>
    law_post laidOut readable resT Try.underlying4 rfl rfl hW' hb
  have hz : ∀ b off, MemPlace.cell b off ∈ p0 ++ (p1 ++ []) → W.frozen? ⟨b, off, none⟩ = false := fun b off hm => hfz b off (by simpa using hm)
  clear hW' hA0 hval0 hcnd hnd hV hA
  obtain ⟨a0, rfl, -, -, w0⟩ := open_int Try.underlying2 (hval 0 2 v0 rfl rfl) h0
  obtain ⟨a1, rfl, -, -⟩ := open_bool Try.underlying4 (hval 1 4 v1 rfl rfl) h1
  refine (walk W a0 (I64.of_wf w0) a1).mono fun e W' ⟨he, hg⟩ => ?_
  subst he
  exact ⟨_, rfl, hpost W' hg⟩
theorem over : Rows.fnExactCrossColumnsRow.holds Try.pinned (OpenSpec.ofChange Rows.fnExactCrossColumnsSpec) :=
  OpenClaim.holds_of_wide 11 Try.f11 rfl rfl rfl rfl rfl rfl rfl ⟨rfl, rfl, rfl, rfl, rfl⟩ rfl rfl rfl rfl rfl (by kernel_rfl) Try.func11 (by kernel_rfl)
    (of_decide_eq_true (by kernel_rfl)) (by unfold Func.isWrapper; first | (rw [if_pos (by decide +kernel)]; kernel_rfl) | (rw [if_neg (by decide +kernel)]; exact ⟨rfl, rfl⟩))
    (fun os started H enc _ => lifted os started H enc)
theorem proved : Rows.FnExactCrossColumnsSaid :=
  over
end Go.Proofs.Ytaemcjakmeibjaa.fnExactCrossColumns
