/- The program's MoveOps answers as the reference's, for every move; its memory is its own. No condition. -/
import Derived.Test.YtaemcjakmeibjaaMove
namespace Go.Proofs.Ytaemcjakmeibjaa
open Go.ChangeShapes Go.WideShapes Go.ChangeAt Go.RowKit
namespace fnExactMoveOps
def codeOf (f t : Int) : Int := if isMoveP f t then 0 else 1
def outOf (f t : Int) : List OpM := if isMoveP f t then rackM f t else []
set_option maxHeartbeats 4000000 in
theorem spec_any (w : World) (f t : Int) :
    Calls Try.prog 31 #[.agg #[.int .i64 f, .int .i64 t]] w fun e w' => ∃ v, e = .returned (.tuple #[v, .int .i64 (codeOf f t)]) ∧ Ops w' (New w.heap.size w'.heap.size) v (outOf f t) ∧ Up w w' := by
  by_cases hm : isMoveP f t
  · rw [show codeOf f t = 0 from if_pos hm, show outOf f t = rackM f t from if_pos hm]
    have HT := Lib.hid (decide_eq_true hm)
    have HM := Lib.hid hm
    clear hm
    go_enter Try.func31, Try.ntmps31
    go_wp2_with fail
    refine (l21Move_any _ f t).mono ?_
    rintro e w1 ⟨rfl, g1⟩
    rw [HT.out]
    have q0 := Chg.cell g1 (cell_new w _ _ 0) id
    have q1 := Chg.cell g1 (cell_new w _ _ 1) id
    have hz := g1.size
    simp at hz
    have G1 := Lib.hid (Chg.trans ((Chg.refl Nowhere w).alloc _) g1)
    clear g1
    go_wp2_with fail
    refine (l21Over_any _ f t (by have := HM.out.1; omega) (by have := HM.out.2.1; omega)).mono ?_
    rintro e w2 ⟨v, rfl, k1, g2⟩
    have K1 := Lib.hid k1
    have G2 := Lib.hid g2
    clear k1 g2
    go_wp2
    go_ret2
    exact ⟨_, rfl, K1.out.mono (fun b _ hb => ⟨Nat.le_trans (by omega) hb.1, hb.2⟩), Chg.trans G1.out G2.out⟩
  · rw [show codeOf f t = 1 from if_neg hm, show outOf f t = [] from if_neg hm]
    have HT := Lib.hid (decide_eq_false hm)
    clear hm
    go_enter Try.func31, Try.ntmps31
    go_wp2_with fail
    refine (l21Move_any _ f t).mono ?_
    rintro e w1 ⟨rfl, g1⟩
    rw [HT.out]
    have G1 := Lib.hid (Chg.trans ((Chg.refl Nowhere w).alloc _) g1)
    clear g1
    go_wp2
    go_ret2
    exact ⟨_, rfl, Ops.nil _ _ _ _ (by omega), G1.out⟩
set_option maxHeartbeats 4000000 in
theorem impl_any (w : World) (f t : Int) :
    Calls Try.prog 33 #[.agg #[.int .i64 f, .int .i64 t]] w fun e w' => ∃ v, e = .returned (.tuple #[v, .int .i64 (codeOf f t)]) ∧ Ops w' (New w.heap.size w'.heap.size) v (outOf f t) ∧ Up w w' := by
  by_cases hm : isMoveP f t
  · rw [show codeOf f t = 0 from if_pos hm, show outOf f t = rackM f t from if_pos hm]
    have HT := Lib.hid (decide_eq_true hm)
    have HM := Lib.hid hm
    clear hm
    go_enter Try.func33, Try.ntmps33
    go_wp2_with fail
    refine (isMove_any _ f t).mono ?_
    rintro e w1 ⟨rfl, g1⟩
    rw [HT.out]
    have q0 := Chg.cell g1 (cell_new w _ _ 0) id
    have q1 := Chg.cell g1 (cell_new w _ _ 1) id
    have hz := g1.size
    simp at hz
    have G1 := Lib.hid (Chg.trans ((Chg.refl Nowhere w).alloc _) g1)
    clear g1
    go_wp2_with fail
    refine (rackOps_any _ f t (by have := HM.out.1; omega) (by have := HM.out.2.1; omega)).mono ?_
    rintro e w2 ⟨v, rfl, k1, g2⟩
    have K1 := Lib.hid k1
    have G2 := Lib.hid g2
    clear k1 g2
    go_wp2
    go_ret2
    exact ⟨_, rfl, K1.out.mono (fun b _ hb => ⟨Nat.le_trans (by omega) hb.1, hb.2⟩), Chg.trans G1.out G2.out⟩
  · rw [show codeOf f t = 1 from if_neg hm, show outOf f t = [] from if_neg hm]
    have HT := Lib.hid (decide_eq_false hm)
    clear hm
    go_enter Try.func33, Try.ntmps33
    go_wp2_with fail
    refine (isMove_any _ f t).mono ?_
    rintro e w1 ⟨rfl, g1⟩
    rw [HT.out]
    have G1 := Lib.hid (Chg.trans ((Chg.refl Nowhere w).alloc _) g1)
    clear g1
    go_wp2
    go_ret2
    exact ⟨_, rfl, Ops.nil _ _ _ _ (by omega), G1.out⟩
theorem outOf_len (f t : Int) : cntOps (outOf f t) ≤ 32 := by
  unfold outOf cntOps
  split <;> simp [rackM]
end fnExactMoveOps
-- LAW
namespace fnExactMoveOps
set_option linter.unusedVariables false in
set_option maxHeartbeats 2000000 in
theorem walk (w : World) (a0f a0t : Int) (ia0f : I64 a0f) (ia0t : I64 a0t)  :
    Calls Try.prog 7 #[.agg #[.int .i64 a0f, .int .i64 a0t]] w fun e w' => e = .returned (.bool true) ∧ Below w.heap.size w w' := by
  have U0 := Lib.hid (Chg.refl Nowhere w)
  go_enter Try.func7, Try.ntmps7
  have U0' := Lib.hid (Chg.alloc U0.out (.cells #[.int .i64 a0f, .int .i64 a0t] 38))
  clear U0
  have U0 := U0'
  clear U0'
  have q0f := Lib.hid (show (w.alloc (.cells #[.int .i64 a0f, .int .i64 a0t] 38)).cell? ⟨w.heap.size, 0, none⟩ = some (.int .i64 a0f) from cell_new _ _ _ _)
  have q0t := Lib.hid (show (w.alloc (.cells #[.int .i64 a0f, .int .i64 a0t] 38)).cell? ⟨w.heap.size, 1, none⟩ = some (.int .i64 a0t) from cell_new _ _ _ _)
  have qz : w.heap.size < (w.alloc (.cells #[.int .i64 a0f, .int .i64 a0t] 38)).heap.size := by simp
  go_wp2_with fail
  refine (toMove_any _ a0f a0t).mono ?_
  rintro e w1 ⟨rfl, g1⟩
  have G1 := Lib.hid g1
  clear g1
  have G1z := G1.out.size
  have q0f' := Chg.cell G1.out q0f.out id
  clear q0f
  have q0t' := Chg.cell G1.out q0t.out id
  clear q0t
  have U0' := Lib.hid (Chg.trans U0.out G1.out)
  clear U0 G1
  go_wp2_with fail
  refine (spec_any _ a0f a0t).mono ?_
  rintro e w2 ⟨uW, rfl, k1, g1⟩
  obtain ⟨BW, dW, rfl, eW, fW, -⟩ := k1.shape
  have K := Lib.hid k1
  have G2 := Lib.hid g1
  clear k1 g1
  have G2z := G2.out.size
  have q0f'' := Chg.cell G2.out q0f' id
  clear q0f'
  have q0t'' := Chg.cell G2.out q0t' id
  clear q0t'
  have U0'' := Lib.hid (Chg.trans U0'.out G2.out)
  clear U0' G2
  have W := K
  clear K
  go_wp2_with fail
  refine (toMove_any _ a0f a0t).mono ?_
  rintro e w3 ⟨rfl, g1⟩
  have G3 := Lib.hid g1
  clear g1
  have G3z := G3.out.size
  have W' := Lib.hid (W.out.up G3.out)
  clear W
  have q0f''' := Chg.cell G3.out q0f'' id
  clear q0f''
  have q0t''' := Chg.cell G3.out q0t'' id
  clear q0t''
  have U0''' := Lib.hid (Chg.trans U0''.out G3.out)
  clear U0'' G3
  go_wp2_with fail
  refine (impl_any _ a0f a0t).mono ?_
  rintro e w4 ⟨uR, rfl, k1, g1⟩
  obtain ⟨BR, dR, rfl, eR, fR, -⟩ := k1.shape
  have K := Lib.hid k1
  have G4 := Lib.hid g1
  clear k1 g1
  have G4z := G4.out.size
  have W'' := Lib.hid (W'.out.up G4.out)
  clear W'
  have q0f'''' := Chg.cell G4.out q0f''' id
  clear q0f'''
  have q0t'''' := Chg.cell G4.out q0t''' id
  clear q0t'''
  have U0'''' := Lib.hid (Chg.trans U0'''.out G4.out)
  clear U0''' G4
  have R := K
  clear K
  go_wp2_with fail
  refine (eqOps _ _ _ _ _ (outOf a0f a0t) R.out W''.out).mono ?_
  rintro e w5 ⟨rfl, g1⟩
  have G5 := Lib.hid g1
  clear g1
  have G5z := G5.out.size
  have W''' := Lib.hid (W''.out.up G5.out)
  clear W''
  have R' := Lib.hid (R.out.up G5.out)
  clear R
  have q0f''''' := Chg.cell G5.out q0f'''' id
  clear q0f''''
  have q0t''''' := Chg.cell G5.out q0t'''' id
  clear q0t''''
  have U0''''' := Lib.hid (Chg.trans U0''''.out G5.out)
  clear U0'''' G5
  have hr := outOf_len a0f a0t
  have hr1 : (0 : Int) ≤ 1 := by omega
  have hr2 : (1 : Int) + cntOps ((outOf a0f a0t)) ≤ 4611686018427387904 := by have := hr; omega
  have HR := Lib.hid hr
  clear hr
  go_wp2_with fail
  refine (markOps _ _ _ (outOf a0f a0t) 1 hr1 hr2 R'.out).mono ?_
  rintro e w6 ⟨rfl, g1, k1⟩
  have K := Lib.hid k1
  have G6 := Lib.hid g1
  clear k1 g1
  clear R'
  have G6z := G6.out.size
  have W'''' := Lib.hid (W'''.out.keep G6.out (fun b hb h1 h2 => by simp only [New] at h1 h2; omega))
  clear W'''
  have q0f'''''' := Chg.cell G6.out q0f''''' (by simp only [New]; omega)
  clear q0f'''''
  have q0t'''''' := Chg.cell G6.out q0t''''' (by simp only [New]; omega)
  clear q0t'''''
  have U0'''''' := Lib.hid (Chg.new U0'''''.out G6.out (fun i hi h2 => by simp only [New] at h2; omega))
  clear U0''''' G6
  have MR := K
  clear K
  go_wp2_with fail
  refine (heldOps _ _ _ (outOf a0f a0t) 1 hr1 hr2 MR.out).mono ?_
  rintro e w7 ⟨rfl, g1⟩
  have G7 := Lib.hid g1
  clear g1
  have G7z := G7.out.size
  have W''''' := Lib.hid (W''''.out.up G7.out)
  clear W''''
  have MR' := Lib.hid (MR.out.up G7.out)
  clear MR
  have q0f''''''' := Chg.cell G7.out q0f'''''' id
  clear q0f''''''
  have q0t''''''' := Chg.cell G7.out q0t'''''' id
  clear q0t''''''
  have U0''''''' := Lib.hid (Chg.trans U0''''''.out G7.out)
  clear U0'''''' G7
  go_wp2_with fail
  refine (toMove_any _ a0f a0t).mono ?_
  rintro e w8 ⟨rfl, g1⟩
  have G8 := Lib.hid g1
  clear g1
  have G8z := G8.out.size
  have W'''''' := Lib.hid (W'''''.out.up G8.out)
  clear W'''''
  have MR'' := Lib.hid (MR'.out.up G8.out)
  clear MR'
  have q0f'''''''' := Chg.cell G8.out q0f''''''' id
  clear q0f'''''''
  have q0t'''''''' := Chg.cell G8.out q0t''''''' id
  clear q0t'''''''
  have U0'''''''' := Lib.hid (Chg.trans U0'''''''.out G8.out)
  clear U0''''''' G8
  go_wp2_with fail
  refine (impl_any _ a0f a0t).mono ?_
  rintro e w9 ⟨uH, rfl, k1, g1⟩
  obtain ⟨BH, dH, rfl, eH, fH, -⟩ := k1.shape
  have K := Lib.hid k1
  have G9 := Lib.hid g1
  clear k1 g1
  have G9z := G9.out.size
  have W''''''' := Lib.hid (W''''''.out.up G9.out)
  clear W''''''
  have MR''' := Lib.hid (MR''.out.up G9.out)
  clear MR''
  have q0f''''''''' := Chg.cell G9.out q0f'''''''' id
  clear q0f''''''''
  have q0t''''''''' := Chg.cell G9.out q0t'''''''' id
  clear q0t''''''''
  have U0''''''''' := Lib.hid (Chg.trans U0''''''''.out G9.out)
  clear U0'''''''' G9
  have H := K
  clear K
  go_wp2_with fail
  refine (eqOps _ _ _ _ _ (outOf a0f a0t) H.out W'''''''.out).mono ?_
  rintro e w10 ⟨rfl, g1⟩
  have G10 := Lib.hid g1
  clear g1
  have G10z := G10.out.size
  have W'''''''' := Lib.hid (W'''''''.out.up G10.out)
  clear W'''''''
  have MR'''' := Lib.hid (MR'''.out.up G10.out)
  clear MR'''
  have H' := Lib.hid (H.out.up G10.out)
  clear H
  have q0f'''''''''' := Chg.cell G10.out q0f''''''''' id
  clear q0f'''''''''
  have q0t'''''''''' := Chg.cell G10.out q0t''''''''' id
  clear q0t'''''''''
  have U0'''''''''' := Lib.hid (Chg.trans U0'''''''''.out G10.out)
  clear U0''''''''' G10
  go_wp2_with fail
  refine (heldOps _ _ _ (outOf a0f a0t) 1 hr1 hr2 MR''''.out).mono ?_
  rintro e w11 ⟨rfl, g1⟩
  have G11 := Lib.hid g1
  clear g1
  have G11z := G11.out.size
  have W''''''''' := Lib.hid (W''''''''.out.up G11.out)
  clear W''''''''
  have MR''''' := Lib.hid (MR''''.out.up G11.out)
  clear MR''''
  have H'' := Lib.hid (H'.out.up G11.out)
  clear H'
  have q0f''''''''''' := Chg.cell G11.out q0f'''''''''' id
  clear q0f''''''''''
  have q0t''''''''''' := Chg.cell G11.out q0t'''''''''' id
  clear q0t''''''''''
  have U0''''''''''' := Lib.hid (Chg.trans U0''''''''''.out G11.out)
  clear U0'''''''''' G11
  go_wp2
  go_ret
  exact ⟨rfl, Up.below U0'''''''''''.out⟩
end fnExactMoveOps
end Go.Proofs.Ytaemcjakmeibjaa
namespace Go.Proofs.Ytaemcjakmeibjaa.fnExactMoveOps
open Go.ChangeShapes Go.WideShapes Go.ChangeAt Go.RowKit
set_option linter.unusedVariables false
theorem own : ownKnob Try.prog.godebug = none := by kernel_rfl
theorem laidOut : laidOutB Try.prog = true := by kernel_rfl
theorem readable : ∀ t ∈ Try.f7.params.toList, Try.prog.readableRec t = true ∧ t < Try.prog.types.size := by
  have h : (Try.f7.params.toList.all fun t => Try.prog.readableRec t && decide (t < Try.prog.types.size)) = true := by kernel_rfl
  intro t ht
  have h2 := List.all_eq_true.1 h t ht
  rw [Bool.and_eq_true, decide_eq_true_eq] at h2
  exact h2
theorem resT : Try.f7.resultTypes = #[4] := by kernel_rfl
set_option maxRecDepth 100000 in
theorem lifted (os : Os) (started : os.Started) (H : Type) (enc : TypeId × Value → H) :
    ReturnsInHanded {} Try.checked os 7 .any (Rows.fnExactMoveOpsSpec.pre6 enc Try.prog Try.f7 Rows.fnExactMoveOpsRow.domain false) (Rows.fnExactMoveOpsSpec.post enc Try.prog Try.f7 false true false false) := by
  refine returnsInHanded_of_change (C := Try.checked) own started (by kernel_rfl) Try.func7
    (ChangeSpec.witness6 (enc := enc) (C := Try.checked) false ⟨#[], #[.agg #[.int .i64 0, .int .i64 0]], []⟩ 8 (by kernel_rfl) (by kernel_rfl) (by kernel_rfl) (by kernel_rfl)) ?_
  intro W base args ds gs before hval0 hW hcnd _
  have hval : ∀ (j : Nat) t v, Try.f7.params[j]? = some t → args[j]? = some v → Value.okWide Try.prog W .any base t v := hval0
  have hW' := hW
  obtain ⟨p, q, hA0, hV, rfl, hfz, hnd⟩ := hW
  have hA : DataW.TrodAll enc Try.prog W 0 (fun _ => true) true Try.f7.params.toList args.toList ds p := hA0
  rw [Try.params7] at hA hval
  obtain ⟨v0, vs0, d0, ds0, p0, q0, hargs, rfl, rfl, h0, r0⟩ := trodAll_cons hA
  obtain ⟨rfl, rfl, rfl⟩ := trodAll_nil r0
  obtain rfl : args = #[v0] := by cases args; simp_all
  obtain ⟨rfl, rfl⟩ := trodVars_none hV
  have hpost : ∀ W', Below W.heap.size W W' → Rows.fnExactMoveOpsSpec.post enc Try.prog Try.f7 false true false false W #[v0] (.bool true) W' := fun W' hb =>
    law_post laidOut readable resT Try.underlying4 rfl rfl hW' hb
  have hz : ∀ b off, MemPlace.cell b off ∈ p0 ++ [] → W.frozen? ⟨b, off, none⟩ = false := fun b off hm => hfz b off (by simpa using hm)
  clear hW' hA0 hval0 hcnd hnd hV hA
  obtain ⟨m00, m01, y00, y01, n0, rfl, -, -, hy00, hy01⟩ := Go.Joins.open_agg2 Try.underlying38 (by kernel_rfl) (show Try.prog.cellsOf 38 = 2 by kernel_rfl) (hval 0 38 v0 rfl rfl) h0
  obtain ⟨a0f, e00, -, w0f⟩ := DataW.trod_int Try.underlying2 hy00
  simp only [List.cons.injEq, and_true] at e00
  subst e00
  obtain ⟨a0t, e01, -, w0t⟩ := DataW.trod_int Try.underlying2 hy01
  simp only [List.cons.injEq, and_true] at e01
  subst e01
  refine (walk W a0f a0t (I64.of_wf w0f) (I64.of_wf w0t)).mono fun e W' ⟨he, hg⟩ => ?_
  subst he
  exact ⟨_, rfl, hpost W' hg⟩
theorem over : Rows.fnExactMoveOpsRow.holds Try.pinned (OpenSpec.ofChange Rows.fnExactMoveOpsSpec) :=
  OpenClaim.holds_of_wide 7 Try.f7 rfl rfl rfl rfl rfl rfl rfl ⟨rfl, rfl, rfl, rfl, rfl⟩ rfl rfl rfl rfl rfl (by kernel_rfl) Try.func7 (by kernel_rfl)
    (of_decide_eq_true (by kernel_rfl)) (by unfold Func.isWrapper; first | (rw [if_pos (by decide +kernel)]; kernel_rfl) | (rw [if_neg (by decide +kernel)]; exact ⟨rfl, rfl⟩))
    (fun os started H enc _ => lifted os started H enc)
theorem proved : Rows.FnExactMoveOpsSaid :=
  over
end Go.Proofs.Ytaemcjakmeibjaa.fnExactMoveOps
