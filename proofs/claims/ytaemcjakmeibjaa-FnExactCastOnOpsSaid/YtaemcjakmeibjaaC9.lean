/- The program's CastOnOps answers as the reference's, for all numbers; its memory is its own. No condition. -/
import Derived.Test.YtaemcjakmeibjaaOwnO
import Derived.Test.YtaemcjakmeibjaaNeedle
namespace Go.Proofs.Ytaemcjakmeibjaa
open Go.ChangeShapes Go.WideShapes Go.ChangeAt Go.RowKit
namespace fnExactCastOnOps
def castM (k : Nat) (c : Int) : List OpM := (List.range k).map fun i : Nat => (⟨1, 1, 1, 2 * i + 1, 0, 0, c, 0⟩ : OpM)
theorem castM_succ (k : Nat) (c : Int) : castM (k + 1) c = castM k c ++ [⟨1, 1, 1, 2 * k + 1, 0, 0, c, 0⟩] := by simp [castM, List.range_succ]
theorem castM_length (k : Nat) (c : Int) : (castM k c).length = k := by simp [castM]
def codeOf (n c : Int) : Int := if (1 ≤ n ∧ n ≤ 8) ∧ (1 ≤ c ∧ c ≤ 4) then 0 else 2
def outOf (n c : Int) : List OpM := if (1 ≤ n ∧ n ≤ 8) ∧ (1 ≤ c ∧ c ≤ 4) then castM n.toNat c else []
set_option maxRecDepth 100000 in
set_option maxHeartbeats 4000000 in
theorem castOnOps_any (w : World) (k : Nat) (c : Int) (hk : k ≤ 8) (hc : 1 ≤ c ∧ c ≤ 4) :
    Calls Try.prog 77 #[.int .i64 k, .int .i64 c] w fun e w' => ∃ v, e = .returned v ∧ Ops w' (New w.heap.size w'.heap.size) v (castM k c) ∧ Up w w' := by
  go_enter Try.func77, Try.ntmps77
  go_wp2
  go_loopw [5, 6, 9] (fun v _ i wr => ∃ j : Nat, j ≤ k ∧ i = .int .i64 j ∧ Hid (OwnO wr w.heap.size v (castM j c)) ∧ Hid (Up w wr)) (fun _ _ i _ => k - (intOf i).toNat)
  case atStart => exact ⟨0, by omega, rfl, OwnO.made w _ (Nat.le_refl _), (Chg.refl _ _).alloc _⟩
  case round =>
    obtain ⟨j, hj, rfl, ho, hg⟩ := hrel
    by_cases hlt : j < k
    · have hsz := hg.out.size
      have HL := Lib.hid (show (castM j c).length ≤ 1099511627775 by rw [castM_length]; omega)
      have HY := Lib.hid (show (OpM.mk 1 1 1 (2 * j + 1) 0 0 c 0).ok by unfold OpM.ok I64; simp only []; omega)
      go_wp2_with (first | (go_at_call 120; refine (needleOf_any _ _ ?_).mono ?_; (omega); rintro e w' ⟨rfl, rfl⟩))
      refine (frontNeedle_any _ _).mono ?_
      rintro e w2 ⟨rfl, g2⟩
      have hsz2 := g2.size
      have HO2 := Lib.hid (ho.out.up g2)
      have HG2 := Lib.hid (Chg.trans hg.out g2)
      clear ho hg g2
      go_wp2_with (first | (at_builtin; refine wp_append_op rfl _ _ rfl w.heap.size _ (castM j c) rfl (HO2.out.alloc _) w2.heap.size (OpM.mk 1 1 1 (2 * j + 1) 0 0 c 0) rfl (heap_new_at rfl) HY.out HL.out ?_ ?_; (simp; omega); intro v' w3 ho1 _ hg1; have HO := Lib.hid ho1; have HG := Lib.hid hg1; clear ho1 hg1))
      go_roundw
      case rel => exact ⟨j + 1, by omega, by go_num, by rw [castM_succ]; exact HO.out, Chg.new (HG2.out.alloc _) HG.out (fun i hi => by omega)⟩
      case measure => simp [intOf]; omega
    · obtain rfl : j = k := by omega
      go_wp2
      go_ret
      exact ⟨_, rfl, ho.out.ops, hg.out⟩
set_option maxHeartbeats 4000000 in
theorem impl_any (w : World) (n c : Int) :
    Calls Try.prog 23 #[.int .i64 n, .int .i64 c] w fun e w' => ∃ v, e = .returned (.tuple #[v, .int .i64 (codeOf n c)]) ∧ Ops w' (New w.heap.size w'.heap.size) v (outOf n c) ∧ Up w w' := by
  have hc : ((n < 1 ∨ 8 < n)) ∨ ((1 ≤ n ∧ n ≤ 8) ∧ (c < 1 ∨ 4 < c)) ∨ ((1 ≤ n ∧ n ≤ 8) ∧ (1 ≤ c ∧ c ≤ 4)) := by omega
  rcases hc with h | ⟨h, h2⟩ | ⟨h, h2⟩
  · have hco : codeOf n c = 2 := by
      unfold codeOf
      repeat' split
      all_goals first | rfl | omega
    have hou : outOf n c = [] := by
      unfold outOf
      repeat' split
      all_goals first | rfl | omega
    rw [hco, hou]
    clear hco hou
    go_enter Try.func23, Try.ntmps23
    go_wp2_with (first | (go_at_call 75; refine (within_yes _ _ _ _ ?_).mono ?_; (omega); rintro e w' ⟨rfl, rfl⟩) | (go_at_call 75; refine (within_no _ _ _ _ ?_).mono ?_; (omega); rintro e w' ⟨rfl, rfl⟩) | (go_at_call 76; refine (isCarrier_yes _ _ ?_).mono ?_; (omega); rintro e w' ⟨rfl, rfl⟩) | (go_at_call 76; refine (isCarrier_no _ _ ?_).mono ?_; (omega); rintro e w' ⟨rfl, rfl⟩))
    go_ret2
    exact ⟨_, rfl, Ops.nil _ _ _ _ (by omega), Chg.refl _ _⟩
  · have hco : codeOf n c = 2 := by
      unfold codeOf
      repeat' split
      all_goals first | rfl | omega
    have hou : outOf n c = [] := by
      unfold outOf
      repeat' split
      all_goals first | rfl | omega
    rw [hco, hou]
    clear hco hou
    go_enter Try.func23, Try.ntmps23
    go_wp2_with (first | (go_at_call 75; refine (within_yes _ _ _ _ ?_).mono ?_; (omega); rintro e w' ⟨rfl, rfl⟩) | (go_at_call 75; refine (within_no _ _ _ _ ?_).mono ?_; (omega); rintro e w' ⟨rfl, rfl⟩) | (go_at_call 76; refine (isCarrier_yes _ _ ?_).mono ?_; (omega); rintro e w' ⟨rfl, rfl⟩) | (go_at_call 76; refine (isCarrier_no _ _ ?_).mono ?_; (omega); rintro e w' ⟨rfl, rfl⟩))
    go_ret2
    exact ⟨_, rfl, Ops.nil _ _ _ _ (by omega), Chg.refl _ _⟩
  · have hco : codeOf n c = 0 := by
      unfold codeOf
      repeat' split
      all_goals first | rfl | omega
    have hou : outOf n c = castM n.toNat c := by
      unfold outOf
      repeat' split
      all_goals first | rfl | omega
    rw [hco, hou]
    clear hco hou
    obtain ⟨k, rfl⟩ := Int.eq_ofNat_of_zero_le (show 0 ≤ n by omega)
    rw [Int.toNat_natCast]
    go_enter Try.func23, Try.ntmps23
    go_wp2_with (first | (go_at_call 75; refine (within_yes _ _ _ _ ?_).mono ?_; (omega); rintro e w' ⟨rfl, rfl⟩) | (go_at_call 75; refine (within_no _ _ _ _ ?_).mono ?_; (omega); rintro e w' ⟨rfl, rfl⟩) | (go_at_call 76; refine (isCarrier_yes _ _ ?_).mono ?_; (omega); rintro e w' ⟨rfl, rfl⟩) | (go_at_call 76; refine (isCarrier_no _ _ ?_).mono ?_; (omega); rintro e w' ⟨rfl, rfl⟩))
    refine (castOnOps_any _ k c (by omega) h2).mono ?_
    rintro e w1 ⟨v, rfl, k1, g1⟩
    have K1 := Lib.hid k1
    have G1 := Lib.hid g1
    clear k1 g1
    go_wp2
    go_ret2
    exact ⟨_, rfl, K1.out, G1.out⟩
set_option maxRecDepth 100000 in
set_option maxHeartbeats 4000000 in
theorem spec_any (w : World) (n c : Int) :
    Calls Try.prog 22 #[.int .i64 n, .int .i64 c] w fun e w' => ∃ v, e = .returned (.tuple #[v, .int .i64 (codeOf n c)]) ∧ Ops w' (New w.heap.size w'.heap.size) v (outOf n c) ∧ Up w w' := by
  have hc : ((n < 1 ∨ 8 < n)) ∨ ((1 ≤ n ∧ n ≤ 8) ∧ (c < 1 ∨ 4 < c)) ∨ ((1 ≤ n ∧ n ≤ 8) ∧ (1 ≤ c ∧ c ≤ 4)) := by omega
  rcases hc with h | ⟨h, h2⟩ | ⟨h, h2⟩
  · have hco : codeOf n c = 2 := by
      unfold codeOf
      repeat' split
      all_goals first | rfl | omega
    have hou : outOf n c = [] := by
      unfold outOf
      repeat' split
      all_goals first | rfl | omega
    rw [hco, hou]
    clear hco hou
    go_enter Try.func22, Try.ntmps22
    go_wp2_with (first | (go_at_call 70; refine (l00In_yes _ _ _ _ ?_).mono ?_; (omega); rintro e w' ⟨rfl, rfl⟩) | (go_at_call 70; refine (l00In_no _ _ _ _ ?_).mono ?_; (omega); rintro e w' ⟨rfl, rfl⟩) | (go_at_call 71; refine (l07Yarn_yes _ _ ?_).mono ?_; (omega); rintro e w' ⟨rfl, rfl⟩) | (go_at_call 71; refine (l07Yarn_no _ _ ?_).mono ?_; (omega); rintro e w' ⟨rfl, rfl⟩))
    go_ret2
    exact ⟨_, rfl, Ops.nil _ _ _ _ (by omega), Chg.refl _ _⟩
  · have hco : codeOf n c = 2 := by
      unfold codeOf
      repeat' split
      all_goals first | rfl | omega
    have hou : outOf n c = [] := by
      unfold outOf
      repeat' split
      all_goals first | rfl | omega
    rw [hco, hou]
    clear hco hou
    go_enter Try.func22, Try.ntmps22
    go_wp2_with (first | (go_at_call 70; refine (l00In_yes _ _ _ _ ?_).mono ?_; (omega); rintro e w' ⟨rfl, rfl⟩) | (go_at_call 70; refine (l00In_no _ _ _ _ ?_).mono ?_; (omega); rintro e w' ⟨rfl, rfl⟩) | (go_at_call 71; refine (l07Yarn_yes _ _ ?_).mono ?_; (omega); rintro e w' ⟨rfl, rfl⟩) | (go_at_call 71; refine (l07Yarn_no _ _ ?_).mono ?_; (omega); rintro e w' ⟨rfl, rfl⟩))
    go_ret2
    exact ⟨_, rfl, Ops.nil _ _ _ _ (by omega), Chg.refl _ _⟩
  · have hco : codeOf n c = 0 := by
      unfold codeOf
      repeat' split
      all_goals first | rfl | omega
    have hou : outOf n c = castM n.toNat c := by
      unfold outOf
      repeat' split
      all_goals first | rfl | omega
    rw [hco, hou]
    clear hco hou
    obtain ⟨k, rfl⟩ := Int.eq_ofNat_of_zero_le (show 0 ≤ n by omega)
    rw [Int.toNat_natCast]
    go_enter Try.func22, Try.ntmps22
    go_wp2_with (first | (go_at_call 70; refine (l00In_yes _ _ _ _ ?_).mono ?_; (omega); rintro e w' ⟨rfl, rfl⟩) | (go_at_call 70; refine (l00In_no _ _ _ _ ?_).mono ?_; (omega); rintro e w' ⟨rfl, rfl⟩) | (go_at_call 71; refine (l07Yarn_yes _ _ ?_).mono ?_; (omega); rintro e w' ⟨rfl, rfl⟩) | (go_at_call 71; refine (l07Yarn_no _ _ ?_).mono ?_; (omega); rintro e w' ⟨rfl, rfl⟩))
    go_loopw [6, 7] (fun v i wr => ∃ j : Nat, j ≤ k ∧ i = .int .i64 j ∧ Hid (OwnO wr w.heap.size v (castM j c)) ∧ Hid (Up w wr)) (fun _ i _ => k - (intOf i).toNat)
    case atStart => exact ⟨0, by omega, rfl, OwnO.made w _ (Nat.le_refl _), (Chg.refl _ _).alloc _⟩
    case round =>
      obtain ⟨j, hj, rfl, ho, hg⟩ := hrel
      by_cases hlt : j < k
      · have hsz := hg.out.size
        have HL := Lib.hid (show (castM j c).length ≤ 1099511627775 by rw [castM_length]; omega)
        have HY := Lib.hid (show (OpM.mk 1 1 1 (2 * j + 1) 0 0 c 0).ok by unfold OpM.ok I64; simp only []; omega)
        go_wp2_with (first | (go_at_call 74; refine (l20Needle_any _ _ ?_).mono ?_; (omega); rintro e w' ⟨rfl, rfl⟩))
        refine (l23Front_any _ _).mono ?_
        rintro e w1 ⟨rfl, g1⟩
        have hsz1 := g1.size
        have HO1 := Lib.hid (ho.out.up g1)
        have HG1 := Lib.hid (Chg.trans hg.out g1)
        clear ho hg g1
        go_wp2_with fail
        refine (l23Yarn_any _ _ _ _ _ _).mono ?_
        rintro e w2 ⟨rfl, g2⟩
        have hsz2 := g2.size
        have HO2 := Lib.hid (HO1.out.up g2)
        have HG2 := Lib.hid (Chg.trans HG1.out g2)
        clear HO1 HG1 g2
        go_wp2_with (first | (at_builtin; refine wp_append_op rfl _ _ rfl w.heap.size _ (castM j c) rfl (HO2.out.alloc _) w2.heap.size (OpM.mk 1 1 1 (2 * j + 1) 0 0 c 0) rfl (heap_new_at rfl) HY.out HL.out ?_ ?_; (simp; omega); intro v' w3 ho1 _ hg1; have HO := Lib.hid ho1; have HG := Lib.hid hg1; clear ho1 hg1))
        go_roundw
        case rel => exact ⟨j + 1, by omega, by go_num, by rw [castM_succ]; exact HO.out, Chg.new (HG2.out.alloc _) HG.out (fun i hi => by omega)⟩
        case measure => simp [intOf]; omega
      · obtain rfl : j = k := by omega
        go_wp2
        go_ret2
        exact ⟨_, rfl, ho.out.ops, hg.out⟩
theorem outOf_len (n c : Int) : cntOps (outOf n c) ≤ 64 := by
  unfold outOf cntOps
  split
  · rw [castM_length]; omega
  · simp
end fnExactCastOnOps
-- LAW
namespace fnExactCastOnOps
set_option linter.unusedVariables false in
set_option maxHeartbeats 2000000 in
theorem walk (w : World) (a0 : Int) (ia0 : I64 a0) (a1 : Int) (ia1 : I64 a1) :
    Calls Try.prog 4 #[.int .i64 a0, .int .i64 a1] w fun e w' => e = .returned (.bool true) ∧ Below w.heap.size w w' := by
  have U0 := Lib.hid (Chg.refl Nowhere w)
  go_enter Try.func4, Try.ntmps4
  go_wp2_with fail
  refine (spec_any _ a0 a1).mono ?_
  rintro e w1 ⟨uW, rfl, k1, g1⟩
  obtain ⟨BW, dW, rfl, eW, fW, -⟩ := k1.shape
  have K := Lib.hid k1
  have G1 := Lib.hid g1
  clear k1 g1
  have G1z := G1.out.size
  have U0' := Lib.hid (Chg.trans U0.out G1.out)
  clear U0 G1
  have W := K
  clear K
  go_wp2_with fail
  refine (impl_any _ a0 a1).mono ?_
  rintro e w2 ⟨uR, rfl, k1, g1⟩
  obtain ⟨BR, dR, rfl, eR, fR, -⟩ := k1.shape
  have K := Lib.hid k1
  have G2 := Lib.hid g1
  clear k1 g1
  have G2z := G2.out.size
  have W' := Lib.hid (W.out.up G2.out)
  clear W
  have U0'' := Lib.hid (Chg.trans U0'.out G2.out)
  clear U0' G2
  have R := K
  clear K
  go_wp2_with fail
  refine (eqOps _ _ _ _ _ (outOf a0 a1) R.out W'.out).mono ?_
  rintro e w3 ⟨rfl, g1⟩
  have G3 := Lib.hid g1
  clear g1
  have G3z := G3.out.size
  have W'' := Lib.hid (W'.out.up G3.out)
  clear W'
  have R' := Lib.hid (R.out.up G3.out)
  clear R
  have U0''' := Lib.hid (Chg.trans U0''.out G3.out)
  clear U0'' G3
  have hr := outOf_len a0 a1
  have hr1 : (0 : Int) ≤ 1 := by omega
  have hr2 : (1 : Int) + cntOps ((outOf a0 a1)) ≤ 4611686018427387904 := by have := hr; omega
  have HR := Lib.hid hr
  clear hr
  go_wp2_with fail
  refine (markOps _ _ _ (outOf a0 a1) 1 hr1 hr2 R'.out).mono ?_
  rintro e w4 ⟨rfl, g1, k1⟩
  have K := Lib.hid k1
  have G4 := Lib.hid g1
  clear k1 g1
  clear R'
  have G4z := G4.out.size
  have W''' := Lib.hid (W''.out.keep G4.out (fun b hb h1 h2 => by simp only [New] at h1 h2; omega))
  clear W''
  have U0'''' := Lib.hid (Chg.new U0'''.out G4.out (fun i hi h2 => by simp only [New] at h2; omega))
  clear U0''' G4
  have MR := K
  clear K
  go_wp2_with fail
  refine (heldOps _ _ _ (outOf a0 a1) 1 hr1 hr2 MR.out).mono ?_
  rintro e w5 ⟨rfl, g1⟩
  have G5 := Lib.hid g1
  clear g1
  have G5z := G5.out.size
  have W'''' := Lib.hid (W'''.out.up G5.out)
  clear W'''
  have MR' := Lib.hid (MR.out.up G5.out)
  clear MR
  have U0''''' := Lib.hid (Chg.trans U0''''.out G5.out)
  clear U0'''' G5
  go_wp2_with fail
  refine (impl_any _ a0 a1).mono ?_
  rintro e w6 ⟨uH, rfl, k1, g1⟩
  obtain ⟨BH, dH, rfl, eH, fH, -⟩ := k1.shape
  have K := Lib.hid k1
  have G6 := Lib.hid g1
  clear k1 g1
  have G6z := G6.out.size
  have W''''' := Lib.hid (W''''.out.up G6.out)
  clear W''''
  have MR'' := Lib.hid (MR'.out.up G6.out)
  clear MR'
  have U0'''''' := Lib.hid (Chg.trans U0'''''.out G6.out)
  clear U0''''' G6
  have H := K
  clear K
  go_wp2_with fail
  refine (eqOps _ _ _ _ _ (outOf a0 a1) H.out W'''''.out).mono ?_
  rintro e w7 ⟨rfl, g1⟩
  have G7 := Lib.hid g1
  clear g1
  have G7z := G7.out.size
  have W'''''' := Lib.hid (W'''''.out.up G7.out)
  clear W'''''
  have MR''' := Lib.hid (MR''.out.up G7.out)
  clear MR''
  have H' := Lib.hid (H.out.up G7.out)
  clear H
  have U0''''''' := Lib.hid (Chg.trans U0''''''.out G7.out)
  clear U0'''''' G7
  go_wp2_with fail
  refine (heldOps _ _ _ (outOf a0 a1) 1 hr1 hr2 MR'''.out).mono ?_
  rintro e w8 ⟨rfl, g1⟩
  have G8 := Lib.hid g1
  clear g1
  have G8z := G8.out.size
  have W''''''' := Lib.hid (W''''''.out.up G8.out)
  clear W''''''
  have MR'''' := Lib.hid (MR'''.out.up G8.out)
  clear MR'''
  have H'' := Lib.hid (H'.out.up G8.out)
  clear H'
  have U0'''''''' := Lib.hid (Chg.trans U0'''''''.out G8.out)
  clear U0''''''' G8
  go_wp2
  go_ret
  exact ⟨rfl, Up.below U0''''''''.out⟩
end fnExactCastOnOps
end Go.Proofs.Ytaemcjakmeibjaa
namespace Go.Proofs.Ytaemcjakmeibjaa.fnExactCastOnOps
open Go.ChangeShapes Go.WideShapes Go.ChangeAt Go.RowKit
set_option linter.unusedVariables false
theorem own : ownKnob Try.prog.godebug = none := by kernel_rfl
theorem laidOut : laidOutB Try.prog = true := by kernel_rfl
theorem readable : ∀ t ∈ Try.f4.params.toList, Try.prog.readableRec t = true ∧ t < Try.prog.types.size := by
  have h : (Try.f4.params.toList.all fun t => Try.prog.readableRec t && decide (t < Try.prog.types.size)) = true := by kernel_rfl
  intro t ht
  have h2 := List.all_eq_true.1 h t ht
  rw [Bool.and_eq_true, decide_eq_true_eq] at h2
  exact h2
theorem resT : Try.f4.resultTypes = #[4] := by kernel_rfl
set_option maxRecDepth 100000 in
theorem lifted (os : Os) (started : os.Started) (H : Type) (enc : TypeId × Value → H) :
    ReturnsInHanded {} Try.checked os 4 .any (Rows.fnExactCastOnOpsSpec.pre6 enc Try.prog Try.f4 Rows.fnExactCastOnOpsRow.domain false) (Rows.fnExactCastOnOpsSpec.post enc Try.prog Try.f4 false true false false) := by
  refine returnsInHanded_of_change (C := Try.checked) own started (by kernel_rfl) Try.func4
    (ChangeSpec.witness6 (enc := enc) (C := Try.checked) false ⟨#[], #[.int .i64 0, .int .i64 0], []⟩ 8 (by kernel_rfl) (by kernel_rfl) (by kernel_rfl) (by kernel_rfl)) ?_
  intro W base args ds gs before hval0 hW hcnd _
  have hval : ∀ (j : Nat) t v, Try.f4.params[j]? = some t → args[j]? = some v → Value.okWide Try.prog W .any base t v := hval0
  have hW' := hW
  obtain ⟨p, q, hA0, hV, rfl, hfz, hnd⟩ := hW
  have hA : DataW.TrodAll enc Try.prog W 0 (fun _ => true) true Try.f4.params.toList args.toList ds p := hA0
  rw [Try.params4] at hA hval
  obtain ⟨v0, vs0, d0, ds0, p0, q0, hargs, rfl, rfl, h0, r0⟩ := trodAll_cons hA
  obtain ⟨v1, vs1, d1, ds1, p1, q1, rfl, rfl, rfl, h1, r1⟩ := trodAll_cons r0
  obtain ⟨rfl, rfl, rfl⟩ := trodAll_nil r1
  obtain rfl : args = #[v0, v1] := by cases args; simp_all
  obtain ⟨rfl, rfl⟩ := trodVars_none hV
  have hpost : ∀ W', Below W.heap.size W W' → Rows.fnExactCastOnOpsSpec.post enc Try.prog Try.f4 false true false false W #[v0, v1] (.bool true) W' := fun W' hb =>
    law_post laidOut readable resT Try.underlying4 rfl rfl hW' hb
  have hz : ∀ b off, MemPlace.cell b off ∈ p0 ++ (p1 ++ []) → W.frozen? ⟨b, off, none⟩ = false := fun b off hm => hfz b off (by simpa using hm)
  clear hW' hA0 hval0 hcnd hnd hV hA
  obtain ⟨a0, rfl, -, -, w0⟩ := open_int Try.underlying2 (hval 0 2 v0 rfl rfl) h0
  obtain ⟨a1, rfl, -, -, w1⟩ := open_int Try.underlying2 (hval 1 2 v1 rfl rfl) h1
  refine (walk W a0 (I64.of_wf w0) a1 (I64.of_wf w1)).mono fun e W' ⟨he, hg⟩ => ?_
  subst he
  exact ⟨_, rfl, hpost W' hg⟩
theorem over : Rows.fnExactCastOnOpsRow.holds Try.pinned (OpenSpec.ofChange Rows.fnExactCastOnOpsSpec) :=
  OpenClaim.holds_of_wide 4 Try.f4 rfl rfl rfl rfl rfl rfl rfl ⟨rfl, rfl, rfl, rfl, rfl⟩ rfl rfl rfl rfl rfl (by kernel_rfl) Try.func4 (by kernel_rfl)
    (of_decide_eq_true (by kernel_rfl)) (by unfold Func.isWrapper; first | (rw [if_pos (by decide +kernel)]; kernel_rfl) | (rw [if_neg (by decide +kernel)]; exact ⟨rfl, rfl⟩))
    (fun os started H enc _ => lifted os started H enc)
theorem proved : Rows.FnExactCastOnOpsSaid :=
  over
end Go.Proofs.Ytaemcjakmeibjaa.fnExactCastOnOps
