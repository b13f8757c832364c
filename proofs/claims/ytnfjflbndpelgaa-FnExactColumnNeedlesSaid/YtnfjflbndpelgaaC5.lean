/- The program's ColumnNeedles answers as the reference's, for every number; its memory is its own. No condition. -/
import Derived.Test.YtnfjflbndpelgaaOwn
namespace Go.Proofs.Ytnfjflbndpelgaa
open Go.ChangeShapes Go.WideShapes Go.ChangeAt Go.RowKit
theorem ret_si {v : Value} {a b : Int} (h : a = b) : Ending.returned (.tuple #[v, .int .i64 a]) = .returned (.tuple #[v, .int .i64 b]) := by rw [h]
namespace fnExactColumnNeedles
def needlesTo (k : Nat) : List Int := (List.range k).map fun i : Nat => (2 * i + 1 : Int)
theorem needlesTo_succ (k : Nat) : needlesTo (k + 1) = needlesTo k ++ [(2 * k + 1 : Int)] := by simp [needlesTo, List.range_succ]
theorem needlesTo_length (k : Nat) : (needlesTo k).length = k := by simp [needlesTo]
def outOf (n : Int) : List Int := if 0 ≤ n ∧ n ≤ 8 then needlesTo n.toNat else []
def codeOf (n : Int) : Int := if 0 ≤ n ∧ n ≤ 8 then 0 else 2
set_option maxHeartbeats 1000000 in
theorem impl_any (w : World) (n : Int) :
    Calls Try.prog 20 #[.int .i64 n] w fun e w' => ∃ v, e = .returned (.tuple #[v, .int .i64 (codeOf n)]) ∧ Ints w' (New w.heap.size w'.heap.size) v (outOf n) ∧ Up w w' := by
  by_cases hin : 0 ≤ n ∧ n ≤ 8
  · obtain ⟨k, rfl⟩ := Int.eq_ofNat_of_zero_le hin.1
    have hk : k ≤ 8 := by omega
    have hco : codeOf k = 0 := if_pos hin
    have hou : outOf k = needlesTo k := if_pos hin
    rw [hco, hou]
    clear hco hou
    go_enter Try.func20, Try.ntmps20
    go_wp2_with (first | (go_at_call 26; refine (within_yes _ _ _ _ ?_).mono ?_; (omega); rintro e w' ⟨rfl, rfl⟩))
    go_loopw [4, 5, 11] (fun v _ i wr => ∃ j : Nat, j ≤ k ∧ i = .int .i64 j ∧ Hid (OwnI wr w.heap.size v (needlesTo j)) ∧ Hid (Up w wr)) (fun _ _ i _ => k - (intOf i).toNat)
    case atStart => exact ⟨0, by omega, rfl, OwnI.made w _ (Nat.le_refl _), (Chg.refl _ _).alloc _⟩
    case round =>
      obtain ⟨j, hj, rfl, ho, hg⟩ := hrel
      by_cases hlt : j < k
      · have hsz := hg.out.size
        have hl := needlesTo_length j
        have hL : (needlesTo j).length ≤ 1099511627776 := by omega
        have hI : I64 (2 * j + 1) := by unfold I64; omega
        have HL := Lib.hid hL
        have HI := Lib.hid hI
        clear hl hL hI
        go_wp2_with (first | (go_at_call 28; refine (needleOf_any _ _ ?_).mono ?_; (omega); rintro e w' ⟨rfl, rfl⟩) | (at_builtin; refine wp_append_int rfl _ _ rfl w.heap.size _ (needlesTo j) rfl (ho.out.alloc _) wr.heap.size (2 * j + 1) rfl (cell_new _ _ _ _) HI.out HL.out ?_ ?_; (simp; omega); intro v' w1 ho1 _ hg1; have HO := Lib.hid ho1; have HG := Lib.hid hg1; clear ho1 hg1))
        go_roundw
        case rel => exact ⟨j + 1, by omega, by go_num, by rw [needlesTo_succ]; exact HO.out, Chg.new (hg.out.alloc _) HG.out (fun i hi => by omega)⟩
        case measure => simp [intOf]; omega
      · obtain rfl : j = k := by omega
        go_wp2
        go_ret2
        exact ⟨_, rfl, ho.out.ints, hg.out⟩
  · have hco : codeOf n = 2 := if_neg hin
    have hou : outOf n = [] := if_neg hin
    rw [hco, hou]
    clear hco hou
    go_enter Try.func20, Try.ntmps20
    go_wp2_with (first | (go_at_call 26; refine (within_no _ _ _ _ ?_).mono ?_; (omega); rintro e w' ⟨rfl, rfl⟩))
    go_ret2
    exact ⟨_, rfl, Ints.nil _ _ _ _ (by omega), Chg.refl _ _⟩
theorem needle_of (c : Int) (w : World) (h : 0 ≤ c ∧ c ≤ 7) :
    Calls Try.prog 13 #[.int .i64 c] w fun e w' => e = .returned (.tuple #[.int .i64 (2 * c + 1), .bool true]) ∧ w = w' := by
  obtain ⟨h0, h1⟩ := h
  go_enter Try.func13, Try.ntmps13
  go_wp2_with (first | (go_at_call 25; refine (l00In_yes _ _ _ _ ?_).mono ?_; (omega); rintro e w' ⟨rfl, rfl⟩) | (go_at_call 27; refine (l20Needle_any _ _ ?_).mono ?_; (omega); rintro e w' ⟨rfl, rfl⟩))
  go_ret2
  exact ⟨rfl, rfl⟩
set_option maxHeartbeats 1000000 in
theorem l24Needles_any (w : World) (k : Nat) (hk : k ≤ 8) :
    Calls Try.prog 32 #[.int .i64 k] w fun e w' => ∃ v, e = .returned v ∧ Ints w' (New w.heap.size w'.heap.size) v (needlesTo k) ∧ Up w w' := by
  go_enter Try.func32, Try.ntmps32
  go_wp2
  go_loopw [3, 4, 5, 6] (fun v i _ _ wr => ∃ j : Nat, j ≤ k ∧ i = .int .i64 j ∧ Hid (OwnI wr w.heap.size v (needlesTo j)) ∧ Hid (Up w wr)) (fun _ i _ _ _ => k - (intOf i).toNat)
  case atStart => exact ⟨0, by omega, rfl, OwnI.made w _ (Nat.le_refl _), (Chg.refl _ _).alloc _⟩
  case round =>
    obtain ⟨j, hj, rfl, ho, hg⟩ := hrel
    by_cases hlt : j < k
    · have hsz := hg.out.size
      have hl := needlesTo_length j
      have hL : (needlesTo j).length ≤ 1099511627776 := by omega
      have hI : I64 (2 * j + 1) := by unfold I64; omega
      have HL := Lib.hid hL
      have HI := Lib.hid hI
      clear hl hL hI
      go_wp2_with (first | (go_at_call 13; refine (needle_of _ _ ?_).mono ?_; (omega); rintro e w' ⟨rfl, rfl⟩) | (at_builtin; refine wp_append_int rfl _ _ rfl w.heap.size _ (needlesTo j) rfl (ho.out.alloc _) wr.heap.size (2 * j + 1) rfl (cell_new _ _ _ _) HI.out HL.out ?_ ?_; (simp; omega); intro v' w1 ho1 _ hg1; have HO := Lib.hid ho1; have HG := Lib.hid hg1; clear ho1 hg1))
      go_roundw
      case rel => exact ⟨j + 1, by omega, by go_num, by rw [needlesTo_succ]; exact HO.out, Chg.new (hg.out.alloc _) HG.out (fun i hi => by omega)⟩
      case measure => simp [intOf]; omega
    · obtain rfl : j = k := by omega
      go_wp2
      go_ret
      exact ⟨_, rfl, ho.out.ints, hg.out⟩
theorem spec_any (w : World) (n : Int) :
    Calls Try.prog 19 #[.int .i64 n] w fun e w' => ∃ v, e = .returned (.tuple #[v, .int .i64 (codeOf n)]) ∧ Ints w' (New w.heap.size w'.heap.size) v (outOf n) ∧ Up w w' := by
  by_cases hin : 0 ≤ n ∧ n ≤ 8
  · obtain ⟨k, rfl⟩ := Int.eq_ofNat_of_zero_le hin.1
    have hk : k ≤ 8 := by omega
    have hco : codeOf k = 0 := if_pos hin
    have hou : outOf k = needlesTo k := if_pos hin
    rw [hco, hou]
    clear hco hou
    go_enter Try.func19, Try.ntmps19
    go_wp2_with (first | (go_at_call 25; refine (l00In_yes _ _ _ _ ?_).mono ?_; (omega); rintro e w' ⟨rfl, rfl⟩))
    refine (l24Needles_any _ k hk).mono ?_
    rintro e w1 ⟨v, rfl, h1, g1⟩
    have H1 := Lib.hid h1
    have G1 := Lib.hid g1
    clear h1 g1
    go_wp2
    go_ret2
    exact ⟨_, rfl, H1.out, G1.out⟩
  · have hco : codeOf n = 2 := if_neg hin
    have hou : outOf n = [] := if_neg hin
    rw [hco, hou]
    clear hco hou
    go_enter Try.func19, Try.ntmps19
    go_wp2_with (first | (go_at_call 25; refine (l00In_no _ _ _ _ ?_).mono ?_; (omega); rintro e w' ⟨rfl, rfl⟩))
    go_ret2
    exact ⟨_, rfl, Ints.nil _ _ _ _ (by omega), Chg.refl _ _⟩
theorem outOf_len (n : Int) : cntInts (outOf n) ≤ 8 := by
  unfold outOf cntInts
  split
  · rw [needlesTo_length]; omega
  · simp
end fnExactColumnNeedles
-- LAW
namespace fnExactColumnNeedles
set_option linter.unusedVariables false in
set_option maxHeartbeats 2000000 in
theorem walk (w : World) (a0 : Int) (ia0 : I64 a0) :
    Calls Try.prog 7 #[.int .i64 a0] w fun e w' => e = .returned (.bool true) ∧ Below w.heap.size w w' := by
  have U0 := Lib.hid (Chg.refl Nowhere w)
  go_enter Try.func7, Try.ntmps7
  go_wp2_with fail
  refine (spec_any _ a0).mono ?_
  rintro e w1 ⟨uW, rfl, k1, g1⟩
  obtain ⟨BW, dW, rfl, eW, fW⟩ := k1.shape
  have K := Lib.hid k1
  have G1 := Lib.hid g1
  clear k1 g1
  have G1z := G1.out.size
  have U0' := Lib.hid (Chg.trans U0.out G1.out)
  clear U0 G1
  have W := K
  clear K
  go_wp2_with fail
  refine (impl_any _ a0).mono ?_
  rintro e w2 ⟨uR, rfl, k1, g1⟩
  obtain ⟨BR, dR, rfl, eR, fR⟩ := k1.shape
  have K := Lib.hid k1
  have G2 := Lib.hid g1
  clear k1 g1
  have G2z := G2.out.size
  have W' := Lib.hid (W.out.up G2.out)
  clear W
  have U0'' := Lib.hid (Chg.trans U0'.out G2.out)
  clear U0' G2
  have R := K
  clear K
  go_wp2_with fail
  refine (eqInts _ _ _ _ _ (outOf a0) R.out W'.out).mono ?_
  rintro e w3 ⟨rfl, g1⟩
  have G3 := Lib.hid g1
  clear g1
  have G3z := G3.out.up.size
  have W'' := Lib.hid (W'.out.up G3.out.up)
  clear W'
  have R' := Lib.hid (R.out.up G3.out.up)
  clear R
  have U0''' := Lib.hid (Chg.trans U0''.out G3.out.up)
  clear U0'' G3
  have hr := outOf_len a0
  have hr1 : (0 : Int) ≤ 1 := by omega
  have hr2 : (1 : Int) + cntInts ((outOf a0)) ≤ 4611686018427387904 := by have := hr; omega
  have HR := Lib.hid hr
  clear hr
  go_wp2_with fail
  refine (markInts _ _ _ (outOf a0) 1 hr1 hr2 R'.out).mono ?_
  rintro e w4 ⟨rfl, g1, k1⟩
  have K := Lib.hid k1
  have G4 := Lib.hid g1
  clear k1 g1
  clear R'
  have G4z := G4.out.size
  have W''' := Lib.hid (W''.out.keep G4.out (fun b hb h1 h2 => by simp only [New] at h1 h2; omega))
  clear W''
  have U0'''' := Lib.hid (Chg.new U0'''.out G4.out (fun i hi h2 => by simp only [New] at h2; omega))
  clear U0''' G4
  have MR := K
  clear K
  go_wp2_with fail
  refine (heldInts _ _ _ (outOf a0) 1 hr1 hr2 MR.out).mono ?_
  rintro e w5 ⟨rfl, g1⟩
  have G5 := Lib.hid g1
  clear g1
  have G5z := G5.out.up.size
  have W'''' := Lib.hid (W'''.out.up G5.out.up)
  clear W'''
  have MR' := Lib.hid (MR.out.up G5.out.up)
  clear MR
  have U0''''' := Lib.hid (Chg.trans U0''''.out G5.out.up)
  clear U0'''' G5
  go_wp2_with fail
  refine (impl_any _ a0).mono ?_
  rintro e w6 ⟨uH, rfl, k1, g1⟩
  obtain ⟨BH, dH, rfl, eH, fH⟩ := k1.shape
  have K := Lib.hid k1
  have G6 := Lib.hid g1
  clear k1 g1
  have G6z := G6.out.size
  have W''''' := Lib.hid (W''''.out.up G6.out)
  clear W''''
  have MR'' := Lib.hid (MR'.out.up G6.out)
  clear MR'
  have U0'''''' := Lib.hid (Chg.trans U0'''''.out G6.out)
  clear U0''''' G6
  have H := K
  clear K
  go_wp2_with fail
  refine (eqInts _ _ _ _ _ (outOf a0) H.out W'''''.out).mono ?_
  rintro e w7 ⟨rfl, g1⟩
  have G7 := Lib.hid g1
  clear g1
  have G7z := G7.out.up.size
  have W'''''' := Lib.hid (W'''''.out.up G7.out.up)
  clear W'''''
  have MR''' := Lib.hid (MR''.out.up G7.out.up)
  clear MR''
  have H' := Lib.hid (H.out.up G7.out.up)
  clear H
  have U0''''''' := Lib.hid (Chg.trans U0''''''.out G7.out.up)
  clear U0'''''' G7
  go_wp2_with fail
  refine (heldInts _ _ _ (outOf a0) 1 hr1 hr2 MR'''.out).mono ?_
  rintro e w8 ⟨rfl, g1⟩
  have G8 := Lib.hid g1
  clear g1
  have G8z := G8.out.up.size
  have W''''''' := Lib.hid (W''''''.out.up G8.out.up)
  clear W''''''
  have MR'''' := Lib.hid (MR'''.out.up G8.out.up)
  clear MR'''
  have H'' := Lib.hid (H'.out.up G8.out.up)
  clear H'
  have U0'''''''' := Lib.hid (Chg.trans U0'''''''.out G8.out.up)
  clear U0''''''' G8
  go_wp2
  go_ret
  exact ⟨rfl, Up.below U0''''''''.out⟩
end fnExactColumnNeedles
end Go.Proofs.Ytnfjflbndpelgaa
namespace Go.Proofs.Ytnfjflbndpelgaa.fnExactColumnNeedles
open Go.ChangeShapes Go.WideShapes Go.ChangeAt Go.RowKit
set_option linter.unusedVariables false
theorem own : ownKnob Try.prog.godebug = none := by kernel_rfl
theorem laidOut : laidOutB Try.prog = true := by kernel_rfl
theorem readable : ∀ t ∈ Try.f7.params.toList, Try.prog.readableRec t = true ∧ t < Try.prog.types.size := by
  have h : (Try.f7.params.toList.all fun t => Try.prog.readableRec t && decide (t < Try.prog.types.size)) = true := by kernel_rfl
  intro t ht
  have h2 := List.all_eq_true.1 h t ht
  rw [Bool.and_eq_true, decide_eq_true_eq] at h2
  exact h2
theorem resT : Try.f7.resultTypes = #[4] := by kernel_rfl
set_option maxRecDepth 100000 in
theorem lifted (os : Os) (started : os.Started) (H : Type) (enc : TypeId × Value → H) :
    ReturnsInHanded {} Try.checked os 7 .any (Rows.fnExactColumnNeedlesSpec.pre6 enc Try.prog Try.f7 Rows.fnExactColumnNeedlesRow.domain false) (Rows.fnExactColumnNeedlesSpec.post enc Try.prog Try.f7 false true false false) := by
  refine returnsInHanded_of_change (C := Try.checked) own started (by kernel_rfl) Try.func7
    (ChangeSpec.witness6 (enc := enc) (C := Try.checked) false ⟨#[], #[.int .i64 0], []⟩ 8 (by kernel_rfl) (by kernel_rfl) (by kernel_rfl) (by kernel_rfl)) ?_
  intro W base args ds gs before hval0 hW hcnd _
  have hval : ∀ (j : Nat) t v, Try.f7.params[j]? = some t → args[j]? = some v → Value.okWide Try.prog W .any base t v := hval0
  have hW' := hW
  obtain ⟨p, q, hA0, hV, rfl, hfz, hnd⟩ := hW
  have hA : DataW.TrodAll enc Try.prog W 0 (fun _ => true) true Try.f7.params.toList args.toList ds p := hA0
  rw [Try.params7] at hA hval
  obtain ⟨v0, vs0, d0, ds0, p0, q0, hargs, rfl, rfl, h0, r0⟩ := trodAll_cons hA
  obtain ⟨rfl, rfl, rfl⟩ := trodAll_nil r0
  obtain rfl : args = #[v0] := by cases args; simp_all
  obtain ⟨rfl, rfl⟩ := trodVars_none hV
  have hpost : ∀ W', Below W.heap.size W W' → Rows.fnExactColumnNeedlesSpec.post enc Try.prog Try.f7 false true false false W #[v0] (.bool true) W' := fun W' hb =>
    law_post laidOut readable resT Try.underlying4 rfl rfl hW' hb
  have hz : ∀ b off, MemPlace.cell b off ∈ p0 ++ [] → W.frozen? ⟨b, off, none⟩ = false := fun b off hm => hfz b off (by simpa using hm)
  clear hW' hA0 hval0 hcnd hnd hV hA
  obtain ⟨a0, rfl, -, -, w0⟩ := open_int Try.underlying2 (hval 0 2 v0 rfl rfl) h0
  refine (walk W a0 (I64.of_wf w0)).mono fun e W' ⟨he, hg⟩ => ?_
  subst he
  exact ⟨_, rfl, hpost W' hg⟩
theorem over : Rows.fnExactColumnNeedlesRow.holds Try.pinned (OpenSpec.ofChange Rows.fnExactColumnNeedlesSpec) :=
  OpenClaim.holds_of_wide 7 Try.f7 rfl rfl rfl rfl rfl rfl rfl ⟨rfl, rfl, rfl, rfl, rfl⟩ rfl rfl rfl rfl rfl (by kernel_rfl) Try.func7 (by kernel_rfl)
    (of_decide_eq_true (by kernel_rfl)) (by unfold Func.isWrapper; first | (rw [if_pos (by decide +kernel)]; kernel_rfl) | (rw [if_neg (by decide +kernel)]; exact ⟨rfl, rfl⟩))
    (fun os started H enc _ => lifted os started H enc)
theorem proved : Rows.FnExactColumnNeedlesSaid :=
  over
end Go.Proofs.Ytnfjflbndpelgaa.fnExactColumnNeedles
