/- The program's MoveLength answers as the reference's, for all lists of moves. No condition. -/
import Derived.Test.YtaemcjakmeibjaaCopy
import Derived.Test.YtaemcjakmeibjaaOpen
import Derived.Test.YtaemcjakmeibjaaConcat
namespace Go.Proofs.Ytaemcjakmeibjaa
open Go.ChangeShapes Go.WideShapes Go.ChangeAt Go.RowKit
namespace fnExactMoveLength
def absI (x : Int) : Int := if x < 0 then -x else x
theorem absI_in {x : Int} (h : -3 ≤ x ∧ x ≤ 3) : 0 ≤ absI x ∧ absI x ≤ 3 := by unfold absI; split <;> omega
theorem size_any (w : World) (x : Int) (h : -1000 ≤ x ∧ x ≤ 1000) :
    Calls Try.prog 68 #[.int .i64 x] w fun e w' => e = .returned (.int .i64 (absI x)) ∧ w = w' := by
  by_cases hx : x < 0
  · have e1 : absI x = -x := if_pos hx
    rw [e1]
    go_enter Try.func68, Try.ntmps68
    go_wp2
    go_ret
    exact ⟨by first | rfl | (simp; omega), rfl⟩
  · have e1 : absI x = x := if_neg hx
    rw [e1]
    go_enter Try.func68, Try.ntmps68
    go_wp2
    go_ret
    exact ⟨by first | rfl | (simp; omega), rfl⟩
theorem l03Abs_any (w : World) (x : Int) (h : -1000 ≤ x ∧ x ≤ 1000) :
    Calls Try.prog 66 #[.int .i64 x] w fun e w' => e = .returned (.int .i64 (absI x)) ∧ w = w' := by
  by_cases hx : x < 0
  · have e1 : absI x = -x := if_pos hx
    rw [e1]
    go_enter Try.func66, Try.ntmps66
    go_wp2
    go_ret
    exact ⟨rfl, rfl⟩
  · have e1 : absI x = x := if_neg hx
    rw [e1]
    go_enter Try.func66, Try.ntmps66
    go_wp2
    go_ret
    exact ⟨rfl, rfl⟩
def lenS (ms : List MoveM) : Int := (ms.map fun m => absI (m.to - m.fr)).sum
theorem lenS_take {ms : List MoveM} {j : Nat} (h : j < ms.length) : lenS (ms.take (j + 1)) = lenS (ms.take j) + absI (ms[j].to - ms[j].fr) := by
  unfold lenS
  rw [List.take_succ_eq_append_getElem h, List.map_append, List.sum_append]
  simp only [List.map_cons, List.map_nil, List.sum_cons, List.sum_nil, Int.add_zero]
def allTo (ms : List MoveM) (j : Nat) : Prop := ∀ i (h : i < ms.length), i < j → isMoveP ms[i].fr ms[i].to
instance (ms : List MoveM) (j : Nat) : Decidable (allTo ms j) := inferInstanceAs (Decidable (∀ i (_ : i < ms.length), _))
theorem allTo_succ {ms : List MoveM} {j : Nat} (h : allTo ms j) (hl : j < ms.length) (hn : isMoveP ms[j].fr ms[j].to) : allTo ms (j + 1) := fun i hi hj => by
  by_cases e : i = j
  · subst e; exact hn
  · exact h i hi (by omega)
def lengthM (ms : List MoveM) : Int := if allTo ms ms.length then lenS ms else -1
theorem ret_i {a b : Int} (h : a = b) : Ending.returned (.int .i64 a) = .returned (.int .i64 b) := by rw [h]
set_option maxRecDepth 100000 in
set_option maxHeartbeats 4000000 in
theorem impl_any (w : World) (S : Nat → Prop) (v : Value) (ms : List MoveM) (h : Moves w S v ms) (hb : ms.length ≤ 1048576) :
    Calls Try.prog 20 #[v] w fun e w' => e = .returned (.int .i64 (lengthM ms)) ∧ Up w w' := by
  obtain ⟨A, c, rfl, hlc, hcm, -⟩ := h.shape
  have H := Lib.hid h
  clear h
  go_enter Try.func20, Try.ntmps20
  go_wp2
  go_loopw [3, 5, 8] (fun s _ i wr => ∃ (j : Nat) (n : Int), j ≤ ms.length ∧ i = .int .i64 j ∧ s = .int .i64 n ∧ 0 ≤ n ∧ n ≤ 3 * j ∧ Hid (n = lenS (ms.take j)) ∧ Hid (allTo ms j) ∧ Hid (Up w wr)) (fun _ _ i _ => ms.length - (intOf i).toNat)
  case atStart => exact ⟨0, 0, by omega, rfl, rfl, by omega, by omega, rfl, fun i _ h => absurd h (by omega), Chg.refl _ _⟩
  case round =>
    obtain ⟨j, n, hj, rfl, rfl, hn0, hn1, hs, ha, hg⟩ := hrel
    by_cases hlt : j < ms.length
    · obtain ⟨b, o, c', he, -, hbl, hc⟩ := (H.out.up hg.out).at_ hlt
      obtain ⟨rfl, rfl⟩ : A = some ⟨b, o, none⟩ ∧ c = c' := by simpa using he
      have f0 := (hc 0 _ rfl).1
      have f1 := (hc 1 _ rfl).1
      rw [Nat.add_zero] at f0
      clear hc he
      by_cases hm : isMoveP ms[j].fr ms[j].to
      · have HT := Lib.hid (decide_eq_true hm)
        have hd : -3 ≤ ms[j].to - ms[j].fr ∧ ms[j].to - ms[j].fr ≤ 3 := hm.2.2.2
        have hab := absI_in hd
        have HA := Lib.hid (allTo_succ ha.out hlt hm)
        have HS := Lib.hid (show n + absI (ms[j].to - ms[j].fr) = lenS (ms.take (j + 1)) by rw [lenS_take hlt, hs.out])
        have hr1 : -1000 ≤ ms[j].to - ms[j].fr ∧ ms[j].to - ms[j].fr ≤ 1000 := by omega
        have hf1 : (0 ≤ ms[j].fr ∧ ms[j].fr ≤ 23) := hm.1
        have ht1 : (0 ≤ ms[j].to ∧ ms[j].to ≤ 23) := hm.2.1
        clear hm ha hs
        go_wp2_with fail
        refine (isMove_any _ ms[j].fr ms[j].to).mono ?_
        rintro e w1 ⟨rfl, g1⟩
        rw [HT.out]
        have q0 := Chg.cell g1 (cell_new wr _ _ 0) id
        have q1 := Chg.cell g1 (cell_new wr _ _ 1) id
        have G1 := Lib.hid (Chg.trans (hg.out.alloc _) g1)
        clear g1 hg f0 f1
        go_wp2_with (first | (go_at_call 68; refine (size_any _ _ hr1).mono ?_; rintro e w' ⟨rfl, rfl⟩))
        go_roundw
        case rel => exact ⟨j + 1, _, by omega, by go_num, rfl, by omega, by omega, HS, HA, G1.out⟩
        case measure => first | (simp [intOf]; done) | (simp [intOf]; omega)
      · have HL := Lib.hid (show lengthM ms = -1 from if_neg (fun hh => hm (hh j hlt hlt)))
        have HT := Lib.hid (decide_eq_false hm)
        clear hm ha hs
        go_wp2_with fail
        refine (isMove_any _ ms[j].fr ms[j].to).mono ?_
        rintro e w1 ⟨rfl, g1⟩
        rw [HT.out]
        go_wp2
        go_ret
        exact ⟨ret_i HL.out.symm, Chg.trans (hg.out.alloc _) g1⟩
    · obtain rfl : j = ms.length := by omega
      go_wp2
      go_ret
      exact ⟨ret_i (by unfold lengthM; rw [if_pos ha.out, hs.out, List.take_length]), hg.out⟩
set_option maxRecDepth 100000 in
set_option maxHeartbeats 4000000 in
theorem spec_any (w : World) (S : Nat → Prop) (v : Value) (ms : List MoveM) (h : Moves w S v ms) (hb : ms.length ≤ 1048576) :
    Calls Try.prog 18 #[v] w fun e w' => e = .returned (.int .i64 (lengthM ms)) ∧ Up w w' := by
  obtain ⟨A, c, rfl, hlc, hcm, -⟩ := h.shape
  have H := Lib.hid h
  clear h
  go_enter Try.func18, Try.ntmps18
  go_wp2
  go_loopw [3, 4] (fun s i wr => ∃ (j : Nat) (n : Int), j ≤ ms.length ∧ i = .int .i64 j ∧ s = .int .i64 n ∧ 0 ≤ n ∧ n ≤ 3 * j ∧ Hid (n = lenS (ms.take j)) ∧ Hid (allTo ms j) ∧ Hid (Up w wr)) (fun _ i _ => ms.length - (intOf i).toNat)
  case atStart => exact ⟨0, 0, by omega, rfl, rfl, by omega, by omega, rfl, fun i _ h => absurd h (by omega), Chg.refl _ _⟩
  case round =>
    obtain ⟨j, n, hj, rfl, rfl, hn0, hn1, hs, ha, hg⟩ := hrel
    by_cases hlt : j < ms.length
    · obtain ⟨b, o, c', he, -, hbl, hc⟩ := (H.out.up hg.out).at_ hlt
      obtain ⟨rfl, rfl⟩ : A = some ⟨b, o, none⟩ ∧ c = c' := by simpa using he
      have f0 := (hc 0 _ rfl).1
      have f1 := (hc 1 _ rfl).1
      rw [Nat.add_zero] at f0
      clear hc he
      by_cases hm : isMoveP ms[j].fr ms[j].to
      · have HT := Lib.hid (decide_eq_true hm)
        have hd : -3 ≤ ms[j].to - ms[j].fr ∧ ms[j].to - ms[j].fr ≤ 3 := hm.2.2.2
        have hab := absI_in hd
        have HA := Lib.hid (allTo_succ ha.out hlt hm)
        have HS := Lib.hid (show n + absI (ms[j].to - ms[j].fr) = lenS (ms.take (j + 1)) by rw [lenS_take hlt, hs.out])
        have hr1 : -1000 ≤ ms[j].to - ms[j].fr ∧ ms[j].to - ms[j].fr ≤ 1000 := by omega
        have hf1 : (0 ≤ ms[j].fr ∧ ms[j].fr ≤ 23) := hm.1
        have ht1 : (0 ≤ ms[j].to ∧ ms[j].to ≤ 23) := hm.2.1
        clear hm ha hs
        go_wp2_with fail
        refine (l21Move_any _ ms[j].fr ms[j].to).mono ?_
        rintro e w1 ⟨rfl, g1⟩
        rw [HT.out]
        have G1 := Lib.hid (Chg.trans hg.out g1)
        have q0 := Chg.cell g1 f0 id
        have q1 := Chg.cell g1 f1 id
        clear g1 hg f0 f1
        go_wp2
        go_quiet (exact quiet_left (l03Abs_any _ _ hr1))
        go_wp2
        go_roundw
        case rel => exact ⟨j + 1, _, by omega, by go_num, rfl, by omega, by omega, HS, HA, Chg.drewN G1.out _⟩
        case measure => first | (simp [intOf]; done) | (simp [intOf]; omega)
      · have HL := Lib.hid (show lengthM ms = -1 from if_neg (fun hh => hm (hh j hlt hlt)))
        have HT := Lib.hid (decide_eq_false hm)
        clear hm ha hs
        go_wp2_with fail
        refine (l21Move_any _ ms[j].fr ms[j].to).mono ?_
        rintro e w1 ⟨rfl, g1⟩
        rw [HT.out]
        go_wp2
        go_ret
        exact ⟨ret_i HL.out.symm, Chg.trans hg.out g1⟩
    · obtain rfl : j = ms.length := by omega
      go_wp2
      go_ret
      exact ⟨ret_i (by unfold lengthM; rw [if_pos ha.out, hs.out, List.take_length]), hg.out⟩
end fnExactMoveLength
-- LAW
namespace fnExactMoveLength
set_option linter.unusedVariables false in
set_option maxHeartbeats 2000000 in
theorem walk0 (w : World) (v0 : Value) (a0 : List MoveM) (ha0 : Moves w (fun b => b < w.heap.size) v0 a0) (hb0 : a0.length ≤ 1048576) :
    Calls Try.prog 3 #[v0] w fun e w' => e = .returned (.bool true) ∧ Below w.heap.size w w' := by
  have U0 := Lib.hid (Chg.refl Nowhere w)
  obtain ⟨A0, c0, rfl, hl0, hc0, -⟩ := ha0.shape
  have X0 := Lib.hid ha0
  clear ha0
  go_enter Try.func3, Try.ntmps3
  have hd0 : decide ((1048576 : Int) - a0.length < 0) = false := decide_eq_false (by omega)
  go_wp2_with fail
  refine (szMoves_ok _ _ _ a0 1048576 (by omega) (by omega) X0.out).mono ?_
  rintro e _ ⟨rfl, rfl⟩
  go_wp2_with fail
  refine (toMoves _ _ _ a0 (by unfold cntMoves; omega) X0.out).mono ?_
  rintro e w1 ⟨uC1, rfl, k1, g1⟩
  obtain ⟨BC1, dC1, rfl, eC1, fC1, -⟩ := k1.shape
  have K := Lib.hid k1
  have G1 := Lib.hid g1
  clear k1 g1
  have G1z := G1.out.size
  have X0' := Lib.hid (X0.out.up G1.out)
  clear X0
  have U0' := Lib.hid (Chg.trans U0.out G1.out)
  clear U0 G1
  have C1 := K
  clear K
  go_wp2_with fail
  refine (spec_any _ _ _ a0 C1.out hb0).mono ?_
  rintro e w2 ⟨rfl, g1⟩
  have G2 := Lib.hid g1
  clear g1
  have G2z := G2.out.size
  have X0'' := Lib.hid (X0'.out.up G2.out)
  clear X0'
  have C1' := Lib.hid (C1.out.up G2.out)
  clear C1
  have U0'' := Lib.hid (Chg.trans U0'.out G2.out)
  clear U0' G2
  clear C1'
  go_wp2_with fail
  refine (toMoves _ _ _ a0 (by unfold cntMoves; omega) X0''.out).mono ?_
  rintro e w3 ⟨uC3, rfl, k1, g1⟩
  obtain ⟨BC3, dC3, rfl, eC3, fC3, -⟩ := k1.shape
  have K := Lib.hid k1
  have G3 := Lib.hid g1
  clear k1 g1
  have G3z := G3.out.size
  have X0''' := Lib.hid (X0''.out.up G3.out)
  clear X0''
  have U0''' := Lib.hid (Chg.trans U0''.out G3.out)
  clear U0'' G3
  have C3 := K
  clear K
  go_wp2_with fail
  refine (impl_any _ _ _ a0 C3.out hb0).mono ?_
  rintro e w4 ⟨rfl, g1⟩
  have G4 := Lib.hid g1
  clear g1
  have G4z := G4.out.size
  have X0'''' := Lib.hid (X0'''.out.up G4.out)
  clear X0'''
  have C3' := Lib.hid (C3.out.up G4.out)
  clear C3
  have U0'''' := Lib.hid (Chg.trans U0'''.out G4.out)
  clear U0''' G4
  go_wp2_with fail
  refine (toMoves _ _ _ a0 (by unfold cntMoves; omega) X0''''.out).mono ?_
  rintro e w5 ⟨uC5, rfl, k1, g1⟩
  obtain ⟨BC5, dC5, rfl, eC5, fC5, -⟩ := k1.shape
  have K := Lib.hid k1
  have G5 := Lib.hid g1
  clear k1 g1
  have G5z := G5.out.size
  have X0''''' := Lib.hid (X0''''.out.up G5.out)
  clear X0''''
  have C3'' := Lib.hid (C3'.out.up G5.out)
  clear C3'
  have U0''''' := Lib.hid (Chg.trans U0''''.out G5.out)
  clear U0'''' G5
  have C5 := K
  clear K
  go_wp2_with fail
  refine (eqMoves _ _ _ _ _ a0 C3''.out C5.out).mono ?_
  rintro e w6 ⟨rfl, g1⟩
  have G6 := Lib.hid g1
  clear g1
  have G6z := G6.out.size
  have X0'''''' := Lib.hid (X0'''''.out.up G6.out)
  clear X0'''''
  have C3''' := Lib.hid (C3''.out.up G6.out)
  clear C3''
  have C5' := Lib.hid (C5.out.up G6.out)
  clear C5
  have U0'''''' := Lib.hid (Chg.trans U0'''''.out G6.out)
  clear U0''''' G6
  clear C5'
  go_wp2
  go_ret
  exact ⟨rfl, Up.below U0''''''.out⟩
theorem walk (w : World) (v0 : Value) (a0 : List MoveM) (ha0 : Moves w (fun b => b < w.heap.size) v0 a0) :
    Calls Try.prog 3 #[v0] w fun e w' => e = .returned (.bool true) ∧ Below w.heap.size w w' := by
  by_cases hb0 : a0.length ≤ 1048576
  rotate_left
  · have X0 := Lib.hid ha0
    have hd0 : decide ((-1 : Int) < 0) = true := rfl
    go_enter Try.func3, Try.ntmps3
    go_wp2_with fail
    refine (szMoves_no _ _ _ a0 1048576 (by omega) (by omega) X0.out).mono ?_
    rintro e _ ⟨rfl, rfl⟩
    go_wp2
    go_ret
    exact ⟨rfl, Below.refl _ _⟩
  exact walk0 w v0 a0 ha0 hb0
end fnExactMoveLength
end Go.Proofs.Ytaemcjakmeibjaa
namespace Go.Proofs.Ytaemcjakmeibjaa.fnExactMoveLength
open Go.ChangeShapes Go.WideShapes Go.ChangeAt Go.RowKit
set_option linter.unusedVariables false
theorem own : ownKnob Try.prog.godebug = none := by kernel_rfl
theorem laidOut : laidOutB Try.prog = true := by kernel_rfl
theorem readable : ∀ t ∈ Try.f3.params.toList, Try.prog.readableRec t = true ∧ t < Try.prog.types.size := by
  have h : (Try.f3.params.toList.all fun t => Try.prog.readableRec t && decide (t < Try.prog.types.size)) = true := by kernel_rfl
  intro t ht
  have h2 := List.all_eq_true.1 h t ht
  rw [Bool.and_eq_true, decide_eq_true_eq] at h2
  exact h2
theorem resT : Try.f3.resultTypes = #[4] := by kernel_rfl
set_option maxRecDepth 100000 in
theorem lifted (os : Os) (started : os.Started) (H : Type) (enc : TypeId × Value → H) :
    ReturnsInHanded {} Try.checked os 3 .any (Rows.fnExactMoveLengthSpec.pre6 enc Try.prog Try.f3 Rows.fnExactMoveLengthRow.domain false) (Rows.fnExactMoveLengthSpec.post enc Try.prog Try.f3 false true false false) := by
  refine returnsInHanded_of_change (C := Try.checked) own started (by kernel_rfl) Try.func3
    (ChangeSpec.witness6 (enc := enc) (C := Try.checked) false ⟨#[], #[.slice none 0 0], []⟩ 8 (by kernel_rfl) (by kernel_rfl) (by kernel_rfl) (by kernel_rfl)) ?_
  intro W base args ds gs before hval0 hW hcnd _
  have hval : ∀ (j : Nat) t v, Try.f3.params[j]? = some t → args[j]? = some v → Value.okWide Try.prog W .any base t v := hval0
  have hW' := hW
  obtain ⟨p, q, hA0, hV, rfl, hfz, hnd⟩ := hW
  have hA : DataW.TrodAll enc Try.prog W 0 (fun _ => true) true Try.f3.params.toList args.toList ds p := hA0
  rw [Try.params3] at hA hval
  obtain ⟨v0, vs0, d0, ds0, p0, q0, hargs, rfl, rfl, h0, r0⟩ := trodAll_cons hA
  obtain ⟨rfl, rfl, rfl⟩ := trodAll_nil r0
  obtain rfl : args = #[v0] := by cases args; simp_all
  obtain ⟨rfl, rfl⟩ := trodVars_none hV
  have hpost : ∀ W', Below W.heap.size W W' → Rows.fnExactMoveLengthSpec.post enc Try.prog Try.f3 false true false false W #[v0] (.bool true) W' := fun W' hb =>
    law_post laidOut readable resT Try.underlying4 rfl rfl hW' hb
  have hz : ∀ b off, MemPlace.cell b off ∈ p0 ++ [] → W.frozen? ⟨b, off, none⟩ = false := fun b off hm => hfz b off (by simpa using hm)
  clear hW' hA0 hval0 hcnd hnd hV hA
  obtain ⟨xs0, hs0⟩ := open_Moves (hval 0 22 v0 rfl rfl) h0 (fun b off hm => hz b off (by simp [hm]))
  refine (walk W v0 xs0 hs0).mono fun e W' ⟨he, hg⟩ => ?_
  subst he
  exact ⟨_, rfl, hpost W' hg⟩
theorem over : Rows.fnExactMoveLengthRow.holds Try.pinned (OpenSpec.ofChange Rows.fnExactMoveLengthSpec) :=
  OpenClaim.holds_of_wide 3 Try.f3 rfl rfl rfl rfl rfl rfl rfl ⟨rfl, rfl, rfl, rfl, rfl⟩ rfl rfl rfl rfl rfl (by kernel_rfl) Try.func3 (by kernel_rfl)
    (of_decide_eq_true (by kernel_rfl)) (by unfold Func.isWrapper; first | (rw [if_pos (by decide +kernel)]; kernel_rfl) | (rw [if_neg (by decide +kernel)]; exact ⟨rfl, rfl⟩))
    (fun os started H enc _ => lifted os started H enc)
theorem proved : Rows.FnExactMoveLengthSaid :=
  over
end Go.Proofs.Ytaemcjakmeibjaa.fnExactMoveLength
