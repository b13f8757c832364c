/- The program's PlaceColumns answers as the reference's, for every list and carrier; its memory is its own. No condition. -/
import Derived.Test.YtaemcjakmeibjaaOwnO
import Derived.Test.YtaemcjakmeibjaaSmall
namespace Go.Proofs.Ytaemcjakmeibjaa
open Go.ChangeShapes Go.WideShapes Go.ChangeAt Go.RowKit
theorem placesB_len {tw : Bool} {xs : List Int} (h : placesB tw xs = true) : xs.length ≤ 8 ∧ ∀ i (hi : i < xs.length), 0 ≤ xs[i] ∧ xs[i] ≤ 23 := by
  obtain ⟨h1, h2⟩ := of_decide_eq_true h
  exact ⟨h2, fun i hi => ⟨(h1 i hi hi).1, (h1 i hi hi).2.1⟩⟩
namespace fnExactPlaceColumns
def knit1 (c x : Int) : OpM := ⟨1, 1, 1, x, 0, 0, c, 0⟩
def knitM (xs : List Int) (c : Int) : List OpM := ⟨8, 1, 0, 0, 0, 0, c, 0⟩ :: xs.map (knit1 c)
def knitTo (xs : List Int) (c : Int) (j : Nat) : List OpM := ⟨8, 1, 0, 0, 0, 0, c, 0⟩ :: (xs.take j).map (knit1 c)
theorem knitTo_succ (xs : List Int) (c : Int) (j : Nat) (h : j < xs.length) : knitTo xs c (j + 1) = knitTo xs c j ++ [knit1 c xs[j]] := by
  unfold knitTo
  rw [List.take_succ_eq_append_getElem h, List.map_append]
  rfl
theorem knitTo_all (xs : List Int) (c : Int) : knitTo xs c xs.length = knitM xs c := by simp [knitTo, knitM]
theorem knitTo_length (xs : List Int) (c : Int) (j : Nat) (h : j ≤ xs.length) : (knitTo xs c j).length = j + 1 := by simp [knitTo]; omega
def codeOf (xs : List Int) (c : Int) : Int := if placesB false xs = true ∧ (1 ≤ c ∧ c ≤ 4) then 0 else 1
def outOf (xs : List Int) (c : Int) : List OpM := if placesB false xs = true ∧ (1 ≤ c ∧ c ≤ 4) then knitM xs c else []
set_option maxRecDepth 100000 in
set_option maxHeartbeats 4000000 in
theorem impl_any (w : World) (S : Nat → Prop) (v : Value) (xs : List Int) (h : Ints w S v xs) (c : Int) :
    Calls Try.prog 43 #[v, .int .i64 c] w fun e w' => ∃ v, e = .returned (.tuple #[v, .int .i64 (codeOf xs c)]) ∧ Ops w' (New w.heap.size w'.heap.size) v (outOf xs c) ∧ Up w w' := by
  have H := Lib.hid h
  obtain ⟨A, cap, rfl, hlc, hcm, hI, hr, hnn⟩ := h
  have HR := Lib.hid hr
  clear hI hr hnn
  by_cases hb : placesB false xs = true
  · by_cases hc : 1 ≤ c ∧ c ≤ 4
    · rw [show codeOf xs c = 0 from if_pos ⟨hb, hc⟩, show outOf xs c = knitM xs c from if_pos ⟨hb, hc⟩]
      have HB := Lib.hid (placesB_len hb)
      have HT := Lib.hid hb
      clear hb
      go_enter Try.func43, Try.ntmps43
      go_wp2_with fail
      refine (ValidPlaces_any _ S _ xs H.out).mono ?_
      rintro e w1 ⟨rfl, rfl⟩
      rw [HT.out]
      go_wp2_with (first | (go_at_call 76; refine (isCarrier_yes _ _ ?_).mono ?_; (omega); rintro e w' ⟨rfl, rfl⟩))
      go_loopw [6, 8, 22] (fun v _ i wr => ∃ j : Nat, j ≤ xs.length ∧ i = .int .i64 j ∧ Hid (OwnO wr w.heap.size v (knitTo xs c j)) ∧ Hid (Up w wr)) (fun _ _ i _ => xs.length - (intOf i).toNat)
      case atStart =>
        exact ⟨0, by omega, rfl, OwnO.lit (xs := knitTo xs c 0) (heap_new_at rfl) (by simp [knitTo, OpM.cells]) (by first | omega | (simp; omega)) (by simp [knitTo]) (by
          intro x hx
          simp only [knitTo, List.take_zero, List.map_nil, List.mem_singleton] at hx
          subst hx
          unfold OpM.ok I64
          simp only []
          omega), (Chg.refl _ _).alloc _⟩
      case round =>
        obtain ⟨j, hj, rfl, ho, hg⟩ := hrel
        by_cases hlt : j < xs.length
        · have hsz := hg.out.size
          obtain ⟨b, o, rfl, -, hbl, hcell⟩ := HR.out (by omega)
          have hcj := hg.out.cell (hcell j hlt).1 id
          have hx := HB.out.2 j hlt
          have HL := Lib.hid (show (knitTo xs c j).length ≤ 1099511627775 by rw [knitTo_length _ _ _ hj]; have := HB.out.1; omega)
          have HY := Lib.hid (show (knit1 c xs[j]).ok by unfold OpM.ok I64 knit1; simp only []; omega)
          clear hcell hx
          go_wp2_with (first | (at_builtin; refine wp_append_op rfl _ _ rfl w.heap.size _ (knitTo xs c j) rfl (ho.out.alloc _) wr.heap.size (knit1 c xs[j]) rfl (heap_new_at rfl) HY.out HL.out ?_ ?_; (simp; omega); intro v' w3 ho1 _ hg1; have HO := Lib.hid ho1; have HG := Lib.hid hg1; clear ho1 hg1))
          go_roundw
          case rel => exact ⟨j + 1, by omega, by go_num, by rw [knitTo_succ _ _ _ hlt]; exact HO.out, Chg.new (hg.out.alloc _) HG.out (fun i hi => by omega)⟩
          case measure => simp [intOf]; omega
        · obtain rfl : j = xs.length := by omega
          go_wp2
          go_ret2
          exact ⟨_, rfl, by rw [← knitTo_all]; exact ho.out.ops, hg.out⟩
    · rw [show codeOf xs c = 1 from if_neg (fun h => hc h.2), show outOf xs c = [] from if_neg (fun h => hc h.2)]
      have hc' : c < 1 ∨ 4 < c := by omega
      have HT := Lib.hid hb
      clear hb hc
      go_enter Try.func43, Try.ntmps43
      go_wp2_with fail
      refine (ValidPlaces_any _ S _ xs H.out).mono ?_
      rintro e w1 ⟨rfl, rfl⟩
      rw [HT.out]
      go_wp2_with (first | (go_at_call 76; refine (isCarrier_no _ _ ?_).mono ?_; (omega); rintro e w' ⟨rfl, rfl⟩))
      go_ret2
      exact ⟨_, rfl, Ops.nil _ _ _ _ (by omega), Chg.refl _ _⟩
  · rw [show codeOf xs c = 1 from if_neg (fun h => hb h.1), show outOf xs c = [] from if_neg (fun h => hb h.1)]
    have HT := Lib.hid (Bool.eq_false_iff.2 hb)
    clear hb
    go_enter Try.func43, Try.ntmps43
    go_wp2_with fail
    refine (ValidPlaces_any _ S _ xs H.out).mono ?_
    rintro e w1 ⟨rfl, rfl⟩
    rw [HT.out]
    go_wp2
    go_ret2
    exact ⟨_, rfl, Ops.nil _ _ _ _ (by omega), Chg.refl _ _⟩
set_option maxRecDepth 100000 in
set_option maxHeartbeats 4000000 in
theorem l21Knit_any (w : World) (S : Nat → Prop) (v : Value) (xs : List Int) (h : Ints w S v xs) (c : Int) (hc : 1 ≤ c ∧ c ≤ 4) (hb : placesB false xs = true) :
    Calls Try.prog 98 #[v, .int .i64 c] w fun e w' => ∃ v, e = .returned v ∧ Ops w' (New w.heap.size w'.heap.size) v (knitM xs c) ∧ Up w w' := by
  obtain ⟨A, cap, rfl, hlc, hcm, hI, hr, hnn⟩ := h
  have HR := Lib.hid hr
  have HB := Lib.hid (placesB_len hb)
  clear hI hr hnn hb
  go_enter Try.func98, Try.ntmps98
  go_wp2
  go_loopw [5, 6] (fun v i wr => ∃ j : Nat, j ≤ xs.length ∧ i = .int .i64 j ∧ Hid (OwnO wr w.heap.size v (knitTo xs c j)) ∧ Hid (Up w wr)) (fun _ i _ => xs.length - (intOf i).toNat)
  case atStart =>
    exact ⟨0, by omega, rfl, OwnO.lit (xs := knitTo xs c 0) (heap_new_at rfl) (by simp [knitTo, OpM.cells]) (by first | omega | (simp; omega)) (by simp [knitTo]) (by
      intro x hx
      simp only [knitTo, List.take_zero, List.map_nil, List.mem_singleton] at hx
      subst hx
      unfold OpM.ok I64
      simp only []
      omega), (Chg.refl _ _).alloc _⟩
  case round =>
    obtain ⟨j, hj, rfl, ho, hg⟩ := hrel
    by_cases hlt : j < xs.length
    · have hsz := hg.out.size
      obtain ⟨b, o, rfl, -, hbl, hcell⟩ := HR.out (by omega)
      have hcj := hg.out.cell (hcell j hlt).1 id
      have hx := HB.out.2 j hlt
      have HL := Lib.hid (show (knitTo xs c j).length ≤ 1099511627775 by rw [knitTo_length _ _ _ hj]; have := HB.out.1; omega)
      have HY := Lib.hid (show (knit1 c xs[j]).ok by unfold OpM.ok I64 knit1; simp only []; omega)
      clear hcell hx
      go_wp2_with (first | (at_builtin; refine wp_append_op rfl _ _ rfl w.heap.size _ (knitTo xs c j) rfl (ho.out.alloc _) wr.heap.size (knit1 c xs[j]) rfl (heap_new_at rfl) HY.out HL.out ?_ ?_; (simp; omega); intro v' w3 ho1 _ hg1; have HO := Lib.hid ho1; have HG := Lib.hid hg1; clear ho1 hg1))
      go_roundw
      case rel => exact ⟨j + 1, by omega, by go_num, by rw [knitTo_succ _ _ _ hlt]; exact HO.out, Chg.new (hg.out.alloc _) HG.out (fun i hi => by omega)⟩
      case measure => simp [intOf]; omega
    · obtain rfl : j = xs.length := by omega
      go_wp2
      go_ret
      exact ⟨_, rfl, by rw [← knitTo_all]; exact ho.out.ops, hg.out⟩
set_option maxHeartbeats 4000000 in
theorem spec_any (w : World) (S : Nat → Prop) (v : Value) (xs : List Int) (h : Ints w S v xs) (c : Int) :
    Calls Try.prog 42 #[v, .int .i64 c] w fun e w' => ∃ v, e = .returned (.tuple #[v, .int .i64 (codeOf xs c)]) ∧ Ops w' (New w.heap.size w'.heap.size) v (outOf xs c) ∧ Up w w' := by
  obtain ⟨A, cap, rfl, -⟩ := id h
  have H := Lib.hid h
  clear h
  by_cases hb : placesB false xs = true
  · by_cases hc : 1 ≤ c ∧ c ≤ 4
    · rw [show codeOf xs c = 0 from if_pos ⟨hb, hc⟩, show outOf xs c = knitM xs c from if_pos ⟨hb, hc⟩]
      have HT := Lib.hid hb
      clear hb
      go_enter Try.func42, Try.ntmps42
      go_wp2_with fail
      refine (l21Places_any _ S _ xs _ H.out).mono ?_
      rintro e w1 ⟨rfl, g1⟩
      have G1 := Lib.hid g1.up
      clear g1
      rw [HT.out]
      go_wp2_with (first | (go_at_call 71; refine (l07Yarn_yes _ _ ?_).mono ?_; (omega); rintro e w' ⟨rfl, rfl⟩))
      refine (l21Knit_any _ S _ xs (H.out.up G1.out) c hc HT.out).mono ?_
      rintro e w2 ⟨v, rfl, k1, g2⟩
      have hz := G1.out.size
      have K1 := Lib.hid k1
      have G2 := Lib.hid g2
      clear k1 g2
      go_wp2
      go_ret2
      exact ⟨_, rfl, K1.out.mono (fun b _ hb => ⟨Nat.le_trans hz hb.1, hb.2⟩), Chg.trans G1.out G2.out⟩
    · rw [show codeOf xs c = 1 from if_neg (fun h => hc h.2), show outOf xs c = [] from if_neg (fun h => hc h.2)]
      have hc' : c < 1 ∨ 4 < c := by omega
      have HT := Lib.hid hb
      clear hb hc
      go_enter Try.func42, Try.ntmps42
      go_wp2_with fail
      refine (l21Places_any _ S _ xs _ H.out).mono ?_
      rintro e w1 ⟨rfl, g1⟩
      have G1 := Lib.hid g1.up
      clear g1
      rw [HT.out]
      go_wp2_with (first | (go_at_call 71; refine (l07Yarn_no _ _ ?_).mono ?_; (omega); rintro e w' ⟨rfl, rfl⟩))
      go_ret2
      exact ⟨_, rfl, Ops.nil _ _ _ _ (by omega), G1.out⟩
  · rw [show codeOf xs c = 1 from if_neg (fun h => hb h.1), show outOf xs c = [] from if_neg (fun h => hb h.1)]
    have HT := Lib.hid (Bool.eq_false_iff.2 hb)
    clear hb
    go_enter Try.func42, Try.ntmps42
    go_wp2_with fail
    refine (l21Places_any _ S _ xs _ H.out).mono ?_
    rintro e w1 ⟨rfl, g1⟩
    have G1 := Lib.hid g1.up
    clear g1
    rw [HT.out]
    go_wp2
    go_ret2
    exact ⟨_, rfl, Ops.nil _ _ _ _ (by omega), G1.out⟩
theorem outOf_len (xs : List Int) (c : Int) : cntOps (outOf xs c) ≤ 72 := by
  unfold outOf cntOps
  split
  · rename_i h
    have := (placesB_len h.1).1
    rw [← knitTo_all, knitTo_length _ _ _ (Nat.le_refl _)]
    omega
  · simp
end fnExactPlaceColumns
-- LAW
namespace fnExactPlaceColumns
set_option linter.unusedVariables false in
set_option maxHeartbeats 2000000 in
theorem walk0 (w : World) (v0 : Value) (a0 : List Int) (ha0 : Ints w (fun b => b < w.heap.size) v0 a0) (a1 : Int) (ia1 : I64 a1) (hb0 : a0.length ≤ 1048576) :
    Calls Try.prog 10 #[v0, .int .i64 a1] w fun e w' => e = .returned (.bool true) ∧ Below w.heap.size w w' := by
  have U0 := Lib.hid (Chg.refl Nowhere w)
  obtain ⟨A0, c0, rfl, hl0, hc0, -⟩ := ha0.shape
  have X0 := Lib.hid ha0
  clear ha0
  go_enter Try.func10, Try.ntmps10
  go_wp2_with fail
  refine (toInts _ _ _ a0 (by unfold cntInts; omega) X0.out).mono ?_
  rintro e w1 ⟨uC1, rfl, k1, g1⟩
  obtain ⟨BC1, dC1, rfl, eC1, fC1, -⟩ := k1.shape
  have K := Lib.hid k1
  have G1 := Lib.hid g1
  clear k1 g1
  have G1z := G1.out.size
  have X0' := Lib.hid (X0.out.up G1.out)
  clear X0
  have U0' := Lib.hid (Chg.trans U0.out G1.out)
  clear U0 G1
  have C1 := K
  clear K
  go_wp2_with fail
  refine (spec_any _ _ _ a0 C1.out a1).mono ?_
  rintro e w2 ⟨uW, rfl, k1, g1⟩
  obtain ⟨BW, dW, rfl, eW, fW, -⟩ := k1.shape
  have K := Lib.hid k1
  have G2 := Lib.hid g1
  clear k1 g1
  have G2z := G2.out.size
  have X0'' := Lib.hid (X0'.out.up G2.out)
  clear X0'
  have C1' := Lib.hid (C1.out.up G2.out)
  clear C1
  have U0'' := Lib.hid (Chg.trans U0'.out G2.out)
  clear U0' G2
  have W := K
  clear K
  clear C1'
  go_wp2_with fail
  refine (toInts _ _ _ a0 (by unfold cntInts; omega) X0''.out).mono ?_
  rintro e w3 ⟨uC3, rfl, k1, g1⟩
  obtain ⟨BC3, dC3, rfl, eC3, fC3, -⟩ := k1.shape
  have K := Lib.hid k1
  have G3 := Lib.hid g1
  clear k1 g1
  have G3z := G3.out.size
  have X0''' := Lib.hid (X0''.out.up G3.out)
  clear X0''
  have W' := Lib.hid (W.out.up G3.out)
  clear W
  have U0''' := Lib.hid (Chg.trans U0''.out G3.out)
  clear U0'' G3
  have C3 := K
  clear K
  go_wp2_with fail
  refine (impl_any _ _ _ a0 C3.out a1).mono ?_
  rintro e w4 ⟨uR, rfl, k1, g1⟩
  obtain ⟨BR, dR, rfl, eR, fR, -⟩ := k1.shape
  have K := Lib.hid k1
  have G4 := Lib.hid g1
  clear k1 g1
  have G4z := G4.out.size
  have X0'''' := Lib.hid (X0'''.out.up G4.out)
  clear X0'''
  have W'' := Lib.hid (W'.out.up G4.out)
  clear W'
  have C3' := Lib.hid (C3.out.up G4.out)
  clear C3
  have U0'''' := Lib.hid (Chg.trans U0'''.out G4.out)
  clear U0''' G4
  have R := K
  clear K
  go_wp2_with fail
  refine (eqOps _ _ _ _ _ (outOf a0 a1) R.out W''.out).mono ?_
  rintro e w5 ⟨rfl, g1⟩
  have G5 := Lib.hid g1
  clear g1
  have G5z := G5.out.size
  have X0''''' := Lib.hid (X0''''.out.up G5.out)
  clear X0''''
  have W''' := Lib.hid (W''.out.up G5.out)
  clear W''
  have C3'' := Lib.hid (C3'.out.up G5.out)
  clear C3'
  have R' := Lib.hid (R.out.up G5.out)
  clear R
  have U0''''' := Lib.hid (Chg.trans U0''''.out G5.out)
  clear U0'''' G5
  go_wp2_with fail
  refine (toInts _ _ _ a0 (by unfold cntInts; omega) X0'''''.out).mono ?_
  rintro e w6 ⟨uC6, rfl, k1, g1⟩
  obtain ⟨BC6, dC6, rfl, eC6, fC6, -⟩ := k1.shape
  have K := Lib.hid k1
  have G6 := Lib.hid g1
  clear k1 g1
  have G6z := G6.out.size
  have X0'''''' := Lib.hid (X0'''''.out.up G6.out)
  clear X0'''''
  have W'''' := Lib.hid (W'''.out.up G6.out)
  clear W'''
  have C3''' := Lib.hid (C3''.out.up G6.out)
  clear C3''
  have R'' := Lib.hid (R'.out.up G6.out)
  clear R'
  have U0'''''' := Lib.hid (Chg.trans U0'''''.out G6.out)
  clear U0''''' G6
  have C6 := K
  clear K
  go_wp2_with fail
  refine (eqInts _ _ _ _ _ a0 C3'''.out C6.out).mono ?_
  rintro e w7 ⟨rfl, g1⟩
  have G7 := Lib.hid g1
  clear g1
  have G7z := G7.out.size
  have X0''''''' := Lib.hid (X0''''''.out.up G7.out)
  clear X0''''''
  have W''''' := Lib.hid (W''''.out.up G7.out)
  clear W''''
  have C3'''' := Lib.hid (C3'''.out.up G7.out)
  clear C3'''
  have R''' := Lib.hid (R''.out.up G7.out)
  clear R''
  have C6' := Lib.hid (C6.out.up G7.out)
  clear C6
  have U0''''''' := Lib.hid (Chg.trans U0''''''.out G7.out)
  clear U0'''''' G7
  clear C6'
  have hp0 : (0 : Int) ≤ (1 : Int) := by omega
  have hr0 : cntInts a0 ≤ 8388608 := (by unfold cntInts; omega)
  have hq0 : (1 : Int) + cntInts a0 ≤ 4611686018427387904 := by omega
  go_wp2_with fail
  refine (markInts _ _ _ a0 ((1 : Int)) hp0 hq0 C3''''.out).mono ?_
  rintro e w8 ⟨rfl, g1, k1⟩
  have K := Lib.hid k1
  have G8 := Lib.hid g1
  clear k1 g1
  clear C3''''
  have G8z := G8.out.size
  have X0'''''''' := Lib.hid (X0'''''''.out.keep G8.out (fun b hb h1 h2 => by simp only [New] at h1 h2; omega))
  clear X0'''''''
  have W'''''' := Lib.hid (W'''''.out.keep G8.out (fun b hb h1 h2 => by simp only [New] at h1 h2; omega))
  clear W'''''
  have R'''' := Lib.hid (R'''.out.keep G8.out (fun b hb h1 h2 => by simp only [New] at h1 h2; omega))
  clear R'''
  have U0'''''''' := Lib.hid (Chg.new U0'''''''.out G8.out (fun i hi h2 => by simp only [New] at h2; omega))
  clear U0''''''' G8
  have MC3 := K
  clear K
  have hneg : decide (((1 : Int) + cntInts a0 : Int) < 0) = false := decide_eq_false (by omega)
  go_wp2_with fail
  refine (eqOps _ _ _ _ _ (outOf a0 a1) R''''.out W''''''.out).mono ?_
  rintro e w9 ⟨rfl, g1⟩
  have G9 := Lib.hid g1
  clear g1
  have G9z := G9.out.size
  have X0''''''''' := Lib.hid (X0''''''''.out.up G9.out)
  clear X0''''''''
  have W''''''' := Lib.hid (W''''''.out.up G9.out)
  clear W''''''
  have R''''' := Lib.hid (R''''.out.up G9.out)
  clear R''''
  have MC3' := Lib.hid (MC3.out.up G9.out)
  clear MC3
  have U0''''''''' := Lib.hid (Chg.trans U0''''''''.out G9.out)
  clear U0'''''''' G9
  clear hneg
  have hr := outOf_len a0 a1
  have hr1 : (0 : Int) ≤ 1 := by omega
  have hr2 : (1 : Int) + cntOps ((outOf a0 a1)) ≤ 4611686018427387904 := by have := hr; omega
  have HR := Lib.hid hr
  clear hr
  go_wp2_with fail
  refine (markOps _ _ _ (outOf a0 a1) 1 hr1 hr2 R'''''.out).mono ?_
  rintro e w10 ⟨rfl, g1, k1⟩
  have K := Lib.hid k1
  have G10 := Lib.hid g1
  clear k1 g1
  clear R'''''
  have G10z := G10.out.size
  have X0'''''''''' := Lib.hid (X0'''''''''.out.keep G10.out (fun b hb h1 h2 => by simp only [New] at h1 h2; omega))
  clear X0'''''''''
  have W'''''''' := Lib.hid (W'''''''.out.keep G10.out (fun b hb h1 h2 => by simp only [New] at h1 h2; omega))
  clear W'''''''
  have MC3'' := Lib.hid (MC3'.out.keep G10.out (fun b hb h1 h2 => by simp only [New] at h1 h2; omega))
  clear MC3'
  have U0'''''''''' := Lib.hid (Chg.new U0'''''''''.out G10.out (fun i hi h2 => by simp only [New] at h2; omega))
  clear U0''''''''' G10
  have MR := K
  clear K
  go_wp2_with fail
  refine (heldOps _ _ _ (outOf a0 a1) 1 hr1 hr2 MR.out).mono ?_
  rintro e w11 ⟨rfl, g1⟩
  have G11 := Lib.hid g1
  clear g1
  have G11z := G11.out.size
  have X0''''''''''' := Lib.hid (X0''''''''''.out.up G11.out)
  clear X0''''''''''
  have W''''''''' := Lib.hid (W''''''''.out.up G11.out)
  clear W''''''''
  have MC3''' := Lib.hid (MC3''.out.up G11.out)
  clear MC3''
  have MR' := Lib.hid (MR.out.up G11.out)
  clear MR
  have U0''''''''''' := Lib.hid (Chg.trans U0''''''''''.out G11.out)
  clear U0'''''''''' G11
  go_wp2_with fail
  refine (toInts _ _ _ a0 (by unfold cntInts; omega) X0'''''''''''.out).mono ?_
  rintro e w12 ⟨uC12, rfl, k1, g1⟩
  obtain ⟨BC12, dC12, rfl, eC12, fC12, -⟩ := k1.shape
  have K := Lib.hid k1
  have G12 := Lib.hid g1
  clear k1 g1
  have G12z := G12.out.size
  have X0'''''''''''' := Lib.hid (X0'''''''''''.out.up G12.out)
  clear X0'''''''''''
  have W'''''''''' := Lib.hid (W'''''''''.out.up G12.out)
  clear W'''''''''
  have MC3'''' := Lib.hid (MC3'''.out.up G12.out)
  clear MC3'''
  have MR'' := Lib.hid (MR'.out.up G12.out)
  clear MR'
  have U0'''''''''''' := Lib.hid (Chg.trans U0'''''''''''.out G12.out)
  clear U0''''''''''' G12
  have C12 := K
  clear K
  go_wp2_with fail
  refine (impl_any _ _ _ a0 C12.out a1).mono ?_
  rintro e w13 ⟨uH, rfl, k1, g1⟩
  obtain ⟨BH, dH, rfl, eH, fH, -⟩ := k1.shape
  have K := Lib.hid k1
  have G13 := Lib.hid g1
  clear k1 g1
  have G13z := G13.out.size
  have X0''''''''''''' := Lib.hid (X0''''''''''''.out.up G13.out)
  clear X0''''''''''''
  have W''''''''''' := Lib.hid (W''''''''''.out.up G13.out)
  clear W''''''''''
  have MC3''''' := Lib.hid (MC3''''.out.up G13.out)
  clear MC3''''
  have MR''' := Lib.hid (MR''.out.up G13.out)
  clear MR''
  have C12' := Lib.hid (C12.out.up G13.out)
  clear C12
  have U0''''''''''''' := Lib.hid (Chg.trans U0''''''''''''.out G13.out)
  clear U0'''''''''''' G13
  have H := K
  clear K
  go_wp2_with fail
  refine (eqOps _ _ _ _ _ (outOf a0 a1) H.out W'''''''''''.out).mono ?_
  rintro e w14 ⟨rfl, g1⟩
  have G14 := Lib.hid g1
  clear g1
  have G14z := G14.out.size
  have X0'''''''''''''' := Lib.hid (X0'''''''''''''.out.up G14.out)
  clear X0'''''''''''''
  have W'''''''''''' := Lib.hid (W'''''''''''.out.up G14.out)
  clear W'''''''''''
  have MC3'''''' := Lib.hid (MC3'''''.out.up G14.out)
  clear MC3'''''
  have MR'''' := Lib.hid (MR'''.out.up G14.out)
  clear MR'''
  have C12'' := Lib.hid (C12'.out.up G14.out)
  clear C12'
  have H' := Lib.hid (H.out.up G14.out)
  clear H
  have U0'''''''''''''' := Lib.hid (Chg.trans U0'''''''''''''.out G14.out)
  clear U0''''''''''''' G14
  go_wp2_with fail
  refine (heldOps _ _ _ (outOf a0 a1) 1 hr1 hr2 MR''''.out).mono ?_
  rintro e w15 ⟨rfl, g1⟩
  have G15 := Lib.hid g1
  clear g1
  have G15z := G15.out.size
  have X0''''''''''''''' := Lib.hid (X0''''''''''''''.out.up G15.out)
  clear X0''''''''''''''
  have W''''''''''''' := Lib.hid (W''''''''''''.out.up G15.out)
  clear W''''''''''''
  have MC3''''''' := Lib.hid (MC3''''''.out.up G15.out)
  clear MC3''''''
  have MR''''' := Lib.hid (MR''''.out.up G15.out)
  clear MR''''
  have C12''' := Lib.hid (C12''.out.up G15.out)
  clear C12''
  have H'' := Lib.hid (H'.out.up G15.out)
  clear H'
  have U0''''''''''''''' := Lib.hid (Chg.trans U0''''''''''''''.out G15.out)
  clear U0'''''''''''''' G15
  go_wp2
  go_ret
  exact ⟨rfl, Up.below U0'''''''''''''''.out⟩
theorem walk (w : World) (v0 : Value) (a0 : List Int) (ha0 : Ints w (fun b => b < w.heap.size) v0 a0) (a1 : Int) (ia1 : I64 a1) :
    Calls Try.prog 10 #[v0, .int .i64 a1] w fun e w' => e = .returned (.bool true) ∧ Below w.heap.size w w' := by
  by_cases hb0 : a0.length ≤ 1048576
  rotate_left
  · obtain ⟨A0, c0, rfl, -⟩ := ha0
    go_enter Try.func10, Try.ntmps10
    go_wp2
    go_ret
    exact ⟨rfl, Below.refl _ _⟩
  exact walk0 w v0 a0 ha0 a1 ia1 hb0
end fnExactPlaceColumns
end Go.Proofs.Ytaemcjakmeibjaa
namespace Go.Proofs.Ytaemcjakmeibjaa.fnExactPlaceColumns
open Go.ChangeShapes Go.WideShapes Go.ChangeAt Go.RowKit
set_option linter.unusedVariables false
theorem own : ownKnob Try.prog.godebug = none := by kernel_rfl
theorem laidOut : laidOutB Try.prog = true := by kernel_rfl
theorem readable : ∀ t ∈ Try.f10.params.toList, Try.prog.readableRec t = true ∧ t < Try.prog.types.size := by
  have h : (Try.f10.params.toList.all fun t => Try.prog.readableRec t && decide (t < Try.prog.types.size)) = true := by kernel_rfl
  intro t ht
  have h2 := List.all_eq_true.1 h t ht
  rw [Bool.and_eq_true, decide_eq_true_eq] at h2
  exact h2
theorem resT : Try.f10.resultTypes = #[4] := by kernel_rfl
set_option maxRecDepth 100000 in
theorem lifted (os : Os) (started : os.Started) (H : Type) (enc : TypeId × Value → H) :
    ReturnsInHanded {} Try.checked os 10 .any (Rows.fnExactPlaceColumnsSpec.pre6 enc Try.prog Try.f10 Rows.fnExactPlaceColumnsRow.domain false) (Rows.fnExactPlaceColumnsSpec.post enc Try.prog Try.f10 false true false false) := by
  refine returnsInHanded_of_change (C := Try.checked) own started (by kernel_rfl) Try.func10
    (ChangeSpec.witness6 (enc := enc) (C := Try.checked) false ⟨#[], #[.slice none 0 0, .int .i64 0], []⟩ 8 (by kernel_rfl) (by kernel_rfl) (by kernel_rfl) (by kernel_rfl)) ?_
  intro W base args ds gs before hval0 hW hcnd _
  have hval : ∀ (j : Nat) t v, Try.f10.params[j]? = some t → args[j]? = some v → Value.okWide Try.prog W .any base t v := hval0
  have hW' := hW
  obtain ⟨p, q, hA0, hV, rfl, hfz, hnd⟩ := hW
  have hA : DataW.TrodAll enc Try.prog W 0 (fun _ => true) true Try.f10.params.toList args.toList ds p := hA0
  rw [Try.params10] at hA hval
  obtain ⟨v0, vs0, d0, ds0, p0, q0, hargs, rfl, rfl, h0, r0⟩ := trodAll_cons hA
  obtain ⟨v1, vs1, d1, ds1, p1, q1, rfl, rfl, rfl, h1, r1⟩ := trodAll_cons r0
  obtain ⟨rfl, rfl, rfl⟩ := trodAll_nil r1
  obtain rfl : args = #[v0, v1] := by cases args; simp_all
  obtain ⟨rfl, rfl⟩ := trodVars_none hV
  have hpost : ∀ W', Below W.heap.size W W' → Rows.fnExactPlaceColumnsSpec.post enc Try.prog Try.f10 false true false false W #[v0, v1] (.bool true) W' := fun W' hb =>
    law_post laidOut readable resT Try.underlying4 rfl rfl hW' hb
  have hz : ∀ b off, MemPlace.cell b off ∈ p0 ++ (p1 ++ []) → W.frozen? ⟨b, off, none⟩ = false := fun b off hm => hfz b off (by simpa using hm)
  clear hW' hA0 hval0 hcnd hnd hV hA
  obtain ⟨xs0, hs0⟩ := open_Ints Try.underlying43 Try.underlying2 (by kernel_rfl) (hval 0 43 v0 rfl rfl) h0 (fun b off hm => hz b off (by simp [hm]))
  obtain ⟨a1, rfl, -, -, w1⟩ := open_int Try.underlying2 (hval 1 2 v1 rfl rfl) h1
  refine (walk W v0 xs0 hs0 a1 (I64.of_wf w1)).mono fun e W' ⟨he, hg⟩ => ?_
  subst he
  exact ⟨_, rfl, hpost W' hg⟩
theorem over : Rows.fnExactPlaceColumnsRow.holds Try.pinned (OpenSpec.ofChange Rows.fnExactPlaceColumnsSpec) :=
  OpenClaim.holds_of_wide 10 Try.f10 rfl rfl rfl rfl rfl rfl rfl ⟨rfl, rfl, rfl, rfl, rfl⟩ rfl rfl rfl rfl rfl (by kernel_rfl) Try.func10 (by kernel_rfl)
    (of_decide_eq_true (by kernel_rfl)) (by unfold Func.isWrapper; first | (rw [if_pos (by decide +kernel)]; kernel_rfl) | (rw [if_neg (by decide +kernel)]; exact ⟨rfl, rfl⟩))
    (fun os started H enc _ => lifted os started H enc)
theorem proved : Rows.FnExactPlaceColumnsSaid :=
  over
end Go.Proofs.Ytaemcjakmeibjaa.fnExactPlaceColumns
