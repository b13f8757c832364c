/- Racking: the program's needles in order. No condition. Racking: the program's Index of needles; the list on a needle. No condition. Racking: the program's events of one step. No condition. -/
import Derived.Test.YtchfjglofmphfaaRB8
import Derived.Test.YtchfjglofmphfaaMacX
import Derived.Deep.DeepCutAuto
import Derived.Laws.StructEq
import Derived.Deep.RegionLaw
import Derived.Deep.RegionHeld3
section
set_option linter.unusedSimpArgs false
set_option linter.unusedVariables false
set_option maxRecDepth 100000
set_option maxHeartbeats 4000000
namespace Go.Proofs.Ytchfjglofmphfaa
open Go.ChangeShapes Go.WideShapes Go.ChangeAt Go.RowKit
theorem needles_any (w : World) (bm N : Nat) (hN : 1 ≤ N ∧ N ≤ 24) (r : Int) (hr : -3 ≤ r ∧ r ≤ 3) (q0 : w.cell? ⟨bm, 0, none⟩ = some (.int .i64 N)) (q1 : w.cell? ⟨bm, 1, none⟩ = some (.int .i64 r)) :
    Calls Try.prog 166 #[.pointer (some ⟨bm, 0, none⟩)] w fun e w' => ∃ v, e = .returned v ∧ OwnNds w' w.heap.size v (needlesM N r) ∧ Up w w' := by
  have Q0 := Lib.hid q0
  have Q1 := Lib.hid q1
  have HL : Hid (∀ j, (onPl (gO N r) (-3) j).length ≤ 2 * j) := Lib.hid (onPl_length (fun x => by unfold gO; rw [List.length_append]; have := gF_length N x; have := gB_length N (x - r); omega))
  clear q0 q1
  go_enter Try.func166, Try.ntmps166
  go_wp2
  go_loopw [3, 4] (fun v i wr => ∃ j : Nat, j ≤ N + 6 ∧ i = .int .i64 ((j : Int) - 3) ∧ Hid (OwnNds wr w.heap.size v (onPl (gO N r) (-3) j)) ∧ Hid (Up w wr)) (fun _ i _ => (N + 3 - intOf i).toNat)
  case atStart => exact ⟨0, by omega, by simp, OwnNds.made w _ (Nat.le_refl _), (Chg.refl _ _).alloc _⟩
  case round =>
    obtain ⟨j, hj, rfl, ho, hu⟩ := hrel
    have q0 := Chg.cell hu.out Q0.out id
    have q1 := Chg.cell hu.out Q1.out id
    have hsz := hu.out.size
    have hl := HL.out j
    obtain ⟨x, hx⟩ : ∃ x, x = (j : Int) - 3 := ⟨_, rfl⟩
    have HX := Lib.hid hx
    rw [← hx]
    have HXB : Hid (-3 ≤ x ∧ x ≤ 27) := Lib.hid (by omega)
    by_cases hlt : j < N + 6
    · have hxl : x < (N : Int) + 3 := by omega
      have HS := Lib.hid (show onPl (gO N r) (-3) (j + 1) = onPl (gO N r) (-3) j ++ (gF N x ++ gB N (x - r)) by rw [onPl, gO, show (-3 : Int) + j = x by omega])
      have hxb := HXB.out
      clear hx
      by_cases hf : 0 ≤ x ∧ x < N
      · have HF := Lib.hid (inB_yes (n := x) (lo := 0) (hi := (N : Int) - 1) (by omega))
        have HG1 := Lib.hid (show gF N x = [(⟨1, x⟩ : NdM)] by unfold gF; rw [if_pos hf])
        by_cases hb : 0 ≤ x - r ∧ x - r < N
        · have HB := Lib.hid (inB_yes (n := x - r) (lo := 0) (hi := (N : Int) - 1) (by omega))
          have HG2 := Lib.hid (show gB N (x - r) = [⟨2, x - r⟩] by unfold gB; rw [if_pos hb])
          clear hf hb
          go_wp2_with fail
          refine (callS (within_any _ _ _ _) HF.out).mono ?_
          rintro e w' ⟨rfl, rfl⟩
          go_upto_region 7 with (at_builtin; refine wp_append1Nds rfl _ _ rfl w.heap.size _ (onPl (gO N r) (-3) j) rfl (ho.out.alloc _) _ ⟨1, x⟩ rfl (heap_alloc_new _ _) (by unfold NdM.ok I64; simp only []; omega) (by omega) (by simp; omega) ?_; intro v1 w1 h1 h2 h3; have HO := Lib.hid h1; have U1 := Lib.hid (Chg.new (hu.out.alloc _) h3 (fun i hi => by omega)); clear h1 h2 h3)
          have p0 := Chg.cell U1.out Q0.out id
          have p1 := Chg.cell U1.out Q1.out id
          skip
          have g0 := up_cell p0
          have g1 := up_cell p1
          refine wp_region_up (by kernel_rfl) (by kernel_rfl) ?_
          repeat (go_big_quiet_step ((first | (go_at_call 69; exact calls_up_same (callS (within_any _ _ _ _) HB.out)))))
          refine wpQuiet_nil ?_
          rintro w2 ⟨u0, hu0⟩
          have gu := hu0 ▸ u0.up
          clear hu0 u0 g0 g1 p0 p1
          have U2 := Lib.hid (show Up w w2 from Chg.trans U1.out (Chg.trans (by repeat (first | exact Chg.refl _ _ | apply Chg.drew | apply Chg.drewN | refine Chg.alloc ?_ _)) gu))
          have HO2 := Lib.hid (HO.out.up (show Up w1 w2 from Chg.trans (by repeat (first | exact Chg.refl _ _ | apply Chg.drew | apply Chg.drewN | refine Chg.alloc ?_ _)) gu))
          have hz2 := U2.out.size
          have p1 := Chg.cell U2.out Q1.out id
          clear gu
          have hll : (onPl (gO N r) (-3) j ++ [(⟨1, x⟩ : NdM)]).length ≤ 1099511627775 := by rw [List.length_append]; simp only [List.length_cons, List.length_nil]; omega
          go_wp2_with (at_builtin; go_loud (refine wp_append1Nds rfl _ _ rfl w.heap.size _ (onPl (gO N r) (-3) j ++ [(⟨1, x⟩ : NdM)]) rfl (HO2.out.alloc _) _ ⟨2, x - r⟩ rfl (heap_alloc_new _ _) (by unfold NdM.ok I64; simp only []; omega) hll (by simp; omega) ?_; intro v3 w3 h1 h2 h3; have HO3 := Lib.hid h1; have U3 := Lib.hid (Chg.new (U2.out.alloc _) h3 (fun i hi => by omega)); clear h1 h2 h3))
          have HE := Lib.hid (show onPl (gO N r) (-3) (j + 1) = onPl (gO N r) (-3) j ++ [(⟨1, x⟩ : NdM)] ++ [(⟨2, x - r⟩ : NdM)] by rw [HS.out, HG1.out, HG2.out]; simp)
          go_roundw
          case rel => exact ⟨j + 1, by omega, by have := HX.out; simp only [Value.int.injEq, true_and]; omega, by show Hid _; rw [HE.out]; exact HO3, U3⟩
          case measure => first | (simp [intOf]; done) | (simp [intOf]; omega)
        · have HB := Lib.hid (inB_no (n := x - r) (lo := 0) (hi := (N : Int) - 1) (by omega))
          have HG2 := Lib.hid (show gB N (x - r) = [] by unfold gB; rw [if_neg hb])
          clear hf hb
          go_wp2_with fail
          refine (callS (within_any _ _ _ _) HF.out).mono ?_
          rintro e w' ⟨rfl, rfl⟩
          go_upto_region 7 with (at_builtin; refine wp_append1Nds rfl _ _ rfl w.heap.size _ (onPl (gO N r) (-3) j) rfl (ho.out.alloc _) _ ⟨1, x⟩ rfl (heap_alloc_new _ _) (by unfold NdM.ok I64; simp only []; omega) (by omega) (by simp; omega) ?_; intro v1 w1 h1 h2 h3; have HO := Lib.hid h1; have U1 := Lib.hid (Chg.new (hu.out.alloc _) h3 (fun i hi => by omega)); clear h1 h2 h3)
          have p0 := Chg.cell U1.out Q0.out id
          have p1 := Chg.cell U1.out Q1.out id
          skip
          have g0 := up_cell p0
          have g1 := up_cell p1
          refine wp_region_up (by kernel_rfl) (by kernel_rfl) ?_
          repeat (go_big_quiet_step ((first | (go_at_call 69; exact calls_up_same (callS (within_any _ _ _ _) HB.out)))))
          refine wpQuiet_nil ?_
          rintro w2 ⟨u0, hu0⟩
          have gu := hu0 ▸ u0.up
          clear hu0 u0 g0 g1 p0 p1
          have U2 := Lib.hid (show Up w w2 from Chg.trans U1.out (Chg.trans (by repeat (first | exact Chg.refl _ _ | apply Chg.drew | apply Chg.drewN | refine Chg.alloc ?_ _)) gu))
          have HO2 := Lib.hid (HO.out.up (show Up w1 w2 from Chg.trans (by repeat (first | exact Chg.refl _ _ | apply Chg.drew | apply Chg.drewN | refine Chg.alloc ?_ _)) gu))
          have hz2 := U2.out.size
          have p1 := Chg.cell U2.out Q1.out id
          clear gu
          go_wp2
          have HE := Lib.hid (show onPl (gO N r) (-3) (j + 1) = onPl (gO N r) (-3) j ++ [(⟨1, x⟩ : NdM)] by rw [HS.out, HG1.out, HG2.out]; simp)
          go_roundw
          case rel => exact ⟨j + 1, by omega, by have := HX.out; simp only [Value.int.injEq, true_and]; omega, by show Hid _; rw [HE.out]; exact HO2, U2⟩
          case measure => first | (simp [intOf]; done) | (simp [intOf]; omega)
      · have HF := Lib.hid (inB_no (n := x) (lo := 0) (hi := (N : Int) - 1) (by omega))
        have HG1 := Lib.hid (show gF N x = [] by unfold gF; rw [if_neg hf])
        by_cases hb : 0 ≤ x - r ∧ x - r < N
        · have HB := Lib.hid (inB_yes (n := x - r) (lo := 0) (hi := (N : Int) - 1) (by omega))
          have HG2 := Lib.hid (show gB N (x - r) = [⟨2, x - r⟩] by unfold gB; rw [if_pos hb])
          clear hf hb
          go_wp2_with fail
          refine (callS (within_any _ _ _ _) HF.out).mono ?_
          rintro e w' ⟨rfl, rfl⟩
          have U1 := Lib.hid hu.out
          have HO := Lib.hid ho.out
          have p0 := Chg.cell U1.out Q0.out id
          have p1 := Chg.cell U1.out Q1.out id
          go_wp2
          have g0 := up_cell p0
          have g1 := up_cell p1
          refine wp_region_up (by kernel_rfl) (by kernel_rfl) ?_
          repeat (go_big_quiet_step ((first | (go_at_call 69; exact calls_up_same (callS (within_any _ _ _ _) HB.out)))))
          refine wpQuiet_nil ?_
          rintro w2 ⟨u0, hu0⟩
          have gu := hu0 ▸ u0.up
          clear hu0 u0 g0 g1 p0 p1
          have U2 := Lib.hid (show Up w w2 from Chg.trans U1.out (Chg.trans (by repeat (first | exact Chg.refl _ _ | apply Chg.drew | apply Chg.drewN | refine Chg.alloc ?_ _)) gu))
          have HO2 := Lib.hid (HO.out.up (show Up wr w2 from Chg.trans (by repeat (first | exact Chg.refl _ _ | apply Chg.drew | apply Chg.drewN | refine Chg.alloc ?_ _)) gu))
          have hz2 := U2.out.size
          have p1 := Chg.cell U2.out Q1.out id
          clear gu
          have hll : (onPl (gO N r) (-3) j).length ≤ 1099511627775 := by omega
          go_wp2_with (at_builtin; go_loud (refine wp_append1Nds rfl _ _ rfl w.heap.size _ (onPl (gO N r) (-3) j) rfl (HO2.out.alloc _) _ ⟨2, x - r⟩ rfl (heap_alloc_new _ _) (by unfold NdM.ok I64; simp only []; omega) hll (by simp; omega) ?_; intro v3 w3 h1 h2 h3; have HO3 := Lib.hid h1; have U3 := Lib.hid (Chg.new (U2.out.alloc _) h3 (fun i hi => by omega)); clear h1 h2 h3))
          have HE := Lib.hid (show onPl (gO N r) (-3) (j + 1) = onPl (gO N r) (-3) j ++ [(⟨2, x - r⟩ : NdM)] by rw [HS.out, HG1.out, HG2.out]; simp)
          go_roundw
          case rel => exact ⟨j + 1, by omega, by have := HX.out; simp only [Value.int.injEq, true_and]; omega, by show Hid _; rw [HE.out]; exact HO3, U3⟩
          case measure => first | (simp [intOf]; done) | (simp [intOf]; omega)
        · have HB := Lib.hid (inB_no (n := x - r) (lo := 0) (hi := (N : Int) - 1) (by omega))
          have HG2 := Lib.hid (show gB N (x - r) = [] by unfold gB; rw [if_neg hb])
          clear hf hb
          go_wp2_with fail
          refine (callS (within_any _ _ _ _) HF.out).mono ?_
          rintro e w' ⟨rfl, rfl⟩
          have U1 := Lib.hid hu.out
          have HO := Lib.hid ho.out
          have p0 := Chg.cell U1.out Q0.out id
          have p1 := Chg.cell U1.out Q1.out id
          go_wp2
          have g0 := up_cell p0
          have g1 := up_cell p1
          refine wp_region_up (by kernel_rfl) (by kernel_rfl) ?_
          repeat (go_big_quiet_step ((first | (go_at_call 69; exact calls_up_same (callS (within_any _ _ _ _) HB.out)))))
          refine wpQuiet_nil ?_
          rintro w2 ⟨u0, hu0⟩
          have gu := hu0 ▸ u0.up
          clear hu0 u0 g0 g1 p0 p1
          have U2 := Lib.hid (show Up w w2 from Chg.trans U1.out (Chg.trans (by repeat (first | exact Chg.refl _ _ | apply Chg.drew | apply Chg.drewN | refine Chg.alloc ?_ _)) gu))
          have HO2 := Lib.hid (HO.out.up (show Up wr w2 from Chg.trans (by repeat (first | exact Chg.refl _ _ | apply Chg.drew | apply Chg.drewN | refine Chg.alloc ?_ _)) gu))
          have hz2 := U2.out.size
          have p1 := Chg.cell U2.out Q1.out id
          clear gu
          go_wp2
          have HE := Lib.hid (show onPl (gO N r) (-3) (j + 1) = onPl (gO N r) (-3) j by rw [HS.out, HG1.out, HG2.out]; simp)
          go_roundw
          case rel => exact ⟨j + 1, by omega, by have := HX.out; simp only [Value.int.injEq, true_and]; omega, by show Hid _; rw [HE.out]; exact HO2, U2⟩
          case measure => first | (simp [intOf]; done) | (simp [intOf]; omega)
    · obtain rfl : j = N + 6 := by omega
      have hxl : ¬ x < (N : Int) + 3 := by omega
      clear hx
      go_wp2
      go_ret
      exact ⟨_, rfl, ho.out, hu.out⟩
end Go.Proofs.Ytchfjglofmphfaa
end
section
set_option linter.unusedSimpArgs false
set_option linter.unusedVariables false
set_option maxRecDepth 100000
set_option maxHeartbeats 4000000
namespace Go.Proofs.Ytchfjglofmphfaa
open Go.ChangeShapes Go.WideShapes Go.ChangeAt Go.RowKit
def ndEq (x y : NdM) : Bool := decide (x.bd = y.bd) && decide (x.at_ = y.at_)
theorem ndEql (w : World) (x y : NdM) : (binOp .eql 102 x.val y.val).run Try.prog w = .ok (.bool (ndEq x y)) w := by
  rw [run_eql_struct]
  unfold ndEq
  by_cases h0 : x.bd = y.bd
  rotate_left
  · simp [go_sem, Program.fieldsOf, Try.underlying102, Op.eqFields, h0]
  by_cases h1 : x.at_ = y.at_
  rotate_left
  · simp [go_sem, Program.fieldsOf, Try.underlying102, Op.eqFields, h0, h1]
  simp [go_sem, Program.fieldsOf, Try.underlying102, Op.eqFields, h0, h1]
theorem ndNeq (w : World) (x y : NdM) : (binOp .neq 102 x.val y.val).run Try.prog w = .ok (.bool (!ndEq x y)) w := by
  rw [run_neq_struct]
  unfold ndEq
  by_cases h0 : x.bd = y.bd
  rotate_left
  · simp [go_sem, Program.fieldsOf, Try.underlying102, Op.eqFields, h0]
  by_cases h1 : x.at_ = y.at_
  rotate_left
  · simp [go_sem, Program.fieldsOf, Try.underlying102, Op.eqFields, h0, h1]
  simp [go_sem, Program.fieldsOf, Try.underlying102, Op.eqFields, h0, h1]
theorem nIndex_at (w : World) (S : Nat → Prop) (v : Value) (A B : List NdM) (x : NdM) (h : Nds w S v (A ++ x :: B)) (hx : ∀ y ∈ A, ndEq x y = false) :
    Calls Try.prog 167 #[v, .agg #[.int .i64 x.bd, .int .i64 x.at_]] w fun e w' => e = .returned (.int .i64 A.length) ∧ Up w w' := by
  obtain ⟨L, hL⟩ : ∃ L, L = A ++ x :: B := ⟨_, rfl⟩
  rw [← hL] at h
  have hAL : A.length < L.length := by rw [hL]; simp
  have hat : L[A.length] = x := by simp [hL]
  have hlt' : ∀ j (hj : j < A.length), ndEq x (L[j]'(by omega)) = false := fun j hj => by
    have : L[j]'(by omega) = A[j] := by simp [hL, List.getElem_append_left hj]
    rw [this]; exact hx _ (List.getElem_mem hj)
  have HAT := Lib.hid hat
  have HLT := Lib.hid hlt'
  clear hat hlt' hx hL
  obtain ⟨A1, c, rfl, hlc, hcm, -⟩ := h.shape
  have H := Lib.hid h
  have HB0 := Lib.hid (show (w.alloc (.cells #[.int .i64 x.bd, .int .i64 x.at_] 102)).cell? ⟨w.heap.size, 0, none⟩ = some (.int .i64 x.bd) from cell_new _ _ _ _)
  have HB1 := Lib.hid (show (w.alloc (.cells #[.int .i64 x.bd, .int .i64 x.at_] 102)).cell? ⟨w.heap.size, 1, none⟩ = some (.int .i64 x.at_) from cell_new _ _ _ _)
  clear h
  go_enter Try.func167, Try.ntmps167
  go_wp2
  go_loopw [5, 8] (fun _ i wr => ∃ j : Nat, j ≤ A.length ∧ i = .int .i64 j ∧ Hid (Up (w.alloc (.cells #[.int .i64 x.bd, .int .i64 x.at_] 102)) wr)) (fun _ i _ => L.length - (intOf i).toNat)
  case atStart => exact ⟨0, by omega, rfl, (by repeat (first | exact Chg.refl _ _ | apply Chg.drew | apply Chg.drewN | refine Chg.alloc ?_ _))⟩
  case round =>
    obtain ⟨j, hj, rfl, hu⟩ := hrel
    have U2 := Lib.hid (Chg.trans ((Chg.refl Nowhere w).alloc (.cells #[.int .i64 x.bd, .int .i64 x.at_] 102)) hu.out)
    have b0 := Chg.cell hu.out HB0.out id
    have b1 := Chg.cell hu.out HB1.out id
    have hjl : j < L.length := by omega
    obtain ⟨bb, o, c', he1, -, -, hc⟩ := (H.out.up U2.out).at_ hjl
    obtain ⟨rfl, rfl⟩ : A1 = some ⟨bb, o, none⟩ ∧ c = c' := by simpa using he1
    have f0 := (hc 0 _ rfl).1
    have f1 := (hc 1 _ rfl).1
    rw [Nat.add_zero] at f0
    have i1 : (j : Int) < (L.length : Int) := by omega
    clear hc he1
    by_cases hlt : j < A.length
    · have heq : ∀ W : World, (binOp .eql 102 (.agg #[.int .i64 x.bd, .int .i64 x.at_]) (.agg #[.int .i64 L[j].bd, .int .i64 L[j].at_])).run Try.prog W = .ok (.bool false) W := fun W => (ndEql W x L[j]).trans (by rw [HLT.out j hlt])
      go_wp2_with fail
      go_quiet (fail)
      go_wp2
      go_roundw
      case rel => exact ⟨j + 1, by omega, by go_num, Lib.hid (Chg.trans hu.out (by repeat (first | exact Chg.refl _ _ | apply Chg.drew | apply Chg.drewN | refine Chg.alloc ?_ _)))⟩
      case measure => first | (simp [intOf]; done) | (simp [intOf]; omega)
    · obtain rfl : j = A.length := by omega
      have heq : ∀ W : World, (binOp .eql 102 (.agg #[.int .i64 x.bd, .int .i64 x.at_]) (.agg #[.int .i64 L[A.length].bd, .int .i64 L[A.length].at_])).run Try.prog W = .ok (.bool true) W := fun W => (ndEql W x L[A.length]).trans (by rw [HAT.out]; simp [ndEq])
      go_wp2_with fail
      go_quiet (fail)
      go_wp2
      go_ret
      exact ⟨rfl, Chg.trans U2.out (by repeat (first | exact Chg.refl _ _ | apply Chg.drew | apply Chg.drewN | refine Chg.alloc ?_ _))⟩
theorem on_front (w : World) (M H L : Nat → Prop) (bm : Nat) (xss : List (List Int)) (b3 o3 c : Nat) (q : w.cell? ⟨bm, 2, none⟩ = some (.slice (some ⟨b3, o3, none⟩) xss.length c)) (k : Nat) (hk : k < xss.length) :
    Calls Try.prog 168 #[.pointer (some ⟨bm, 0, none⟩), .agg #[.int .i64 1, .int .i64 k]] w fun e w' => e = .returned (.pointer (some ⟨b3, o3 + k, none⟩)) ∧ Up w w' := by
  have b0 := (show (w.alloc (.cells #[.int .i64 1, .int .i64 k] 102)).cell? ⟨w.heap.size, 0, none⟩ = some (.int .i64 1) from cell_new _ _ _ _)
  have b1 := (show (w.alloc (.cells #[.int .i64 1, .int .i64 k] 102)).cell? ⟨w.heap.size, 1, none⟩ = some (.int .i64 k) from cell_new _ _ _ _)
  have q' := Chg.cell ((Chg.refl Nowhere w).alloc (.cells #[.int .i64 1, .int .i64 k] 102)) q id
  have i1 : (k : Int) < (xss.length : Int) := by omega
  clear q
  go_enter Try.func168, Try.ntmps168
  go_wp2_with fail
  go_quiet (fail)
  go_wp2
  go_ret
  exact ⟨rfl, (by repeat (first | exact Chg.refl _ _ | apply Chg.drew | apply Chg.drewN | refine Chg.alloc ?_ _))⟩
theorem on_back (w : World) (M H L : Nat → Prop) (bm : Nat) (xss : List (List Int)) (b3 o3 c : Nat) (q : w.cell? ⟨bm, 3, none⟩ = some (.slice (some ⟨b3, o3, none⟩) xss.length c)) (k : Nat) (hk : k < xss.length) :
    Calls Try.prog 168 #[.pointer (some ⟨bm, 0, none⟩), .agg #[.int .i64 2, .int .i64 k]] w fun e w' => e = .returned (.pointer (some ⟨b3, o3 + k, none⟩)) ∧ Up w w' := by
  have b0 := (show (w.alloc (.cells #[.int .i64 2, .int .i64 k] 102)).cell? ⟨w.heap.size, 0, none⟩ = some (.int .i64 2) from cell_new _ _ _ _)
  have b1 := (show (w.alloc (.cells #[.int .i64 2, .int .i64 k] 102)).cell? ⟨w.heap.size, 1, none⟩ = some (.int .i64 k) from cell_new _ _ _ _)
  have q' := Chg.cell ((Chg.refl Nowhere w).alloc (.cells #[.int .i64 2, .int .i64 k] 102)) q id
  have i1 : (k : Int) < (xss.length : Int) := by omega
  clear q
  go_enter Try.func168, Try.ntmps168
  go_wp2_with fail
  go_quiet (fail)
  go_wp2
  go_ret
  exact ⟨rfl, (by repeat (first | exact Chg.refl _ _ | apply Chg.drew | apply Chg.drewN | refine Chg.alloc ?_ _))⟩
end Go.Proofs.Ytchfjglofmphfaa
end
section
set_option linter.unusedSimpArgs false
set_option linter.unusedVariables false
set_option maxRecDepth 100000
set_option maxHeartbeats 4000000
namespace Go.Proofs.Ytchfjglofmphfaa
open Go.ChangeShapes Go.WideShapes Go.ChangeAt Go.RowKit
/-- the cells of a row of needles, to be read and written -/
def NdC (w : World) (g : Nat) (L : List NdM) : Prop := ∀ j (h : j < L.length), (w.cell? ⟨g, j * 2, none⟩ = some (.int .i64 L[j].bd) ∧ w.frozen? ⟨g, j * 2, none⟩ = false) ∧ (w.cell? ⟨g, j * 2 + 1, none⟩ = some (.int .i64 L[j].at_) ∧ w.frozen? ⟨g, j * 2 + 1, none⟩ = false)
theorem NdC.keep {w w' : World} {g : Nat} {L : List NdM} {T : Nat → Prop} (h : NdC w g L) (k : Chg T w w') (hg : ¬ T g) : NdC w' g L := fun j hj => by
  obtain ⟨⟨h1, h2⟩, h3, h4⟩ := h j hj
  exact ⟨⟨k.cell h1 hg, (k.frozen h1 hg).trans h2⟩, k.cell h3 hg, (k.frozen h3 hg).trans h4⟩
theorem NdC.up {w w' : World} {g : Nat} {L : List NdM} (h : NdC w g L) (k : Up w w') : NdC w' g L := h.keep k id
theorem Nds.cells {w : World} {S : Nat → Prop} {g c n : Nat} {L : List NdM} (h : Nds w S (.slice (some ⟨g, 0, none⟩) n c) L) : NdC w g L := fun j hj => by
  obtain ⟨b, o, c', he, -, -, hc⟩ := h.at_ hj
  simp only [Value.slice.injEq, Option.some.injEq, Addr.mk.injEq, and_true] at he
  obtain ⟨⟨rfl, rfl⟩, -, -⟩ := he
  have h0 := hc 0 _ rfl
  have h1 := hc 1 _ rfl
  simp only [Nat.zero_add, Nat.add_zero] at h0 h1
  exact ⟨h0, h1⟩
theorem getElem_pairs {L : List NdM} : ∀ (t : Nat) (h : t < (L.flatMap NdM.cells).length), ∃ (j : Nat) (hj : j < L.length), (t = j * 2 ∧ (L.flatMap NdM.cells)[t] = .int .i64 L[j].bd) ∨ (t = j * 2 + 1 ∧ (L.flatMap NdM.cells)[t] = .int .i64 L[j].at_) := by
  induction L with
  | nil => intro t h; simp at h
  | cons x r ih =>
    intro t h
    match t, h with
    | 0, _ => exact ⟨0, by simp, .inl ⟨rfl, rfl⟩⟩
    | 1, _ => exact ⟨0, by simp, .inr ⟨rfl, rfl⟩⟩
    | t + 2, h =>
      have h' : t < (r.flatMap NdM.cells).length := by
        simp only [List.flatMap_cons, List.length_append] at h
        have : x.cells.length = 2 := rfl
        omega
      have e : ((x :: r).flatMap NdM.cells)[t + 2] = (r.flatMap NdM.cells)[t] := by
        simp [List.flatMap_cons, NdM.cells]
      obtain ⟨j, hj, hh⟩ := ih t h'
      refine ⟨j + 1, by simpa using hj, ?_⟩
      rcases hh with ⟨h1, h2⟩ | ⟨h1, h2⟩
      · exact .inl ⟨by omega, by rw [e, h2]; simp⟩
      · exact .inr ⟨by omega, by rw [e, h2]; simp⟩
theorem NdC.nds {w : World} {g c n : Nat} {L : List NdM} (h : NdC w g L) (hn : L.length = n) (hg : g < w.heap.size) (hc : n ≤ c) (hm : c ≤ 9223372036854775807) (hok : ∀ y ∈ L, y.ok) : Nds w (fun b => b = g) (.slice (some ⟨g, 0, none⟩) n c) L := by
  subst hn
  have hlen : (L.flatMap NdM.cells).length = L.length * 2 := by
    clear h hc hok
    induction L with
    | nil => rfl
    | cons x r ih => simp only [List.flatMap_cons, List.length_append, List.length_cons, ih]; show 2 + _ = _; omega
  refine ⟨Raw.of_cells rfl hg hlen hc hm fun t ht => ?_, hok⟩
  obtain ⟨j, hj, ⟨rfl, e⟩ | ⟨rfl, e⟩⟩ := getElem_pairs t ht
  · rw [e]; exact (h j hj).1
  · rw [e]; exact (h j hj).2
theorem lenI {α : Type} (A B : List α) : (A ++ B).length = A.length + B.length := List.length_append
theorem ordU_len {N : Nat} (r : Int) : ∀ i, i ≤ N → (ordU N r i).length = (needlesM N r).length
  | 0, _ => by rw [ordU_start]
  | i + 1, h => by
    rw [← ordU_len r i (by omega), ordU_next r (by omega : i < N), ordU_at r (by omega : i < N)]
    simp only [List.length_append, List.length_cons]
    omega
theorem ordD_len {N : Nat} (r : Int) : ∀ i, i ≤ N → (ordD N r i).length = (needlesM N r).length
  | 0, _ => by rw [ordD_start]
  | i + 1, h => by
    have e : restO N r i = gB N (i - r) ++ onPl (gO N r) (i + 1) (N + 2 - i) := rfl
    rw [← ordD_len r i (by omega), ordD_next r (by omega : i < N), ordD_at r (by omega : i < N), e]
    simp only [List.length_append, List.length_cons]
    omega
theorem needlesM_len (N : Nat) (r : Int) : (needlesM N r).length ≤ 2 * (N + 6) := onPl_length (fun x => by
  unfold gO
  rw [List.length_append]
  have := gF_length N x
  have := gB_length N (x - r)
  omega) _
/-- two neighbours change places -/
theorem NdC.swap {w w' : World} {g : Nat} {A R : List NdM} {x y : NdM} (h : NdC w g (A ++ x :: y :: R))
    (h1 : ∀ t, t ≠ A.length * 2 → t ≠ A.length * 2 + 1 → t ≠ A.length * 2 + 2 → t ≠ A.length * 2 + 3 → w'.cell? ⟨g, t, none⟩ = w.cell? ⟨g, t, none⟩)
    (hf : ∀ t, w'.frozen? ⟨g, t, none⟩ = w.frozen? ⟨g, t, none⟩)
    (k0 : w'.cell? ⟨g, A.length * 2, none⟩ = some (.int .i64 y.bd)) (k1 : w'.cell? ⟨g, A.length * 2 + 1, none⟩ = some (.int .i64 y.at_))
    (k2 : w'.cell? ⟨g, A.length * 2 + 2, none⟩ = some (.int .i64 x.bd)) (k3 : w'.cell? ⟨g, A.length * 2 + 3, none⟩ = some (.int .i64 x.at_)) : NdC w' g (A ++ y :: x :: R) := fun j hj => by
  have hj' : j < (A ++ x :: y :: R).length := by simpa using hj
  obtain ⟨⟨c1, c2⟩, c3, c4⟩ := h j hj'
  rw [hf, hf]
  refine ⟨⟨?_, c2⟩, ?_, c4⟩
  · by_cases e0 : j = A.length
    · subst e0; rw [k0]; simp
    · by_cases e1 : j = A.length + 1
      · subst e1
        rw [show (A.length + 1) * 2 = A.length * 2 + 2 by omega, k2]
        simp [List.getElem_append_right]
      · rw [h1 _ (by omega) (by omega) (by omega) (by omega), c1]
        congr 2
        by_cases c : j < A.length
        · simp [List.getElem_append_left c]
        · obtain ⟨t, rfl⟩ : ∃ t, j = A.length + (t + 2) := ⟨j - A.length - 2, by omega⟩
          simp [List.getElem_append_right]
  · by_cases e0 : j = A.length
    · subst e0; rw [k1]; simp
    · by_cases e1 : j = A.length + 1
      · subst e1
        rw [show (A.length + 1) * 2 + 1 = A.length * 2 + 3 by omega, k3]
        simp [List.getElem_append_right]
      · rw [h1 _ (by omega) (by omega) (by omega) (by omega), c3]
        congr 2
        by_cases c : j < A.length
        · simp [List.getElem_append_left c]
        · obtain ⟨t, rfl⟩ : ∃ t, j = A.length + (t + 2) := ⟨j - A.length - 2, by omega⟩
          simp [List.getElem_append_right]
def NdM.vld (N : Nat) (y : NdM) : Prop := (y.bd = 1 ∨ y.bd = 2) ∧ 0 ≤ y.at_ ∧ y.at_ < N
theorem ndEq_no {x y : NdM} (h : x.bd ≠ y.bd ∨ x.at_ ≠ y.at_) : ndEq x y = false := by
  unfold ndEq
  rcases h with h | h
  · simp [h]
  · simp [h]
theorem ndEq_yes (x : NdM) : ndEq x x = true := by simp [ndEq]
/-- what a round of a step does to the order -/
structure OrdR (p : MacM) (N j : Nat) (K : Int) (O O' : List NdM) (up : Bool) (A R : List NdM) : Prop where
  a : ∀ y ∈ A, y.vld N
  r : ∀ y ∈ R, y.vld N
  ne : ∀ y ∈ A, ndEq ⟨1, j⟩ y = false
  sum : (sumN p A : Int) = befM p j K
  yes : 0 ≤ K ∧ K < N → (up = true → O = A ++ ⟨2, K⟩ :: ⟨1, j⟩ :: R ∧ O' = A ++ ⟨1, j⟩ :: ⟨2, K⟩ :: R) ∧ (up = false → O = A ++ ⟨1, j⟩ :: ⟨2, K⟩ :: R ∧ O' = A ++ ⟨2, K⟩ :: ⟨1, j⟩ :: R)
  no : ¬ (0 ≤ K ∧ K < N) → O = A ++ ⟨1, j⟩ :: R ∧ O' = O
theorem vld_preU {N i : Nat} {r : Int} : ∀ y ∈ preU N r i, y.vld N := fun y hy => by
  rcases mem_preU hy with ⟨h1, h2, h3, h4⟩ | ⟨h1, h2, h3, h4⟩
  · exact ⟨.inl h1, h2, h4⟩
  · exact ⟨.inr h1, h2, h3⟩
theorem vld_preD {N i : Nat} {r : Int} : ∀ y ∈ preD N r i, y.vld N := fun y hy => by
  rcases mem_preD hy with ⟨h1, h2, h3, h4⟩ | ⟨h1, h2, h3, h4⟩
  · exact ⟨.inl h1, h2, h4⟩
  · exact ⟨.inr h1, h2, h3⟩
theorem vld_restO {N i : Nat} {r : Int} : ∀ y ∈ restO N r i, y.vld N := fun y hy => by
  rcases mem_restO hy with ⟨h1, h2, h3⟩ | ⟨h1, h2, h3, h4⟩
  · exact ⟨.inl h1, by omega, h3⟩
  · exact ⟨.inr h1, h2, h3⟩
theorem ne_preU {N i : Nat} {r : Int} : ∀ y ∈ preU N r i, ndEq ⟨1, i⟩ y = false := fun y hy => by
  rcases mem_preU hy with ⟨h1, h2, h3, h4⟩ | ⟨h1, h2, h3, h4⟩
  · exact ndEq_no (.inr (by show (i : Int) ≠ _; omega))
  · exact ndEq_no (.inl (by show (1 : Int) ≠ _; omega))
theorem ne_preD {N i : Nat} {r : Int} : ∀ y ∈ preD N r i, ndEq ⟨1, i⟩ y = false := fun y hy => by
  rcases mem_preD hy with ⟨h1, h2, h3, h4⟩ | ⟨h1, h2, h3, h4⟩
  · exact ndEq_no (.inr (by show (i : Int) ≠ _; omega))
  · exact ndEq_no (.inl (by show (1 : Int) ≠ _; omega))
theorem ordU_R {p : MacM} {N j : Nat} (h1 : p.fr.length = N) (h2 : p.bk.length = N) {r : Int} (hr : -3 ≤ r) (hj : j < N) : ∃ A R, OrdR p N j ((j : Int) - r - 1) (ordU N r j) (ordU N r (j + 1)) true A R :=
  ⟨preU N r j, restO N r j, vld_preU, vld_restO, ne_preU, by rw [sum_preU h1 h2 hr]; congr 1; omega, fun hk => ⟨fun _ => by
    rw [ordU_at r hj, ordU_next r hj, gB_at (k := (j : Int) - 1 - r) (by omega), show (j : Int) - 1 - r = (j : Int) - r - 1 by omega]
    exact ⟨rfl, rfl⟩, fun h => (by cases h)⟩, fun hk => by
    rw [ordU_at r hj, ordU_next r hj, gB_no (k := (j : Int) - 1 - r) (by omega)]
    exact ⟨rfl, rfl⟩⟩
theorem ordD_R {p : MacM} {N j : Nat} (h1 : p.fr.length = N) (h2 : p.bk.length = N) {r : Int} (hr : -3 ≤ r) (hj : j < N) : ∃ A R, OrdR p N j ((j : Int) - r) (ordD N r j) (ordD N r (j + 1)) false A R := by
  have e : restO N r j = gB N (j - r) ++ onPl (gO N r) (j + 1) (N + 2 - j) := rfl
  have hv : ∀ y ∈ onPl (gO N r) (j + 1) (N + 2 - j), y.vld N := fun y hy => vld_restO y (by rw [e]; exact List.mem_append_right _ hy)
  refine ⟨preD N r j, onPl (gO N r) (j + 1) (N + 2 - j), vld_preD, hv, ne_preD, sum_preD h1 h2 hr j, fun hk => ⟨fun h => (by cases h), fun _ => ?_⟩, fun hk => ?_⟩
  · rw [ordD_at r hj, ordD_next r hj, e, gB_at hk]
    exact ⟨rfl, rfl⟩
  · rw [ordD_at r hj, ordD_next r hj, e, gB_no hk]
    exact ⟨rfl, rfl⟩
/-- 'on' at any needle: what the cell that it points to holds -/
theorem onN_any (w : World) (M H L : Nat → Prop) (bm : Nat) (p : MacM) (hp : FewM p) (r : Int) (A0 A1 : Option Addr) (c0 c1 : Nat) (q0 : w.cell? ⟨bm, 0, none⟩ = some (.int .i64 p.wd)) (q1 : w.cell? ⟨bm, 1, none⟩ = some (.int .i64 r)) (q2 : w.cell? ⟨bm, 2, none⟩ = some (.slice A0 p.fr.length c0)) (q3 : w.cell? ⟨bm, 3, none⟩ = some (.slice A1 p.bk.length c1)) (h0 : IntSSV w M H L (.slice A0 p.fr.length c0) p.fr) (h1 : IntSSV w M H L (.slice A1 p.bk.length c1) p.bk) (y : NdM) (hy : y.vld p.fr.length) :
    Calls Try.prog 168 #[.pointer (some ⟨bm, 0, none⟩), .agg #[.int .i64 y.bd, .int .i64 y.at_]] w fun e w' => ∃ b o, e = .returned (.pointer (some ⟨b, o, none⟩)) ∧ (∃ A k, w'.cell? ⟨b, o, none⟩ = some (.slice A (lenN p y) k)) ∧ Up w w' := by
  obtain ⟨hb, h2, h3⟩ := hy
  obtain ⟨kk, hkk⟩ : ∃ kk : Nat, y.at_ = kk := ⟨y.at_.toNat, by omega⟩
  rw [hkk]
  have hkf : kk < p.fr.length := by omega
  have hkb : kk < p.bk.length := by have := hp.n2; omega
  rcases hb with hb | hb
  · have e : lenN p y = p.fr[kk].length := by unfold lenN lenF; rw [if_neg (by omega), hkk, Int.toNat_natCast, getD_eq hkf]
    rw [hb, e]
    obtain ⟨b3, o3, c3', vs3, he3, -, -, -, hE3, hc3⟩ := h0.at_ hkf
    obtain ⟨rfl, rfl⟩ : A0 = some ⟨b3, o3, none⟩ ∧ c0 = c3' := by simpa using he3
    obtain ⟨A7, k7, rfl, -, -, -⟩ := hE3.val
    have e1 := (hc3 0 _ rfl).1
    simp only [Nat.mul_one, Nat.add_zero] at e1
    refine (on_front w M H L bm p.fr b3 o3 c0 q2 kk hkf).mono ?_
    rintro e w' ⟨rfl, g⟩
    exact ⟨_, _, rfl, ⟨_, _, Chg.cell g e1 id⟩, g⟩
  · have e : lenN p y = p.bk[kk].length := by unfold lenN lenB; rw [if_pos hb, hkk, Int.toNat_natCast, getD_eq hkb]
    rw [hb, e]
    obtain ⟨b3, o3, c3', vs3, he3, -, -, -, hE3, hc3⟩ := h1.at_ hkb
    obtain ⟨rfl, rfl⟩ : A1 = some ⟨b3, o3, none⟩ ∧ c1 = c3' := by simpa using he3
    obtain ⟨A7, k7, rfl, -, -, -⟩ := hE3.val
    have e1 := (hc3 0 _ rfl).1
    simp only [Nat.mul_one, Nat.add_zero] at e1
    refine (on_back w M H L bm p.bk b3 o3 c1 q3 kk hkb).mono ?_
    rintro e w' ⟨rfl, g⟩
    exact ⟨_, _, rfl, ⟨_, _, Chg.cell g e1 id⟩, g⟩
theorem vld_ok {N : Nat} (hN : N ≤ 24) {y : NdM} (h : y.vld N) : y.ok := by
  obtain ⟨h1, h2, h3⟩ := h
  unfold NdM.ok I64
  omega
theorem ndEq_vld {N : Nat} {y : NdM} {b K : Int} (h : y.vld N) (hk : ¬ (0 ≤ K ∧ K < N)) : ndEq y ⟨b, K⟩ = false := by
  obtain ⟨h1, h2, h3⟩ := h
  exact ndEq_no (.inr (by show y.at_ ≠ K; omega))
theorem cell_new2 (w : World) (a : Obj) (vs : Array Value) (t : TypeId) (i : Nat) : ((w.alloc a).alloc (.cells vs t)).cell? ⟨w.heap.size + 1, i, none⟩ = vs[i]? := by
  have h := cell_new (w.alloc a) vs t i
  rwa [show (w.alloc a).heap.size = w.heap.size + 1 by simp] at h
theorem frozen_new2 (w : World) (a : Obj) (vs : Array Value) (t : TypeId) (i : Nat) : ((w.alloc a).alloc (.cells vs t)).frozen? ⟨w.heap.size + 1, i, none⟩ = false := by
  have h := frozen_new (w.alloc a) vs t i
  rwa [show (w.alloc a).heap.size = w.heap.size + 1 by simp] at h
theorem NdC.get {w : World} {g : Nat} {L : List NdM} (h : NdC w g L) {m : Nat} (hm : m < L.length) : ∃ y ∈ L, w.cell? ⟨g, m * 2, none⟩ = some (.int .i64 y.bd) ∧ w.cell? ⟨g, m * 2 + 1, none⟩ = some (.int .i64 y.at_) := ⟨_, List.getElem_mem hm, (h m hm).1.1, (h m hm).2.1⟩
theorem NdC.two {w : World} {g : Nat} {A R : List NdM} {x y : NdM} (h : NdC w g (A ++ x :: y :: R)) {m : Nat} (hm : m = A.length) : w.cell? ⟨g, m * 2, none⟩ = some (.int .i64 x.bd) ∧ w.cell? ⟨g, m * 2 + 1, none⟩ = some (.int .i64 x.at_) ∧ w.cell? ⟨g, (m + 1) * 2, none⟩ = some (.int .i64 y.bd) ∧ w.cell? ⟨g, (m + 1) * 2 + 1, none⟩ = some (.int .i64 y.at_) ∧ (∀ t, t < 4 → w.frozen? ⟨g, m * 2 + t, none⟩ = false) := by
  subst hm
  have h1 : A.length < (A ++ x :: y :: R).length := by simp
  have h2 : A.length + 1 < (A ++ x :: y :: R).length := by simp
  obtain ⟨⟨a1, f1⟩, a2, f2⟩ := h _ h1
  obtain ⟨⟨a3, f3⟩, a4, f4⟩ := h _ h2
  have e1 : (A ++ x :: y :: R)[A.length] = x := by simp
  have e2 : (A ++ x :: y :: R)[A.length + 1] = y := by simp [List.getElem_append_right]
  rw [e1] at a1 a2
  rw [e2] at a3 a4
  refine ⟨a1, a2, a3, a4, fun t ht => ?_⟩
  rcases (show t = 0 ∨ t = 1 ∨ t = 2 ∨ t = 3 by omega) with rfl | rfl | rfl | rfl
  · exact f1
  · exact f2
  · rw [show A.length * 2 + 2 = (A.length + 1) * 2 by omega]; exact f3
  · rw [show A.length * 2 + 3 = (A.length + 1) * 2 + 1 by omega]; exact f4
theorem NdC.pre {w : World} {g : Nat} {A Z : List NdM} (h : NdC w g (A ++ Z)) {t : Nat} (ht : t < A.length) : w.cell? ⟨g, t * 2, none⟩ = some (.int .i64 A[t].bd) ∧ w.cell? ⟨g, t * 2 + 1, none⟩ = some (.int .i64 A[t].at_) := by
  have h1 : t < (A ++ Z).length := by simp; omega
  have e : (A ++ Z)[t] = A[t] := List.getElem_append_left ht
  have h2 := h t h1
  rw [e] at h2
  exact ⟨h2.1.1, h2.2.1⟩
theorem sumN_bd {p : MacM} (hp : FewM p) (A : List NdM) : ∀ t, sumN p (A.take t) ≤ 4 * t
  | 0 => by simp [sumN]
  | t + 1 => by
    by_cases h : t < A.length
    · rw [sumN_take h]
      have := sumN_bd hp A t
      have : lenN p A[t] ≤ 4 := by
        unfold lenN
        split
        · exact hp.lenB _
        · exact hp.lenF _
      omega
    · have := sumN_bd hp A t
      rw [List.take_of_length_le (by omega)] at this ⊢
      omega
theorem cell_old2 (w : World) (vs : Array Value) (t : TypeId) (o : Obj) (i : Nat) (u : Value) (h : vs[i]? = some u) : ((w.alloc (.cells vs t)).alloc o).cell? ⟨w.heap.size, i, none⟩ = some u :=
  Chg.cell ((Chg.refl Nowhere _).alloc o) ((cell_new w vs t i).trans h) id
theorem NdC.swap4 {w : World} {g : Nat} {A R : List NdM} {x y : NdM} (h : NdC w g (A ++ x :: y :: R)) {m : Nat} (hm : m = A.length) :
    NdC ((((w.setCell ⟨g, m * 2, none⟩ (.int .i64 y.bd)).setCell ⟨g, m * 2 + 1, none⟩ (.int .i64 y.at_)).setCell ⟨g, (m + 1) * 2, none⟩ (.int .i64 x.bd)).setCell ⟨g, (m + 1) * 2 + 1, none⟩ (.int .i64 x.at_)) g (A ++ y :: x :: R) := by
  obtain ⟨a1, a2, a3, a4, -⟩ := h.two hm
  subst hm
  have ne : ∀ a b : Nat, a ≠ b → (⟨g, a, none⟩ : Addr) ≠ ⟨g, b, none⟩ := fun a b hab e => hab (by injection e)
  have e2 : A.length * 2 + 2 = (A.length + 1) * 2 := by omega
  have e3 : A.length * 2 + 3 = (A.length + 1) * 2 + 1 := by omega
  refine NdC.swap h (fun t h0 h1 h2 h3 => ?_) (fun t => ?_) ?_ ?_ ?_ ?_
  · rw [World.cell?_setCell_other _ _ _ _ (ne _ _ (by omega)), World.cell?_setCell_other _ _ _ _ (ne _ _ (by omega)), World.cell?_setCell_other _ _ _ _ (ne _ _ (by omega)), World.cell?_setCell_other _ _ _ _ (ne _ _ (by omega))]
  · rw [World.frozen?_setCell, World.frozen?_setCell, World.frozen?_setCell, World.frozen?_setCell]
  · rw [World.cell?_setCell_other _ _ _ _ (ne _ _ (by omega)), World.cell?_setCell_other _ _ _ _ (ne _ _ (by omega)), World.cell?_setCell_other _ _ _ _ (ne _ _ (by omega)), World.cell?_setCell_same _ _ _ a1]
  · rw [World.cell?_setCell_other _ _ _ _ (ne _ _ (by omega)), World.cell?_setCell_other _ _ _ _ (ne _ _ (by omega))]
    exact World.cell?_setCell_same _ _ _ ((World.cell?_setCell_other _ _ _ _ (ne _ _ (by omega))).trans a2)
  · rw [e2, World.cell?_setCell_other _ _ _ _ (ne _ _ (by omega))]
    exact World.cell?_setCell_same _ _ _ ((World.cell?_setCell_other _ _ _ _ (ne _ _ (by omega))).trans ((World.cell?_setCell_other _ _ _ _ (ne _ _ (by omega))).trans a3))
  · rw [e3]
    exact World.cell?_setCell_same _ _ _ ((World.cell?_setCell_other _ _ _ _ (ne _ _ (by omega))).trans ((World.cell?_setCell_other _ _ _ _ (ne _ _ (by omega))).trans ((World.cell?_setCell_other _ _ _ _ (ne _ _ (by omega))).trans a4)))
theorem Chg.swap4 {w : World} {g : Nat} (a b c d : Nat) (va vb vc vd : Value) : Chg (fun k => k = g) w ((((w.setCell ⟨g, a, none⟩ va).setCell ⟨g, b, none⟩ vb).setCell ⟨g, c, none⟩ vc).setCell ⟨g, d, none⟩ vd) :=
  ((((Chg.refl _ _).setCell (.inl (show g = g from rfl)) _).setCell (.inl (show g = g from rfl)) _).setCell (.inl (show g = g from rfl)) _).setCell (.inl (show g = g from rfl)) _
theorem lenN_le {p : MacM} (hp : FewM p) (y : NdM) : lenN p y ≤ 4 := by
  unfold lenN
  split
  · exact hp.lenB _
  · exact hp.lenF _
end Go.Proofs.Ytchfjglofmphfaa
end
