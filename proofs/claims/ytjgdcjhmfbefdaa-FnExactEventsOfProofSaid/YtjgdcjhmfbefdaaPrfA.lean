/- Comparisons of lists on both sides. No condition. -/
import Derived.Test.YtjgdcjhmfbefdaaPrfM
import Derived.Test.YtjgdcjhmfbefdaaRow5
set_option linter.unusedSimpArgs false
set_option linter.unusedVariables false
set_option maxRecDepth 100000
set_option maxHeartbeats 1000000
namespace Go.Proofs.Ytjgdcjhmfbefdaa
open Go.ChangeShapes Go.WideShapes Go.ChangeAt Go.RowKit
theorem l00Same_any (w : World) (S S' : Nat → Prop) (v u : Value) (xs ys : List Int) (h : Ints w S v xs) (h2 : Ints w S' u ys) :
    Calls Try.prog 130 #[v, u] w fun e w' => e = .returned (.bool (sameL xs ys)) ∧ Up w w' := by
  obtain ⟨A, c, rfl, hlc, hcm, -⟩ := h.shape
  obtain ⟨A2, c2, rfl, hlc2, hcm2, -⟩ := h2.shape
  by_cases hl : xs.length = ys.length
  rotate_left
  · have HB := Lib.hid (sameL_len hl)
    have hb : ((xs.length : Int) != ys.length) = true := by simp; omega
    clear hl h h2
    go_enter Try.func130, Try.ntmps130
    go_wp2
    go_ret
    exact ⟨ret_bool HB.out.symm, Chg.refl _ _⟩
  have HL := Lib.hid hl
  have hb : ((xs.length : Int) != ys.length) = false := by simp; omega
  have H := Lib.hid h
  have H2 := Lib.hid h2
  clear h h2 hl
  go_enter Try.func130, Try.ntmps130
  go_wp2
  go_loopw [5] (fun i wr => ∃ (j : Nat), j ≤ xs.length ∧ i = .int .i64 j ∧ Hid (Up w wr) ∧ Hid (AgreeTo xs ys j)) (fun i _ => xs.length - (intOf i).toNat)
  case atStart => exact ⟨0, by omega, rfl, Chg.refl _ _, AgreeTo.start _ _⟩
  case round =>
    obtain ⟨j, hj, rfl, hu, hp⟩ := hrel
    by_cases hlt : j < xs.length
    · have hlt2 : j < ys.length := by have := HL.out; omega
      obtain ⟨b, o, rfl, -, hc⟩ := (H.out.up hu.out).ix hlt
      obtain ⟨b2, o2, rfl, -, hc2⟩ := (H2.out.up hu.out).ix hlt2
      have f0 := hc j hlt
      have e0 := hc2 j hlt2
      rw [ix_eq hlt] at f0
      rw [ix_eq hlt2] at e0
      clear hc hc2
      by_cases he : xs[j] = ys[j]
      · have HE := Lib.hid he
        have hbb : ((xs[j] : Int) != ys[j]) = false := by simp [he]
        clear he
        go_wp2
        go_quiet (fail)
        go_wp2
        go_roundw
        case rel => exact ⟨j + 1, by omega, by go_num, Lib.hid (Chg.trans hu.out (by repeat (first | exact Chg.refl _ _ | apply Chg.drew | apply Chg.drewN | refine Chg.alloc ?_ _))), Lib.hid (AgreeTo.next hp.out hlt hlt2 HE.out)⟩
        case measure => first | (simp [intOf]; done) | (simp [intOf]; omega)
      · have HB := Lib.hid (sameL_at hlt hlt2 he)
        have hbb : ((xs[j] : Int) != ys[j]) = true := by simpa using he
        clear he
        go_wp2
        go_quiet (fail)
        go_wp2
        go_ret
        exact ⟨ret_bool HB.out.symm, Chg.trans hu.out (by repeat (first | exact Chg.refl _ _ | apply Chg.drew | apply Chg.drewN | refine Chg.alloc ?_ _))⟩
    · obtain rfl : j = xs.length := by omega
      have HB := Lib.hid (sameL_all hp.out HL.out)
      go_wp2
      go_ret
      exact ⟨ret_bool HB.out.symm, hu.out⟩
theorem equalInts_any (w : World) (S S' : Nat → Prop) (v u : Value) (xs ys : List Int) (h : Ints w S v xs) (h2 : Ints w S' u ys) :
    Calls Try.prog 135 #[v, u] w fun e w' => e = .returned (.bool (sameL xs ys)) ∧ Up w w' := by
  obtain ⟨A, c, rfl, hlc, hcm, -⟩ := h.shape
  obtain ⟨A2, c2, rfl, hlc2, hcm2, -⟩ := h2.shape
  by_cases hl : xs.length = ys.length
  rotate_left
  · have HB := Lib.hid (sameL_len hl)
    have hb : ((xs.length : Int) != ys.length) = true := by simp; omega
    clear hl h h2
    go_enter Try.func135, Try.ntmps135
    go_wp2
    go_ret
    exact ⟨ret_bool HB.out.symm, Chg.refl _ _⟩
  have HL := Lib.hid hl
  have hb : ((xs.length : Int) != ys.length) = false := by simp; omega
  have H := Lib.hid h
  have H2 := Lib.hid h2
  clear h h2 hl
  go_enter Try.func135, Try.ntmps135
  go_wp2
  go_loopw [5, 13] (fun _ i wr => ∃ (j : Nat), j ≤ xs.length ∧ i = .int .i64 j ∧ Hid (Up w wr) ∧ Hid (AgreeTo xs ys j)) (fun _ i _ => xs.length - (intOf i).toNat)
  case atStart => exact ⟨0, by omega, rfl, Chg.refl _ _, AgreeTo.start _ _⟩
  case round =>
    obtain ⟨j, hj, rfl, hu, hp⟩ := hrel
    by_cases hlt : j < xs.length
    · have hlt2 : j < ys.length := by have := HL.out; omega
      obtain ⟨b, o, rfl, -, hc⟩ := (H.out.up hu.out).ix hlt
      obtain ⟨b2, o2, rfl, -, hc2⟩ := (H2.out.up hu.out).ix hlt2
      have f0 := hc j hlt
      have e0 := hc2 j hlt2
      rw [ix_eq hlt] at f0
      rw [ix_eq hlt2] at e0
      clear hc hc2
      by_cases he : xs[j] = ys[j]
      · have HE := Lib.hid he
        have hbb : ((xs[j] : Int) != ys[j]) = false := by simp [he]
        clear he
        go_wp2
        go_quiet (fail)
        go_wp2
        go_roundw
        case rel => exact ⟨j + 1, by omega, by go_num, Lib.hid (Chg.trans hu.out (by repeat (first | exact Chg.refl _ _ | apply Chg.drew | apply Chg.drewN | refine Chg.alloc ?_ _))), Lib.hid (AgreeTo.next hp.out hlt hlt2 HE.out)⟩
        case measure => first | (simp [intOf]; done) | (simp [intOf]; omega)
      · have HB := Lib.hid (sameL_at hlt hlt2 he)
        have hbb : ((xs[j] : Int) != ys[j]) = true := by simpa using he
        clear he
        go_wp2
        go_quiet (fail)
        go_wp2
        go_ret
        exact ⟨ret_bool HB.out.symm, Chg.trans hu.out (by repeat (first | exact Chg.refl _ _ | apply Chg.drew | apply Chg.drewN | refine Chg.alloc ?_ _))⟩
    · obtain rfl : j = xs.length := by omega
      have HB := Lib.hid (sameL_all hp.out HL.out)
      go_wp2
      go_ret
      exact ⟨ret_bool HB.out.symm, hu.out⟩
theorem evEq_and (x y : EvM) : decide (x = y) = (decide (x.kind = y.kind) && (decide (x.place = y.place) && (decide (x.count = y.count) && (decide (x.bed = y.bed) && (decide (x.car = y.car) && decide (x.dir = y.dir)))))) := by
  rw [Bool.eq_iff_iff, decide_eq_true_eq, evM_eq]
  simp
theorem evNeq (w : World) (x y : EvM) : (binOp .neq 106 x.val y.val).run Try.prog w = .ok (.bool (!decide (x = y))) w := by
  rw [evEq_and, run_neq_struct]
  by_cases h0 : x.kind = y.kind
  rotate_left
  · simp [go_sem, Program.fieldsOf, Try.underlying106, Op.eqFields, h0]
  by_cases h1 : x.place = y.place
  rotate_left
  · simp [go_sem, Program.fieldsOf, Try.underlying106, Op.eqFields, h0, h1]
  by_cases h2 : x.count = y.count
  rotate_left
  · simp [go_sem, Program.fieldsOf, Try.underlying106, Op.eqFields, h0, h1, h2]
  by_cases h3 : x.bed = y.bed
  rotate_left
  · simp [go_sem, Program.fieldsOf, Try.underlying106, Op.eqFields, h0, h1, h2, h3]
  by_cases h4 : x.car = y.car
  rotate_left
  · simp [go_sem, Program.fieldsOf, Try.underlying106, Op.eqFields, h0, h1, h2, h3, h4]
  by_cases h5 : x.dir = y.dir
  rotate_left
  · simp [go_sem, Program.fieldsOf, Try.underlying106, Op.eqFields, h0, h1, h2, h3, h4, h5]
  simp [go_sem, Program.fieldsOf, Try.underlying106, Op.eqFields, h0, h1, h2, h3, h4, h5]
theorem evEq_true {x y : EvM} (h : x = y) (w : World) : (binOp .neq 106 x.val y.val).run Try.prog w = .ok (.bool false) w := by
  rw [evNeq, decide_eq_true h]
  rfl
theorem evEq_false {x y : EvM} (h : x ≠ y) (w : World) : (binOp .neq 106 x.val y.val).run Try.prog w = .ok (.bool true) w := by
  rw [evNeq, decide_eq_false h]
  rfl
theorem sSameEvents_any (w : World) (S S' : Nat → Prop) (v u : Value) (xs ys : List EvM) (h : Evs w S v xs) (h2 : Evs w S' u ys) :
    Calls Try.prog 53 #[v, u] w fun e w' => e = .returned (.bool (sameL xs ys)) ∧ Up w w' := by
  obtain ⟨A, c, rfl, hlc, hcm, -⟩ := h.shape
  obtain ⟨A2, c2, rfl, hlc2, hcm2, -⟩ := h2.shape
  by_cases hl : xs.length = ys.length
  rotate_left
  · have HB := Lib.hid (sameL_len hl)
    have hb : ((xs.length : Int) != ys.length) = true := by simp; omega
    clear hl h h2
    go_enter Try.func53, Try.ntmps53
    go_wp2
    go_ret
    exact ⟨ret_bool HB.out.symm, Chg.refl _ _⟩
  have HL := Lib.hid hl
  have hb : ((xs.length : Int) != ys.length) = false := by simp; omega
  have H := Lib.hid h
  have H2 := Lib.hid h2
  clear h h2 hl
  go_enter Try.func53, Try.ntmps53
  go_wp2
  go_loopw [5] (fun i wr => ∃ (j : Nat), j ≤ xs.length ∧ i = .int .i64 j ∧ Hid (Up w wr) ∧ Hid (AgreeTo xs ys j)) (fun i _ => xs.length - (intOf i).toNat)
  case atStart => exact ⟨0, by omega, rfl, Chg.refl _ _, AgreeTo.start _ _⟩
  case round =>
    obtain ⟨j, hj, rfl, hu, hp⟩ := hrel
    by_cases hlt : j < xs.length
    · have hlt2 : j < ys.length := by have := HL.out; omega
      obtain ⟨b, o, c', he1, -, -, hc⟩ := (H.out.up hu.out).at_ hlt
      obtain ⟨b2, o2, c2', he2, -, -, hc2⟩ := (H2.out.up hu.out).at_ hlt2
      obtain ⟨rfl, rfl⟩ : A = some ⟨b, o, none⟩ ∧ c = c' := by simpa using he1
      obtain ⟨rfl, rfl⟩ : A2 = some ⟨b2, o2, none⟩ ∧ c2 = c2' := by simpa using he2
      have f0 := (hc 0 _ rfl).1
      have e0 := (hc2 0 _ rfl).1
      have f1 := (hc 1 _ rfl).1
      have e1 := (hc2 1 _ rfl).1
      have f2 := (hc 2 _ rfl).1
      have e2 := (hc2 2 _ rfl).1
      have f3 := (hc 3 _ rfl).1
      have e3 := (hc2 3 _ rfl).1
      have f4 := (hc 4 _ rfl).1
      have e4 := (hc2 4 _ rfl).1
      have f5 := (hc 5 _ rfl).1
      have e5 := (hc2 5 _ rfl).1
      rw [Nat.add_zero] at f0 e0
      clear hc hc2 he1 he2
      by_cases he : xs[j] = ys[j]
      · have HE := Lib.hid he
        have hbb := evEq_true he
        clear he
        go_wp2
        go_quiet (fail)
        go_wp2
        go_roundw
        case rel => exact ⟨j + 1, by omega, by go_num, Lib.hid (Chg.trans hu.out (by repeat (first | exact Chg.refl _ _ | apply Chg.drew | apply Chg.drewN | refine Chg.alloc ?_ _))), Lib.hid (AgreeTo.next hp.out hlt hlt2 HE.out)⟩
        case measure => first | (simp [intOf]; done) | (simp [intOf]; omega)
      · have HB := Lib.hid (sameL_at hlt hlt2 he)
        have hbb := evEq_false he
        clear he
        go_wp2
        go_quiet (fail)
        go_wp2
        go_ret
        exact ⟨ret_bool HB.out.symm, Chg.trans hu.out (by repeat (first | exact Chg.refl _ _ | apply Chg.drew | apply Chg.drewN | refine Chg.alloc ?_ _))⟩
    · obtain rfl : j = xs.length := by omega
      have HB := Lib.hid (sameL_all hp.out HL.out)
      go_wp2
      go_ret
      exact ⟨ret_bool HB.out.symm, hu.out⟩
theorem equalEvs_any (w : World) (S S' : Nat → Prop) (v u : Value) (xs ys : List EvM) (h : Evs w S v xs) (h2 : Evs w S' u ys) :
    Calls Try.prog 60 #[v, u] w fun e w' => e = .returned (.bool (sameL xs ys)) ∧ Up w w' := by
  obtain ⟨A, c, rfl, hlc, hcm, -⟩ := h.shape
  obtain ⟨A2, c2, rfl, hlc2, hcm2, -⟩ := h2.shape
  by_cases hl : xs.length = ys.length
  rotate_left
  · have HB := Lib.hid (sameL_len hl)
    have hb : ((xs.length : Int) != ys.length) = true := by simp; omega
    clear hl h h2
    go_enter Try.func60, Try.ntmps60
    go_wp2
    go_ret
    exact ⟨ret_bool HB.out.symm, Chg.refl _ _⟩
  have HL := Lib.hid hl
  have hb : ((xs.length : Int) != ys.length) = false := by simp; omega
  have H := Lib.hid h
  have H2 := Lib.hid h2
  clear h h2 hl
  go_enter Try.func60, Try.ntmps60
  go_wp2
  go_loopw [5, 13] (fun _ i wr => ∃ (j : Nat), j ≤ xs.length ∧ i = .int .i64 j ∧ Hid (Up w wr) ∧ Hid (AgreeTo xs ys j)) (fun _ i _ => xs.length - (intOf i).toNat)
  case atStart => exact ⟨0, by omega, rfl, Chg.refl _ _, AgreeTo.start _ _⟩
  case round =>
    obtain ⟨j, hj, rfl, hu, hp⟩ := hrel
    by_cases hlt : j < xs.length
    · have hlt2 : j < ys.length := by have := HL.out; omega
      obtain ⟨b, o, c', he1, -, -, hc⟩ := (H.out.up hu.out).at_ hlt
      obtain ⟨b2, o2, c2', he2, -, -, hc2⟩ := (H2.out.up hu.out).at_ hlt2
      obtain ⟨rfl, rfl⟩ : A = some ⟨b, o, none⟩ ∧ c = c' := by simpa using he1
      obtain ⟨rfl, rfl⟩ : A2 = some ⟨b2, o2, none⟩ ∧ c2 = c2' := by simpa using he2
      have f0 := (hc 0 _ rfl).1
      have e0 := (hc2 0 _ rfl).1
      have f1 := (hc 1 _ rfl).1
      have e1 := (hc2 1 _ rfl).1
      have f2 := (hc 2 _ rfl).1
      have e2 := (hc2 2 _ rfl).1
      have f3 := (hc 3 _ rfl).1
      have e3 := (hc2 3 _ rfl).1
      have f4 := (hc 4 _ rfl).1
      have e4 := (hc2 4 _ rfl).1
      have f5 := (hc 5 _ rfl).1
      have e5 := (hc2 5 _ rfl).1
      rw [Nat.add_zero] at f0 e0
      clear hc hc2 he1 he2
      by_cases he : xs[j] = ys[j]
      · have HE := Lib.hid he
        have hbb := evEq_true he
        clear he
        go_wp2
        go_quiet (fail)
        go_wp2
        go_roundw
        case rel => exact ⟨j + 1, by omega, by go_num, Lib.hid (Chg.trans hu.out (by repeat (first | exact Chg.refl _ _ | apply Chg.drew | apply Chg.drewN | refine Chg.alloc ?_ _))), Lib.hid (AgreeTo.next hp.out hlt hlt2 HE.out)⟩
        case measure => first | (simp [intOf]; done) | (simp [intOf]; omega)
      · have HB := Lib.hid (sameL_at hlt hlt2 he)
        have hbb := evEq_false he
        clear he
        go_wp2
        go_quiet (fail)
        go_wp2
        go_ret
        exact ⟨ret_bool HB.out.symm, Chg.trans hu.out (by repeat (first | exact Chg.refl _ _ | apply Chg.drew | apply Chg.drewN | refine Chg.alloc ?_ _))⟩
    · obtain rfl : j = xs.length := by omega
      have HB := Lib.hid (sameL_all hp.out HL.out)
      go_wp2
      go_ret
      exact ⟨ret_bool HB.out.symm, hu.out⟩
end Go.Proofs.Ytjgdcjhmfbefdaa
