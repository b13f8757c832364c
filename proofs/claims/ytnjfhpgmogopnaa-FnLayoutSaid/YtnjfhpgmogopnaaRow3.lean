/- Rows by value and behind a pointer: their tests and their codes. No condition. -/
import Derived.Test.YtnjfhpgmogopnaaRow2
namespace Go.Proofs.Ytnjfhpgmogopnaa
open Go.ChangeShapes Go.WideShapes Go.ChangeAt Go.RowKit
structure RowM where
  d : Int
  c : Int
  xs : List Int
/-- a row by value -/
def RowV (w : World) (S : Nat → Prop) (v : Value) (r : RowM) : Prop := ∃ s, v = .agg #[.int .i64 r.d, .int .i64 r.c, s] ∧ Ints w S s r.xs ∧ I64 r.d ∧ I64 r.c
theorem RowV.keep {S T : Nat → Prop} {w w' : World} {v : Value} {r : RowM} (h : RowV w S v r) (g : Chg T w w') (hd : ∀ b, b < w.heap.size → S b → ¬ T b) : RowV w' S v r :=
  let ⟨s, h1, h2, h3⟩ := h; ⟨s, h1, h2.keep g hd, h3⟩
theorem RowV.up {S : Nat → Prop} {w w' : World} {v : Value} {r : RowM} (h : RowV w S v r) (g : Up w w') : RowV w' S v r := h.keep g fun _ _ _ h => h
theorem RowV.shape {w : World} {S : Nat → Prop} {v : Value} {r : RowM} (h : RowV w S v r) : ∃ A c, v = .agg #[.int .i64 r.d, .int .i64 r.c, .slice A r.xs.length c] ∧ Ints w S (.slice A r.xs.length c) r.xs ∧ r.xs.length ≤ c ∧ c ≤ 9223372036854775807 ∧ (I64 r.d ∧ I64 r.c) ∧ (A = none → c = 0) := by
  obtain ⟨s, h1, h2, h3, h4⟩ := h
  obtain ⟨A, c, rfl, h5, h6, h7⟩ := h2.shape
  exact ⟨A, c, h1, h2, h5, h6, ⟨h3, h4⟩, h7⟩
/-- a row behind a pointer -/
def RowAt (w : World) (S : Nat → Prop) (b o : Nat) (r : RowM) : Prop :=
  ∃ A c, w.cell? ⟨b, o, none⟩ = some (.int .i64 r.d) ∧ w.cell? ⟨b, o + 1, none⟩ = some (.int .i64 r.c) ∧ w.cell? ⟨b, o + 2, none⟩ = some (.slice A r.xs.length c) ∧ Ints w S (.slice A r.xs.length c) r.xs ∧ r.xs.length ≤ c ∧ c ≤ 9223372036854775807 ∧ (I64 r.d ∧ I64 r.c) ∧ b < w.heap.size
theorem RowAt.keep {S T : Nat → Prop} {w w' : World} {b o : Nat} {r : RowM} (h : RowAt w S b o r) (g : Chg T w w') (hd : ∀ b, b < w.heap.size → S b → ¬ T b) (hb : ¬ T b) : RowAt w' S b o r := by
  obtain ⟨A, c, h1, h2, h3, h4, h5, h6, h7, h8⟩ := h
  exact ⟨A, c, g.cell h1 hb, g.cell h2 hb, g.cell h3 hb, h4.keep g hd, h5, h6, h7, Nat.lt_of_lt_of_le h8 g.size⟩
theorem RowAt.up {S : Nat → Prop} {w w' : World} {b o : Nat} {r : RowM} (h : RowAt w S b o r) (g : Up w w') : RowAt w' S b o r := h.keep g (fun _ _ _ h => h) id
theorem RowAt.box {w : World} {S : Nat → Prop} {v : Value} {r : RowM} (h : RowV w S v r) (t : TypeId) : ∃ cs, v = .agg cs ∧ RowAt (w.alloc (.cells cs t)) S w.heap.size 0 r := by
  obtain ⟨A, c, rfl, h2, h3, h4, h5, _⟩ := h.shape
  exact ⟨_, rfl, A, c, cell_new _ _ _ _, cell_new _ _ _ _, cell_new _ _ _ _, h2.up ((Chg.refl _ _).alloc _), h3, h4, h5, by simp⟩
theorem rowB_no1 {r : RowM} (h : ¬ (r.d = 1 ∨ r.d = -1)) : rowB r.d r.c r.xs = false := by unfold rowB dirP; rw [decide_eq_false h]; rfl
theorem rowB_no2 {r : RowM} (h : ¬ (1 ≤ r.c ∧ r.c ≤ 4)) : rowB r.d r.c r.xs = false := by unfold rowB carP inB; rw [decide_eq_false h, Bool.and_false]; rfl
theorem rowB_eq {r : RowM} (h : r.d = 1 ∨ r.d = -1) (h2 : 1 ≤ r.c ∧ r.c ≤ 4) : rowB r.d r.c r.xs = stB r.xs := by unfold rowB dirP carP inB; rw [decide_eq_true h, decide_eq_true h2]; rfl
set_option maxHeartbeats 1000000 in
theorem l15Row_any (w : World) (S : Nat → Prop) (b o : Nat) (r : RowM) (h : RowAt w S b o r) :
    Calls Try.prog 248 #[.pointer (some ⟨b, o, none⟩)] w fun e w' => e = .returned (.bool (rowB r.d r.c r.xs)) ∧ w = w' := by
  obtain ⟨A, c, h1, h2, h3, h4, h5, h6, ⟨h7, h8⟩, h9⟩ := h
  have H := Lib.hid h4
  clear h4
  by_cases hd1 : r.d = 1
  · have k1 : (r.d == 1) = true := by simpa using hd1
    by_cases hc : 1 ≤ r.c ∧ r.c ≤ 4
    · have HB := Lib.hid (rowB_eq (.inl hd1) hc)
      have HC := Lib.hid hc
      clear hd1 hc h7 h8
      go_enter Try.func248, Try.ntmps248
      go_wp2_with fail
      refine (l00In_yes _ _ _ _ HC.out).mono ?_
      rintro e w' ⟨rfl, rfl⟩
      go_wp2_with fail
      refine (l14Ok_any _ S _ r.xs H.out).mono ?_
      rintro e w' ⟨rfl, rfl⟩
      go_wp2
      go_ret
      exact ⟨ret_bool HB.out.symm, rfl⟩
    · have HB := Lib.hid (rowB_no2 hc)
      have HC := Lib.hid (show r.c < 1 ∨ 4 < r.c by omega)
      clear hd1 hc h7 h8
      go_enter Try.func248, Try.ntmps248
      go_wp2_with fail
      refine (l00In_no _ _ _ _ HC.out).mono ?_
      rintro e w' ⟨rfl, rfl⟩
      go_wp2
      go_ret
      exact ⟨ret_bool HB.out.symm, rfl⟩
  · have k1 : (r.d == 1) = false := by simpa using hd1
    by_cases hd2 : r.d = -1
    · have k2 : (r.d == -1) = true := by simpa using hd2
      by_cases hc : 1 ≤ r.c ∧ r.c ≤ 4
      · have HB := Lib.hid (rowB_eq (.inr hd2) hc)
        have HC := Lib.hid hc
        clear hd1 hd2 hc h7 h8
        go_enter Try.func248, Try.ntmps248
        go_wp2_with fail
        refine (l00In_yes _ _ _ _ HC.out).mono ?_
        rintro e w' ⟨rfl, rfl⟩
        go_wp2_with fail
        refine (l14Ok_any _ S _ r.xs H.out).mono ?_
        rintro e w' ⟨rfl, rfl⟩
        go_wp2
        go_ret
        exact ⟨ret_bool HB.out.symm, rfl⟩
      · have HB := Lib.hid (rowB_no2 hc)
        have HC := Lib.hid (show r.c < 1 ∨ 4 < r.c by omega)
        clear hd1 hd2 hc h7 h8
        go_enter Try.func248, Try.ntmps248
        go_wp2_with fail
        refine (l00In_no _ _ _ _ HC.out).mono ?_
        rintro e w' ⟨rfl, rfl⟩
        go_wp2
        go_ret
        exact ⟨ret_bool HB.out.symm, rfl⟩
    · have k2 : (r.d == -1) = false := by simpa using hd2
      have HB := Lib.hid (rowB_no1 (r := r) (fun hh => hh.elim hd1 hd2))
      clear hd1 hd2 h7 h8
      go_enter Try.func248, Try.ntmps248
      go_wp2
      go_ret
      exact ⟨ret_bool HB.out.symm, rfl⟩
set_option maxHeartbeats 1000000 in
theorem ValidRow_any (w : World) (S : Nat → Prop) (v : Value) (r : RowM) (h : RowV w S v r) :
    Calls Try.prog 196 #[v] w fun e w' => e = .returned (.bool (rowB r.d r.c r.xs)) ∧ Up w w' := by
  obtain ⟨A, c, rfl, h4, h5, h6, ⟨h7, h8⟩, -⟩ := h.shape
  have H := Lib.hid h4
  clear h4 h
  by_cases hd : r.d = 1 ∨ r.d = -1
  · have HD := Lib.hid hd
    by_cases hc : 1 ≤ r.c ∧ r.c ≤ 4
    · have HB := Lib.hid (rowB_eq hd hc)
      have HC := Lib.hid hc
      clear hd hc h7 h8
      go_enter Try.func196, Try.ntmps196
      go_wp2_with fail
      refine (isDirection_yes _ _ HD.out).mono ?_
      rintro e w' ⟨rfl, rfl⟩
      go_wp2_with fail
      refine (isCarrier_yes _ _ HC.out).mono ?_
      rintro e w' ⟨rfl, rfl⟩
      go_wp2_with fail
      refine (areStitches_any _ S _ r.xs (H.out.up (by repeat (first | exact Chg.refl _ _ | apply Chg.drew | apply Chg.drewN | refine Chg.alloc ?_ _)))).mono ?_
      rintro e w' ⟨rfl, rfl⟩
      go_wp2
      go_ret
      exact ⟨ret_bool HB.out.symm, (by repeat (first | exact Chg.refl _ _ | apply Chg.drew | apply Chg.drewN | refine Chg.alloc ?_ _))⟩
    · have HB := Lib.hid (rowB_no2 hc)
      have HC := Lib.hid (show r.c < 1 ∨ 4 < r.c by omega)
      clear hd hc h7 h8
      go_enter Try.func196, Try.ntmps196
      go_wp2_with fail
      refine (isDirection_yes _ _ HD.out).mono ?_
      rintro e w' ⟨rfl, rfl⟩
      go_wp2_with fail
      refine (isCarrier_no _ _ HC.out).mono ?_
      rintro e w' ⟨rfl, rfl⟩
      go_wp2
      go_ret
      exact ⟨ret_bool HB.out.symm, (by repeat (first | exact Chg.refl _ _ | apply Chg.drew | apply Chg.drewN | refine Chg.alloc ?_ _))⟩
  · have HB := Lib.hid (rowB_no1 (r := r) hd)
    have HD := Lib.hid (show r.d ≠ 1 ∧ r.d ≠ -1 from ⟨fun h => hd (.inl h), fun h => hd (.inr h)⟩)
    clear hd h7 h8
    go_enter Try.func196, Try.ntmps196
    go_wp2_with fail
    refine (isDirection_no _ _ HD.out).mono ?_
    rintro e w' ⟨rfl, rfl⟩
    go_wp2
    go_ret
    exact ⟨ret_bool HB.out.symm, (by repeat (first | exact Chg.refl _ _ | apply Chg.drew | apply Chg.drewN | refine Chg.alloc ?_ _))⟩
theorem laidB_1 {xs : List Int} (h : inB (sumF takenK xs) 1 8 = false) : laidB xs = false := by unfold laidB; rw [h]; rfl
theorem laidB_2 {xs : List Int} (h : inB (sumF takenK xs) 1 8 = true) : laidB xs = inB (sumF madeK xs) 1 8 := by unfold laidB; rw [h]; rfl
set_option maxHeartbeats 1000000 in
theorem isLaidOut_any (w : World) (S : Nat → Prop) (v : Value) (r : RowM) (h : RowV w S v r) (hs : stB r.xs = true) :
    Calls Try.prog 197 #[v] w fun e w' => e = .returned (.bool (laidB r.xs)) ∧ Up w w' := by
  obtain ⟨A, c, rfl, h4, h5, h6, ⟨h7, h8⟩, -⟩ := h.shape
  have H := Lib.hid h4
  have HS := Lib.hid hs
  clear h4 h h7 h8 hs
  cases ht : inB (sumF takenK r.xs) 1 8 with
  | false =>
    have HB := Lib.hid (laidB_1 ht)
    have HT := Lib.hid ht
    clear ht
    go_enter Try.func197, Try.ntmps197
    go_wp2_with fail
    refine (takenBy_yes _ S _ r.xs (H.out.up (by repeat (first | exact Chg.refl _ _ | apply Chg.drew | apply Chg.drewN | refine Chg.alloc ?_ _))) HS.out).mono ?_
    rintro e w' ⟨rfl, rfl⟩
    go_wp2_with fail
    refine (within_any _ _ _ _).mono ?_
    rintro e w' ⟨rfl, rfl⟩
    rw [HT.out]
    go_wp2
    go_ret
    exact ⟨ret_bool HB.out.symm, (by repeat (first | exact Chg.refl _ _ | apply Chg.drew | apply Chg.drewN | refine Chg.alloc ?_ _))⟩
  | true =>
    have HB := Lib.hid (laidB_2 ht)
    have HT := Lib.hid ht
    clear ht
    go_enter Try.func197, Try.ntmps197
    go_wp2_with fail
    refine (takenBy_yes _ S _ r.xs (H.out.up (by repeat (first | exact Chg.refl _ _ | apply Chg.drew | apply Chg.drewN | refine Chg.alloc ?_ _))) HS.out).mono ?_
    rintro e w' ⟨rfl, rfl⟩
    go_wp2_with fail
    refine (within_any _ _ _ _).mono ?_
    rintro e w' ⟨rfl, rfl⟩
    rw [HT.out]
    go_wp2_with fail
    refine (MadeBy_yes _ S _ r.xs (H.out.up (by repeat (first | exact Chg.refl _ _ | apply Chg.drew | apply Chg.drewN | refine Chg.alloc ?_ _))) HS.out).mono ?_
    rintro e w' ⟨rfl, rfl⟩
    go_wp2_with fail
    refine (within_any _ _ _ _).mono ?_
    rintro e w' ⟨rfl, rfl⟩
    go_wp2
    go_ret
    exact ⟨ret_bool HB.out.symm, (by repeat (first | exact Chg.refl _ _ | apply Chg.drew | apply Chg.drewN | refine Chg.alloc ?_ _))⟩
set_option maxHeartbeats 1000000 in
theorem rowCode_any (w : World) (S : Nat → Prop) (v : Value) (r : RowM) (h : RowV w S v r) :
    Calls Try.prog 124 #[v] w fun e w' => e = .returned (.int .i64 (rowCodeM r.d r.c r.xs)) ∧ Up w w' := by
  obtain ⟨A, c, rfl, h4, h5, h6, ⟨h7, h8⟩, h9⟩ := h.shape
  have H := Lib.hid h
  clear h4 h h9
  have U0 := Lib.hid (Chg.refl Nowhere w)
  cases hr : rowB r.d r.c r.xs with
  | false =>
    have HB := Lib.hid (rowCode_bad hr)
    have HR := Lib.hid hr
    clear hr h7 h8
    have U_1 := Lib.hid (Chg.trans U0.out ((Chg.refl Nowhere w).alloc (.cells #[.int .i64 r.d, .int .i64 r.c, .slice A r.xs.length c] 87)))
    clear U0
    have X_2 := Lib.hid (H.out.up ((Chg.refl Nowhere w).alloc (.cells #[.int .i64 r.d, .int .i64 r.c, .slice A r.xs.length c] 87)))
    clear H
    have q0_3 := (show (w.alloc (.cells #[.int .i64 r.d, .int .i64 r.c, .slice A r.xs.length c] 87)).cell? ⟨w.heap.size, 0, none⟩ = some (.int .i64 r.d) from cell_new _ _ _ _)
    have q1_4 := (show (w.alloc (.cells #[.int .i64 r.d, .int .i64 r.c, .slice A r.xs.length c] 87)).cell? ⟨w.heap.size, 1, none⟩ = some (.int .i64 r.c) from cell_new _ _ _ _)
    have q2_5 := (show (w.alloc (.cells #[.int .i64 r.d, .int .i64 r.c, .slice A r.xs.length c] 87)).cell? ⟨w.heap.size, 2, none⟩ = some (.slice A r.xs.length c) from cell_new _ _ _ _)
    have hbx6 : w.heap.size < (w.alloc (.cells #[.int .i64 r.d, .int .i64 r.c, .slice A r.xs.length c] 87)).heap.size := by simp
    go_enter Try.func124, Try.ntmps124
    go_wp2_with fail
    refine (ValidRow_any _ S _ r (X_2.out.up (by repeat (first | exact Chg.refl _ _ | apply Chg.drew | apply Chg.drewN | refine Chg.alloc ?_ _)))).mono ?_
    rintro e w7 ⟨rfl, g1⟩
    have G1 := Lib.hid g1
    have hz7 := G1.out.size
    clear g1
    have U_8 := Lib.hid (Chg.trans U_1.out (Chg.trans (by repeat (first | exact Chg.refl _ _ | apply Chg.drew | apply Chg.drewN | refine Chg.alloc ?_ _)) G1.out))
    clear U_1
    have X_9 := Lib.hid (X_2.out.up (Chg.trans (by repeat (first | exact Chg.refl _ _ | apply Chg.drew | apply Chg.drewN | refine Chg.alloc ?_ _)) G1.out))
    clear X_2
    have q0_10 := Chg.cell (Chg.trans (by repeat (first | exact Chg.refl _ _ | apply Chg.drew | apply Chg.drewN | refine Chg.alloc ?_ _)) G1.out) q0_3 id
    clear q0_3
    have q1_11 := Chg.cell (Chg.trans (by repeat (first | exact Chg.refl _ _ | apply Chg.drew | apply Chg.drewN | refine Chg.alloc ?_ _)) G1.out) q1_4 id
    clear q1_4
    have q2_12 := Chg.cell (Chg.trans (by repeat (first | exact Chg.refl _ _ | apply Chg.drew | apply Chg.drewN | refine Chg.alloc ?_ _)) G1.out) q2_5 id
    clear q2_5
    clear G1
    rw [HR.out]
    go_wp2
    go_ret
    exact ⟨ret_int HB.out.symm, (Chg.trans U_8.out (by repeat (first | exact Chg.refl _ _ | apply Chg.drew | apply Chg.drewN | refine Chg.alloc ?_ _)))⟩
  | true =>
    have HS := Lib.hid (rowB_dir hr).2.2
    cases hl : laidB r.xs with
    | false =>
      have HB := Lib.hid (rowCode_unlaid hr hl)
      have HR := Lib.hid hr
      have HL := Lib.hid hl
      clear hr hl h7 h8
      have U_13 := Lib.hid (Chg.trans U0.out ((Chg.refl Nowhere w).alloc (.cells #[.int .i64 r.d, .int .i64 r.c, .slice A r.xs.length c] 87)))
      clear U0
      have X_14 := Lib.hid (H.out.up ((Chg.refl Nowhere w).alloc (.cells #[.int .i64 r.d, .int .i64 r.c, .slice A r.xs.length c] 87)))
      clear H
      have q0_15 := (show (w.alloc (.cells #[.int .i64 r.d, .int .i64 r.c, .slice A r.xs.length c] 87)).cell? ⟨w.heap.size, 0, none⟩ = some (.int .i64 r.d) from cell_new _ _ _ _)
      have q1_16 := (show (w.alloc (.cells #[.int .i64 r.d, .int .i64 r.c, .slice A r.xs.length c] 87)).cell? ⟨w.heap.size, 1, none⟩ = some (.int .i64 r.c) from cell_new _ _ _ _)
      have q2_17 := (show (w.alloc (.cells #[.int .i64 r.d, .int .i64 r.c, .slice A r.xs.length c] 87)).cell? ⟨w.heap.size, 2, none⟩ = some (.slice A r.xs.length c) from cell_new _ _ _ _)
      have hbx18 : w.heap.size < (w.alloc (.cells #[.int .i64 r.d, .int .i64 r.c, .slice A r.xs.length c] 87)).heap.size := by simp
      go_enter Try.func124, Try.ntmps124
      go_wp2_with fail
      refine (ValidRow_any _ S _ r (X_14.out.up (by repeat (first | exact Chg.refl _ _ | apply Chg.drew | apply Chg.drewN | refine Chg.alloc ?_ _)))).mono ?_
      rintro e w19 ⟨rfl, g1⟩
      have G1 := Lib.hid g1
      have hz19 := G1.out.size
      clear g1
      have U_20 := Lib.hid (Chg.trans U_13.out (Chg.trans (by repeat (first | exact Chg.refl _ _ | apply Chg.drew | apply Chg.drewN | refine Chg.alloc ?_ _)) G1.out))
      clear U_13
      have X_21 := Lib.hid (X_14.out.up (Chg.trans (by repeat (first | exact Chg.refl _ _ | apply Chg.drew | apply Chg.drewN | refine Chg.alloc ?_ _)) G1.out))
      clear X_14
      have q0_22 := Chg.cell (Chg.trans (by repeat (first | exact Chg.refl _ _ | apply Chg.drew | apply Chg.drewN | refine Chg.alloc ?_ _)) G1.out) q0_15 id
      clear q0_15
      have q1_23 := Chg.cell (Chg.trans (by repeat (first | exact Chg.refl _ _ | apply Chg.drew | apply Chg.drewN | refine Chg.alloc ?_ _)) G1.out) q1_16 id
      clear q1_16
      have q2_24 := Chg.cell (Chg.trans (by repeat (first | exact Chg.refl _ _ | apply Chg.drew | apply Chg.drewN | refine Chg.alloc ?_ _)) G1.out) q2_17 id
      clear q2_17
      clear G1
      rw [HR.out]
      go_wp2_with fail
      refine (isLaidOut_any _ S _ r (X_21.out.up (by repeat (first | exact Chg.refl _ _ | apply Chg.drew | apply Chg.drewN | refine Chg.alloc ?_ _))) HS.out).mono ?_
      rintro e w25 ⟨rfl, g1⟩
      have G1 := Lib.hid g1
      have hz25 := G1.out.size
      clear g1
      have U_26 := Lib.hid (Chg.trans U_20.out (Chg.trans (by repeat (first | exact Chg.refl _ _ | apply Chg.drew | apply Chg.drewN | refine Chg.alloc ?_ _)) G1.out))
      clear U_20
      have X_27 := Lib.hid (X_21.out.up (Chg.trans (by repeat (first | exact Chg.refl _ _ | apply Chg.drew | apply Chg.drewN | refine Chg.alloc ?_ _)) G1.out))
      clear X_21
      have q0_28 := Chg.cell (Chg.trans (by repeat (first | exact Chg.refl _ _ | apply Chg.drew | apply Chg.drewN | refine Chg.alloc ?_ _)) G1.out) q0_22 id
      clear q0_22
      have q1_29 := Chg.cell (Chg.trans (by repeat (first | exact Chg.refl _ _ | apply Chg.drew | apply Chg.drewN | refine Chg.alloc ?_ _)) G1.out) q1_23 id
      clear q1_23
      have q2_30 := Chg.cell (Chg.trans (by repeat (first | exact Chg.refl _ _ | apply Chg.drew | apply Chg.drewN | refine Chg.alloc ?_ _)) G1.out) q2_24 id
      clear q2_24
      clear G1
      rw [HL.out]
      go_wp2
      go_ret
      exact ⟨ret_int HB.out.symm, (Chg.trans U_26.out (by repeat (first | exact Chg.refl _ _ | apply Chg.drew | apply Chg.drewN | refine Chg.alloc ?_ _)))⟩
    | true =>
      have HB := Lib.hid (rowCode_ok hr hl)
      have HR := Lib.hid hr
      have HL := Lib.hid hl
      clear hr hl h7 h8
      have U_31 := Lib.hid (Chg.trans U0.out ((Chg.refl Nowhere w).alloc (.cells #[.int .i64 r.d, .int .i64 r.c, .slice A r.xs.length c] 87)))
      clear U0
      have X_32 := Lib.hid (H.out.up ((Chg.refl Nowhere w).alloc (.cells #[.int .i64 r.d, .int .i64 r.c, .slice A r.xs.length c] 87)))
      clear H
      have q0_33 := (show (w.alloc (.cells #[.int .i64 r.d, .int .i64 r.c, .slice A r.xs.length c] 87)).cell? ⟨w.heap.size, 0, none⟩ = some (.int .i64 r.d) from cell_new _ _ _ _)
      have q1_34 := (show (w.alloc (.cells #[.int .i64 r.d, .int .i64 r.c, .slice A r.xs.length c] 87)).cell? ⟨w.heap.size, 1, none⟩ = some (.int .i64 r.c) from cell_new _ _ _ _)
      have q2_35 := (show (w.alloc (.cells #[.int .i64 r.d, .int .i64 r.c, .slice A r.xs.length c] 87)).cell? ⟨w.heap.size, 2, none⟩ = some (.slice A r.xs.length c) from cell_new _ _ _ _)
      have hbx36 : w.heap.size < (w.alloc (.cells #[.int .i64 r.d, .int .i64 r.c, .slice A r.xs.length c] 87)).heap.size := by simp
      go_enter Try.func124, Try.ntmps124
      go_wp2_with fail
      refine (ValidRow_any _ S _ r (X_32.out.up (by repeat (first | exact Chg.refl _ _ | apply Chg.drew | apply Chg.drewN | refine Chg.alloc ?_ _)))).mono ?_
      rintro e w37 ⟨rfl, g1⟩
      have G1 := Lib.hid g1
      have hz37 := G1.out.size
      clear g1
      have U_38 := Lib.hid (Chg.trans U_31.out (Chg.trans (by repeat (first | exact Chg.refl _ _ | apply Chg.drew | apply Chg.drewN | refine Chg.alloc ?_ _)) G1.out))
      clear U_31
      have X_39 := Lib.hid (X_32.out.up (Chg.trans (by repeat (first | exact Chg.refl _ _ | apply Chg.drew | apply Chg.drewN | refine Chg.alloc ?_ _)) G1.out))
      clear X_32
      have q0_40 := Chg.cell (Chg.trans (by repeat (first | exact Chg.refl _ _ | apply Chg.drew | apply Chg.drewN | refine Chg.alloc ?_ _)) G1.out) q0_33 id
      clear q0_33
      have q1_41 := Chg.cell (Chg.trans (by repeat (first | exact Chg.refl _ _ | apply Chg.drew | apply Chg.drewN | refine Chg.alloc ?_ _)) G1.out) q1_34 id
      clear q1_34
      have q2_42 := Chg.cell (Chg.trans (by repeat (first | exact Chg.refl _ _ | apply Chg.drew | apply Chg.drewN | refine Chg.alloc ?_ _)) G1.out) q2_35 id
      clear q2_35
      clear G1
      rw [HR.out]
      go_wp2_with fail
      refine (isLaidOut_any _ S _ r (X_39.out.up (by repeat (first | exact Chg.refl _ _ | apply Chg.drew | apply Chg.drewN | refine Chg.alloc ?_ _))) HS.out).mono ?_
      rintro e w43 ⟨rfl, g1⟩
      have G1 := Lib.hid g1
      have hz43 := G1.out.size
      clear g1
      have U_44 := Lib.hid (Chg.trans U_38.out (Chg.trans (by repeat (first | exact Chg.refl _ _ | apply Chg.drew | apply Chg.drewN | refine Chg.alloc ?_ _)) G1.out))
      clear U_38
      have X_45 := Lib.hid (X_39.out.up (Chg.trans (by repeat (first | exact Chg.refl _ _ | apply Chg.drew | apply Chg.drewN | refine Chg.alloc ?_ _)) G1.out))
      clear X_39
      have q0_46 := Chg.cell (Chg.trans (by repeat (first | exact Chg.refl _ _ | apply Chg.drew | apply Chg.drewN | refine Chg.alloc ?_ _)) G1.out) q0_40 id
      clear q0_40
      have q1_47 := Chg.cell (Chg.trans (by repeat (first | exact Chg.refl _ _ | apply Chg.drew | apply Chg.drewN | refine Chg.alloc ?_ _)) G1.out) q1_41 id
      clear q1_41
      have q2_48 := Chg.cell (Chg.trans (by repeat (first | exact Chg.refl _ _ | apply Chg.drew | apply Chg.drewN | refine Chg.alloc ?_ _)) G1.out) q2_42 id
      clear q2_42
      clear G1
      rw [HL.out]
      go_wp2
      go_ret
      exact ⟨ret_int HB.out.symm, (Chg.trans U_44.out (by repeat (first | exact Chg.refl _ _ | apply Chg.drew | apply Chg.drewN | refine Chg.alloc ?_ _)))⟩
end Go.Proofs.Ytnjfhpgmogopnaa
