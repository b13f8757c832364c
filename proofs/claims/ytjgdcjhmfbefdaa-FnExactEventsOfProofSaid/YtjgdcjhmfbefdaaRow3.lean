/- Rows by value and behind a pointer: their tests and their codes. No condition. -/
import Derived.Test.YtjgdcjhmfbefdaaRow2
namespace Go.Proofs.Ytjgdcjhmfbefdaa
open Go.ChangeShapes Go.WideShapes Go.ChangeAt Go.RowKit
structure RowM where
  d : Int
  c : Int
  xs : List Int
/-- a row by value -/
def RowV (w : World) (S : Nat → Prop) (v : Value) (r : RowM) : Prop := ∃ s, v = .agg #[.int .i64 r.d, .int .i64 r.c, s] ∧ Ints w S s r.xs ∧ I64 r.d ∧ I64 r.c
theorem RowV.keep {S T : Nat → Prop} {w w' : World} {v : Value} {r : RowM} (h : RowV w S v r) (g : Chg T w w') (hd : ∀ b, b < w.heap.size → S b → ¬ T b) : RowV w' S v r :=
  let ⟨s, h1, h2, h3⟩ := h; ⟨s, h1, h2.keep g hd, h3⟩
theorem RowV.up {S : Nat → Prop} {w w' : World} {v : Value} {r : RowM} (h : RowV w S v r) (g : Up w w') : RowV w' S v r := h.keep g fun _ _ _ h => h
theorem RowV.shape {w : World} {S : Nat → Prop} {v : Value} {r : RowM} (h : RowV w S v r) : ∃ A c, v = .agg #[.int .i64 r.d, .int .i64 r.c, .slice A r.xs.length c] ∧ Ints w S (.slice A r.xs.length c) r.xs ∧ r.xs.length ≤ c ∧ c ≤ 9223372036854775807 ∧ (I64 r.d ∧ I64 r.c) ∧ (A = none → c = 0) := by
  obtain ⟨s, h1, h2, h3, h4⟩ := h
  obtain ⟨A, c, rfl, h5, h6, h7⟩ := h2.shape
  exact ⟨A, c, h1, h2, h5, h6, ⟨h3, h4⟩, h7⟩
/-- a row behind a pointer -/
def RowAt (w : World) (S : Nat → Prop) (b o : Nat) (r : RowM) : Prop :=
  ∃ A c, w.cell? ⟨b, o, none⟩ = some (.int .i64 r.d) ∧ w.cell? ⟨b, o + 1, none⟩ = some (.int .i64 r.c) ∧ w.cell? ⟨b, o + 2, none⟩ = some (.slice A r.xs.length c) ∧ Ints w S (.slice A r.xs.length c) r.xs ∧ r.xs.length ≤ c ∧ c ≤ 9223372036854775807 ∧ (I64 r.d ∧ I64 r.c) ∧ b < w.heap.size
theorem RowAt.keep {S T : Nat → Prop} {w w' : World} {b o : Nat} {r : RowM} (h : RowAt w S b o r) (g : Chg T w w') (hd : ∀ b, b < w.heap.size → S b → ¬ T b) (hb : ¬ T b) : RowAt w' S b o r := by
  obtain ⟨A, c, h1, h2, h3, h4, h5, h6, h7, h8⟩ := h
  exact ⟨A, c, g.cell h1 hb, g.cell h2 hb, g.cell h3 hb, h4.keep g hd, h5, h6, h7, Nat.lt_of_lt_of_le h8 g.size⟩
theorem RowAt.up {S : Nat → Prop} {w w' : World} {b o : Nat} {r : RowM} (h : RowAt w S b o r) (g : Up w w') : RowAt w' S b o r := h.keep g (fun _ _ _ h => h) id
theorem RowAt.box {w : World} {S : Nat → Prop} {v : Value} {r : RowM} (h : RowV w S v r) (t : TypeId) : ∃ cs, v = .agg cs ∧ RowAt (w.alloc (.cells cs t)) S w.heap.size 0 r := by
  obtain ⟨A, c, rfl, h2, h3, h4, h5, _⟩ := h.shape
  exact ⟨_, rfl, A, c, cell_new _ _ _ _, cell_new _ _ _ _, cell_new _ _ _ _, h2.up ((Chg.refl _ _).alloc _), h3, h4, h5, by simp⟩
theorem rowB_no1 {r : RowM} (h : ¬ (r.d = 1 ∨ r.d = -1)) : rowB r.d r.c r.xs = false := by unfold rowB dirP; rw [decide_eq_false h]; rfl
theorem rowB_no2 {r : RowM} (h : ¬ (1 ≤ r.c ∧ r.c ≤ 4)) : rowB r.d r.c r.xs = false := by unfold rowB carP inB; rw [decide_eq_false h, Bool.and_false]; rfl
theorem rowB_eq {r : RowM} (h : r.d = 1 ∨ r.d = -1) (h2 : 1 ≤ r.c ∧ r.c ≤ 4) : rowB r.d r.c r.xs = stB r.xs := by unfold rowB dirP carP inB; rw [decide_eq_true h, decide_eq_true h2]; rfl
set_option maxHeartbeats 1000000 in
theorem l15Row_any (w : World) (S : Nat → Prop) (b o : Nat) (r : RowM) (h : RowAt w S b o r) :
    Calls Try.prog 233 #[.pointer (some ⟨b, o, none⟩)] w fun e w' => e = .returned (.bool (rowB r.d r.c r.xs)) ∧ w = w' := by
  obtain ⟨A, c, h1, h2, h3, h4, h5, h6, ⟨h7, h8⟩, h9⟩ := h
  have H := Lib.hid h4
  clear h4
  by_cases hd1 : r.d = 1
  · have k1 : (r.d == 1) = true := by simpa using hd1
    by_cases hc : 1 ≤ r.c ∧ r.c ≤ 4
    · have HB := Lib.hid (rowB_eq (.inl hd1) hc)
      have HC := Lib.hid hc
      clear hd1 hc h7 h8
      go_enter Try.func233, Try.ntmps233
      go_wp2_with fail
      refine (l00In_yes _ _ _ _ HC.out).mono ?_
      rintro e w' ⟨rfl, rfl⟩
      go_wp2_with fail
      refine (l14Ok_any _ S _ r.xs H.out).mono ?_
      rintro e w' ⟨rfl, rfl⟩
      go_wp2
      go_ret
      exact ⟨ret_bool HB.out.symm, rfl⟩
    · have HB := Lib.hid (rowB_no2 hc)
      have HC := Lib.hid (show r.c < 1 ∨ 4 < r.c by omega)
      clear hd1 hc h7 h8
      go_enter Try.func233, Try.ntmps233
      go_wp2_with fail
      refine (l00In_no _ _ _ _ HC.out).mono ?_
      rintro e w' ⟨rfl, rfl⟩
      go_wp2
      go_ret
      exact ⟨ret_bool HB.out.symm, rfl⟩
  · have k1 : (r.d == 1) = false := by simpa using hd1
    by_cases hd2 : r.d = -1
    · have k2 : (r.d == -1) = true := by simpa using hd2
      by_cases hc : 1 ≤ r.c ∧ r.c ≤ 4
      · have HB := Lib.hid (rowB_eq (.inr hd2) hc)
        have HC := Lib.hid hc
        clear hd1 hd2 hc h7 h8
        go_enter Try.func233, Try.ntmps233
        go_wp2_with fail
        refine (l00In_yes _ _ _ _ HC.out).mono ?_
        rintro e w' ⟨rfl, rfl⟩
        go_wp2_with fail
        refine (l14Ok_any _ S _ r.xs H.out).mono ?_
        rintro e w' ⟨rfl, rfl⟩
        go_wp2
        go_ret
        exact ⟨ret_bool HB.out.symm, rfl⟩
      · have HB := Lib.hid (rowB_no2 hc)
        have HC := Lib.hid (show r.c < 1 ∨ 4 < r.c by omega)
        clear hd1 hd2 hc h7 h8
        go_enter Try.func233, Try.ntmps233
        go_wp2_with fail
        refine (l00In_no _ _ _ _ HC.out).mono ?_
        rintro e w' ⟨rfl, rfl⟩
        go_wp2
        go_ret
        exact ⟨ret_bool HB.out.symm, rfl⟩
    · have k2 : (r.d == -1) = false := by simpa using hd2
      have HB := Lib.hid (rowB_no1 (r := r) (fun hh => hh.elim hd1 hd2))
      clear hd1 hd2 h7 h8
      go_enter Try.func233, Try.ntmps233
      go_wp2
      go_ret
      exact ⟨ret_bool HB.out.symm, rfl⟩
set_option maxHeartbeats 1000000 in
theorem ValidRow_any (w : World) (S : Nat → Prop) (v : Value) (r : RowM) (h : RowV w S v r) :
    Calls Try.prog 237 #[v] w fun e w' => e = .returned (.bool (rowB r.d r.c r.xs)) ∧ Up w w' := by
  obtain ⟨A, c, rfl, h4, h5, h6, ⟨h7, h8⟩, -⟩ := h.shape
  have H := Lib.hid h4
  clear h4 h
  by_cases hd : r.d = 1 ∨ r.d = -1
  · have HD := Lib.hid hd
    by_cases hc : 1 ≤ r.c ∧ r.c ≤ 4
    · have HB := Lib.hid (rowB_eq hd hc)
      have HC := Lib.hid hc
      clear hd hc h7 h8
      go_enter Try.func237, Try.ntmps237
      go_wp2_with fail
      refine (isDirection_yes _ _ HD.out).mono ?_
      rintro e w' ⟨rfl, rfl⟩
      go_wp2_with fail
      refine (isCarrier_yes _ _ HC.out).mono ?_
      rintro e w' ⟨rfl, rfl⟩
      go_wp2_with fail
      refine (areStitches_any _ S _ r.xs (H.out.up (by repeat (first | exact Chg.refl _ _ | apply Chg.drew | apply Chg.drewN | refine Chg.alloc ?_ _)))).mono ?_
      rintro e w' ⟨rfl, rfl⟩
      go_wp2
      go_ret
      exact ⟨ret_bool HB.out.symm, (by repeat (first | exact Chg.refl _ _ | apply Chg.drew | apply Chg.drewN | refine Chg.alloc ?_ _))⟩
    · have HB := Lib.hid (rowB_no2 hc)
      have HC := Lib.hid (show r.c < 1 ∨ 4 < r.c by omega)
      clear hd hc h7 h8
      go_enter Try.func237, Try.ntmps237
      go_wp2_with fail
      refine (isDirection_yes _ _ HD.out).mono ?_
      rintro e w' ⟨rfl, rfl⟩
      go_wp2_with fail
      refine (isCarrier_no _ _ HC.out).mono ?_
      rintro e w' ⟨rfl, rfl⟩
      go_wp2
      go_ret
      exact ⟨ret_bool HB.out.symm, (by repeat (first | exact Chg.refl _ _ | apply Chg.drew | apply Chg.drewN | refine Chg.alloc ?_ _))⟩
  · have HB := Lib.hid (rowB_no1 (r := r) hd)
    have HD := Lib.hid (show r.d ≠ 1 ∧ r.d ≠ -1 from ⟨fun h => hd (.inl h), fun h => hd (.inr h)⟩)
    clear hd h7 h8
    go_enter Try.func237, Try.ntmps237
    go_wp2_with fail
    refine (isDirection_no _ _ HD.out).mono ?_
    rintro e w' ⟨rfl, rfl⟩
    go_wp2
    go_ret
    exact ⟨ret_bool HB.out.symm, (by repeat (first | exact Chg.refl _ _ | apply Chg.drew | apply Chg.drewN | refine Chg.alloc ?_ _))⟩
theorem laidB_1 {xs : List Int} (h : inB (sumF takenK xs) 1 8 = false) : laidB xs = false := by unfold laidB; rw [h]; rfl
theorem laidB_2 {xs : List Int} (h : inB (sumF takenK xs) 1 8 = true) : laidB xs = inB (sumF madeK xs) 1 8 := by unfold laidB; rw [h]; rfl
end Go.Proofs.Ytjgdcjhmfbefdaa
