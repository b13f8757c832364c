/- Braids by value and behind a pointer: their tests; the laws' own helpers on them. No condition but room. -/
import Derived.Test.YtmimbnpcokfnlaaRow10
import Derived.Test.YtmimbnpcokfnlaaBrM
namespace Go.Proofs.Ytmimbnpcokfnlaa
open Go.ChangeShapes Go.WideShapes Go.ChangeAt Go.RowKit
structure BraidM where
  n : Int
  ws : List Int
def BraidV (w : World) (S : Nat → Prop) (v : Value) (b : BraidM) : Prop := ∃ s, v = .agg #[.int .i64 b.n, s] ∧ Ints w S s b.ws ∧ I64 b.n
theorem BraidV.keep {S T : Nat → Prop} {w w' : World} {v : Value} {b : BraidM} (h : BraidV w S v b) (g : Chg T w w') (hd : ∀ b, b < w.heap.size → S b → ¬ T b) : BraidV w' S v b :=
  let ⟨s, h1, h2, h3⟩ := h; ⟨s, h1, h2.keep g hd, h3⟩
theorem BraidV.up {S : Nat → Prop} {w w' : World} {v : Value} {b : BraidM} (h : BraidV w S v b) (g : Up w w') : BraidV w' S v b := h.keep g fun _ _ _ h => h
theorem openBraid {w : World} {S : Nat → Prop} {v : Value} {b : BraidM} (h : BraidV w S v b) : ∃ A c, v = .agg #[.int .i64 b.n, .slice A b.ws.length c] ∧ Ints w S (.slice A b.ws.length c) b.ws ∧ b.ws.length ≤ c ∧ c ≤ 9223372036854775807 := by
  obtain ⟨s, h1, h2, h3⟩ := h
  obtain ⟨A, c, rfl, h5, h6, h7⟩ := h2.shape
  exact ⟨A, c, h1, h2, h5, h6⟩
def BraidAt (w : World) (S : Nat → Prop) (g o : Nat) (b : BraidM) : Prop :=
  ∃ A c, w.cell? ⟨g, o, none⟩ = some (.int .i64 b.n) ∧ w.cell? ⟨g, o + 1, none⟩ = some (.slice A b.ws.length c) ∧ Ints w S (.slice A b.ws.length c) b.ws ∧ b.ws.length ≤ c ∧ c ≤ 9223372036854775807 ∧ I64 b.n ∧ g < w.heap.size
theorem BraidAt.keep {S T : Nat → Prop} {w w' : World} {g o : Nat} {b : BraidM} (h : BraidAt w S g o b) (k : Chg T w w') (hd : ∀ b, b < w.heap.size → S b → ¬ T b) (hb : ¬ T g) : BraidAt w' S g o b := by
  obtain ⟨A, c, h1, h3, h4, h5, h6, h7, h8⟩ := h
  exact ⟨A, c, k.cell h1 hb, k.cell h3 hb, h4.keep k hd, h5, h6, h7, Nat.lt_of_lt_of_le h8 k.size⟩
theorem BraidAt.up {S : Nat → Prop} {w w' : World} {g o : Nat} {b : BraidM} (h : BraidAt w S g o b) (k : Up w w') : BraidAt w' S g o b := h.keep k (fun _ _ _ h => h) id
def badLetter (n k : Int) : Bool := !letterB n k
theorem badLetter_zero (n : Int) : badLetter n 0 = true := by simp [badLetter, letterB]
theorem badLetter_in {n k : Int} (h : ¬ k = 0) : badLetter n k = !inB k (1 - n) (n - 1) := by
  unfold badLetter letterB
  rw [bne_iff_ne.2 h, Bool.true_and]
theorem all_letters (n : Int) (ws : List Int) : ws.all (letterB n) = !ws.any (badLetter n) := by
  rw [Bool.eq_iff_iff, List.all_eq_true, Bool.not_eq_true', List.any_eq_false]
  simp [badLetter]
theorem areLetters1_any (k n : Int) (g : Nat) (w : World) (hc : w.cell? ⟨g, 0, none⟩ = some (.int .i64 n)) (hn : 0 ≤ n ∧ n ≤ 1000) :
    Calls Try.prog 196 #[.int .i64 k, .pointer (some ⟨g, 0, none⟩)] w fun e w' => e = .returned (.bool (badLetter n k)) ∧ w = w' := by
  obtain ⟨hn0, hn1⟩ := hn
  by_cases hk : k = 0
  · have HB := Lib.hid (badLetter_zero n)
    subst hk
    go_enter Try.func196, Try.ntmps196
    go_wp2
    go_ret
    exact ⟨ret_bool HB.out.symm, rfl⟩
  · have HB := Lib.hid (badLetter_in (n := n) hk)
    have hd : (k == 0) = false := by simpa using hk
    clear hk
    go_enter Try.func196, Try.ntmps196
    go_wp2_with fail
    refine (within_any _ _ _ _).mono ?_
    rintro e w' ⟨rfl, rfl⟩
    go_wp2
    go_ret
    exact ⟨ret_bool HB.out.symm, rfl⟩
set_option maxHeartbeats 1000000 in
theorem areLettersIdx_any (w : World) (S : Nat → Prop) (v : Value) (xs : List Int) (n : Int) (g : Nat) (hcc : w.cell? ⟨g, 0, none⟩ = some (.int .i64 n)) (hn : 0 ≤ n ∧ n ≤ 1000) (h : Ints w S v xs) :
    Calls Try.prog 197 #[v, .func (.func 196) #[] #[.pointer (some ⟨g, 0, none⟩)]] w fun e w' => e = .returned (.int .i64 (idxM (badLetter n) xs)) ∧ w = w' := by
  obtain ⟨A, c, rfl, hlc, hcm, -⟩ := h.shape
  have HNN := Lib.hid hn
  clear hn
  have H := Lib.hid h
  clear h
  go_enter Try.func197, Try.ntmps197
  go_wp2
  go_loop [5, 8] (fun _ i => ∃ j : Nat, j ≤ xs.length ∧ i = .int .i64 j ∧ Hid (∀ i (hi : i < xs.length), i < j → (badLetter n) xs[i] = false)) (fun _ i => xs.length - (intOf i).toNat)
  case atStart => exact ⟨0, by omega, rfl, fun i hi h => by omega⟩
  case round =>
    obtain ⟨j, hj, rfl, hp⟩ := hrel
    by_cases hlt : j < xs.length
    · obtain ⟨b, o, rfl, -, hc⟩ := H.out.ix hlt
      have f1 := hc j hlt
      rw [ix_eq hlt] at f1
      clear hc
      cases hk : (badLetter n) xs[j] with
      | true =>
        have HB := Lib.hid (idxM_at hlt hk hp.out)
        have HK := Lib.hid hk
        clear hk
        go_wp2_with fail
        refine (areLetters1_any _ n g _ hcc HNN.out).mono ?_
        rintro e w' ⟨rfl, rfl⟩
        rw [HK.out]
        go_wp2
        go_ret
        exact ⟨ret_int HB.out.symm, rfl⟩
      | false =>
        have HK := Lib.hid hk
        clear hk
        go_wp2_with fail
        refine (areLetters1_any _ n g _ hcc HNN.out).mono ?_
        rintro e w' ⟨rfl, rfl⟩
        rw [HK.out]
        go_wp2
        go_round
        case rel => exact ⟨j + 1, by omega, by go_num, fun i hi h => by
          by_cases e : i = j
          · subst e; exact HK.out
          · exact hp.out i hi (by omega)⟩
        case measure => simp [intOf]; omega
    · have HB := Lib.hid (idxM_none (p := (badLetter n)) (xs := xs) (fun i hi => hp.out i hi (by omega)))
      go_wp2
      go_ret
      exact ⟨ret_int HB.out.symm, rfl⟩
theorem areLettersHas_any (w : World) (S : Nat → Prop) (v : Value) (xs : List Int) (n : Int) (g : Nat) (hcc : w.cell? ⟨g, 0, none⟩ = some (.int .i64 n)) (hn : 0 ≤ n ∧ n ≤ 1000) (h : Ints w S v xs) :
    Calls Try.prog 142 #[v, .func (.func 196) #[] #[.pointer (some ⟨g, 0, none⟩)]] w fun e w' => e = .returned (.bool (xs.any (badLetter n))) ∧ w = w' := by
  obtain ⟨A, c, rfl, hlc, hcm, -⟩ := h.shape
  have HNN := Lib.hid hn
  clear hn
  have H := Lib.hid h
  have HA := Lib.hid (idxM_any (badLetter n) xs)
  have hb := idxM_bd (badLetter n) xs
  clear h
  go_enter Try.func142, Try.ntmps142
  go_wp2_with fail
  refine (areLettersIdx_any _ S _ xs n g hcc HNN.out H.out).mono ?_
  rintro e w' ⟨rfl, rfl⟩
  go_wp2
  go_ret
  exact ⟨ret_bool (by rw [← HA.out]), rfl⟩
theorem areLetters_any (w : World) (S : Nat → Prop) (v : Value) (n : Int) (ws : List Int) (h : Ints w S v ws) (hn : 0 ≤ n ∧ n ≤ 1000) :
    Calls Try.prog 141 #[.int .i64 n, v] w fun e w' => e = .returned (.bool (ws.all (letterB n))) ∧ Up w w' := by
  obtain ⟨A, c, rfl, hlc, hcm, -⟩ := h.shape
  have H := Lib.hid h
  have HN := Lib.hid hn
  have HA := Lib.hid (all_letters n ws)
  clear h hn
  go_enter Try.func141, Try.ntmps141
  go_wp2_with fail
  refine (areLettersHas_any _ S _ ws n _ (cell_new _ _ _ 0) HN.out (H.out.up (by repeat (first | exact Chg.refl _ _ | apply Chg.drew | apply Chg.drewN | refine Chg.alloc ?_ _)))).mono ?_
  rintro e w' ⟨rfl, rfl⟩
  go_wp2
  go_ret
  exact ⟨ret_bool HA.out.symm, (by repeat (first | exact Chg.refl _ _ | apply Chg.drew | apply Chg.drewN | refine Chg.alloc ?_ _))⟩
theorem isStrands_any (n : Int) (w : World) :
    Calls Try.prog 140 #[.int .i64 n] w fun e w' => e = .returned (.bool (inB n 0 12)) ∧ w = w' := by
  go_enter Try.func140, Try.ntmps140
  go_wp2_with fail
  refine (within_any _ _ _ _).mono ?_
  rintro e w' ⟨rfl, rfl⟩
  go_wp2
  go_ret
  exact ⟨rfl, rfl⟩
theorem braidB_1 {n : Int} {ws : List Int} (h : inB n 0 12 = false) : braidB n ws = false := by unfold braidB; rw [h]; rfl
theorem braidB_2 {n : Int} {ws : List Int} (h : ¬ ws.length ≤ 40) : braidB n ws = false := by unfold braidB; rw [decide_eq_false h, Bool.and_false]; rfl
theorem braidB_3 {n : Int} {ws : List Int} (h : inB n 0 12 = true) (h2 : ws.length ≤ 40) : braidB n ws = ws.all (letterB n) := by unfold braidB; rw [h, decide_eq_true h2]; rfl
theorem letters_all {n : Int} {ws : List Int} (h : ∀ i (hi : i < ws.length), letterB n ws[i] = true) : ws.all (letterB n) = true := List.all_eq_true.2 fun x hx => by
  obtain ⟨i, hi, rfl⟩ := List.getElem_of_mem hx
  exact h i hi
theorem letters_not {n : Int} {ws : List Int} {i : Nat} (hi : i < ws.length) (h : letterB n ws[i] = false) : ws.all (letterB n) = false := by
  rw [Bool.eq_false_iff]
  intro hh
  rw [List.all_eq_true.1 hh _ (List.getElem_mem hi)] at h
  cases h
set_option maxHeartbeats 1000000 in
theorem ValidBraid_any (w : World) (S : Nat → Prop) (v : Value) (b : BraidM) (h : BraidV w S v b) :
    Calls Try.prog 77 #[v] w fun e w' => e = .returned (.bool (braidB b.n b.ws)) ∧ Up w w' := by
  obtain ⟨A, c, rfl, h4, h5, h6⟩ := openBraid h
  have H := Lib.hid h4
  have U0 := Lib.hid (Chg.refl Nowhere w)
  clear h h4
  cases hn : inB b.n 0 12 with
  | false =>
    have HB := Lib.hid (braidB_1 (ws := b.ws) hn)
    have HN := Lib.hid hn
    clear hn
    have U_1 := Lib.hid (Chg.trans U0.out ((Chg.refl Nowhere w).alloc (.cells #[.int .i64 b.n, .slice A b.ws.length c] 44)))
    clear U0
    have I_2 := Lib.hid (H.out.up ((Chg.refl Nowhere w).alloc (.cells #[.int .i64 b.n, .slice A b.ws.length c] 44)))
    clear H
    have q0_3 := (show (w.alloc (.cells #[.int .i64 b.n, .slice A b.ws.length c] 44)).cell? ⟨w.heap.size, 0, none⟩ = some (.int .i64 b.n) from cell_new _ _ _ _)
    have q1_4 := (show (w.alloc (.cells #[.int .i64 b.n, .slice A b.ws.length c] 44)).cell? ⟨w.heap.size, 1, none⟩ = some (.slice A b.ws.length c) from cell_new _ _ _ _)
    have hbx5 : w.heap.size < (w.alloc (.cells #[.int .i64 b.n, .slice A b.ws.length c] 44)).heap.size := by simp
    go_enter Try.func77, Try.ntmps77
    go_wp2_with fail
    refine (isStrands_any _ _).mono ?_
    rintro e w' ⟨rfl, rfl⟩
    rw [HN.out]
    go_wp2
    go_ret
    exact ⟨ret_bool HB.out.symm, (Chg.trans U_1.out (by repeat (first | exact Chg.refl _ _ | apply Chg.drew | apply Chg.drewN | refine Chg.alloc ?_ _)))⟩
  | true =>
    have hbd := of_decide_eq_true hn
    have HN := Lib.hid hn
    by_cases hl : b.ws.length ≤ 40
    · have HB := Lib.hid (braidB_3 hn hl)
      obtain ⟨hb0, hb1⟩ := hbd
      clear hn
      have U_6 := Lib.hid (Chg.trans U0.out ((Chg.refl Nowhere w).alloc (.cells #[.int .i64 b.n, .slice A b.ws.length c] 44)))
      clear U0
      have I_7 := Lib.hid (H.out.up ((Chg.refl Nowhere w).alloc (.cells #[.int .i64 b.n, .slice A b.ws.length c] 44)))
      clear H
      have q0_8 := (show (w.alloc (.cells #[.int .i64 b.n, .slice A b.ws.length c] 44)).cell? ⟨w.heap.size, 0, none⟩ = some (.int .i64 b.n) from cell_new _ _ _ _)
      have q1_9 := (show (w.alloc (.cells #[.int .i64 b.n, .slice A b.ws.length c] 44)).cell? ⟨w.heap.size, 1, none⟩ = some (.slice A b.ws.length c) from cell_new _ _ _ _)
      have hbx10 : w.heap.size < (w.alloc (.cells #[.int .i64 b.n, .slice A b.ws.length c] 44)).heap.size := by simp
      go_enter Try.func77, Try.ntmps77
      go_wp2_with fail
      refine (isStrands_any _ _).mono ?_
      rintro e w' ⟨rfl, rfl⟩
      rw [HN.out]
      go_wp2_with fail
      refine (areLetters_any _ S _ b.n b.ws (I_7.out.up (by repeat (first | exact Chg.refl _ _ | apply Chg.drew | apply Chg.drewN | refine Chg.alloc ?_ _))) ⟨by omega, by omega⟩).mono ?_
      rintro e w11 ⟨rfl, g1⟩
      have G1 := Lib.hid g1
      have hz11 := G1.out.size
      clear g1
      have U_12 := Lib.hid (Chg.trans U_6.out (Chg.trans (by repeat (first | exact Chg.refl _ _ | apply Chg.drew | apply Chg.drewN | refine Chg.alloc ?_ _)) G1.out))
      clear U_6
      have I_13 := Lib.hid (I_7.out.up (Chg.trans (by repeat (first | exact Chg.refl _ _ | apply Chg.drew | apply Chg.drewN | refine Chg.alloc ?_ _)) G1.out))
      clear I_7
      have q0_14 := Chg.cell (Chg.trans (by repeat (first | exact Chg.refl _ _ | apply Chg.drew | apply Chg.drewN | refine Chg.alloc ?_ _)) G1.out) q0_8 id
      clear q0_8
      have q1_15 := Chg.cell (Chg.trans (by repeat (first | exact Chg.refl _ _ | apply Chg.drew | apply Chg.drewN | refine Chg.alloc ?_ _)) G1.out) q1_9 id
      clear q1_9
      clear G1
      go_wp2
      go_ret
      exact ⟨ret_bool HB.out.symm, (Chg.trans U_12.out (by repeat (first | exact Chg.refl _ _ | apply Chg.drew | apply Chg.drewN | refine Chg.alloc ?_ _)))⟩
    · have HB := Lib.hid (braidB_2 (n := b.n) hl)
      clear hn hbd
      have U_16 := Lib.hid (Chg.trans U0.out ((Chg.refl Nowhere w).alloc (.cells #[.int .i64 b.n, .slice A b.ws.length c] 44)))
      clear U0
      have I_17 := Lib.hid (H.out.up ((Chg.refl Nowhere w).alloc (.cells #[.int .i64 b.n, .slice A b.ws.length c] 44)))
      clear H
      have q0_18 := (show (w.alloc (.cells #[.int .i64 b.n, .slice A b.ws.length c] 44)).cell? ⟨w.heap.size, 0, none⟩ = some (.int .i64 b.n) from cell_new _ _ _ _)
      have q1_19 := (show (w.alloc (.cells #[.int .i64 b.n, .slice A b.ws.length c] 44)).cell? ⟨w.heap.size, 1, none⟩ = some (.slice A b.ws.length c) from cell_new _ _ _ _)
      have hbx20 : w.heap.size < (w.alloc (.cells #[.int .i64 b.n, .slice A b.ws.length c] 44)).heap.size := by simp
      go_enter Try.func77, Try.ntmps77
      go_wp2_with fail
      refine (isStrands_any _ _).mono ?_
      rintro e w' ⟨rfl, rfl⟩
      rw [HN.out]
      go_wp2
      go_ret
      exact ⟨ret_bool HB.out.symm, (Chg.trans U_16.out (by repeat (first | exact Chg.refl _ _ | apply Chg.drew | apply Chg.drewN | refine Chg.alloc ?_ _)))⟩
set_option maxHeartbeats 1000000 in
theorem l03Letters_any (w : World) (S : Nat → Prop) (v : Value) (n : Int) (ws : List Int) (h : Ints w S v ws) (hn : 0 ≤ n ∧ n ≤ 1000) :
    Calls Try.prog 136 #[v, .int .i64 n] w fun e w' => e = .returned (.bool (ws.all (letterB n))) ∧ w = w' := by
  obtain ⟨A, c, rfl, hlc, hcm, -⟩ := h.shape
  obtain ⟨hn0, hn1⟩ := hn
  have H := Lib.hid h
  clear h
  go_enter Try.func136, Try.ntmps136
  go_wp2
  go_loop [5] (fun i => ∃ j : Nat, j ≤ ws.length ∧ i = .int .i64 j ∧ Hid (∀ i (hi : i < ws.length), i < j → letterB n ws[i] = true)) (fun i => ws.length - (intOf i).toNat)
  case atStart => exact ⟨0, by omega, rfl, fun i hi h => by omega⟩
  case round =>
    obtain ⟨j, hj, rfl, hp⟩ := hrel
    by_cases hlt : j < ws.length
    · obtain ⟨b, o, rfl, -, hc⟩ := H.out.ix hlt
      have f1 := hc j hlt
      rw [ix_eq hlt] at f1
      clear hc
      by_cases hk : ws[j] = 0
      · have HB := Lib.hid (letters_not (n := n) hlt (by rw [hk]; simp [letterB]))
        have hd : (ws[j] == 0) = true := by simpa using hk
        clear hk
        go_wp2
        go_ret
        exact ⟨ret_bool HB.out.symm, rfl⟩
      · have hd : (ws[j] == 0) = false := by simpa using hk
        have hL := show letterB n ws[j] = inB ws[j] (1 - n) (n - 1) by unfold letterB; rw [bne_iff_ne.2 hk, Bool.true_and]
        cases hi : inB ws[j] (1 - n) (n - 1) with
        | false =>
          have HB := Lib.hid (letters_not (n := n) hlt (by rw [hL, hi]))
          have HI := Lib.hid hi
          clear hk hi hL
          go_wp2_with fail
          refine (l00In_any _ _ _ _).mono ?_
          rintro e w' ⟨rfl, rfl⟩
          rw [HI.out]
          go_wp2
          go_ret
          exact ⟨ret_bool HB.out.symm, rfl⟩
        | true =>
          have HB := Lib.hid (show letterB n ws[j] = true by rw [hL, hi])
          have HI := Lib.hid hi
          clear hk hi hL
          go_wp2_with fail
          refine (l00In_any _ _ _ _).mono ?_
          rintro e w' ⟨rfl, rfl⟩
          rw [HI.out]
          go_wp2
          go_round
          case rel => exact ⟨j + 1, by omega, by go_num, fun i hi h => by
            by_cases e : i = j
            · subst e; exact HB.out
            · exact hp.out i hi (by omega)⟩
          case measure => simp [intOf]; omega
    · have HB := Lib.hid (letters_all (n := n) (ws := ws) (fun i hi => hp.out i hi (by omega)))
      go_wp2
      go_ret
      exact ⟨ret_bool HB.out.symm, rfl⟩
set_option maxHeartbeats 2000000 in
theorem l03Ok_any (w : World) (S : Nat → Prop) (g o : Nat) (b : BraidM) (h : BraidAt w S g o b) :
    Calls Try.prog 74 #[.pointer (some ⟨g, o, none⟩)] w fun e w' => e = .returned (.bool (braidB b.n b.ws)) ∧ Up w w' := by
  obtain ⟨A, c, f0, f1, h4, h5, h6, ⟨hi0, hi1⟩, h8⟩ := h
  have H := Lib.hid h4
  clear h4
  cases hn : inB b.n 0 12 with
  | false =>
    have HB := Lib.hid (braidB_1 (ws := b.ws) hn)
    have HN := Lib.hid (show b.n < 0 ∨ 12 < b.n by have := of_decide_eq_false hn; omega)
    clear hn hi0 hi1
    go_enter Try.func74, Try.ntmps74
    go_wp2
    go_quiet ((go_at_call 64; exact quiet_left (l00In_no _ _ _ _ HN.out)))
    go_wp2
    go_ret
    exact ⟨ret_bool HB.out.symm, (by repeat (first | exact Chg.refl _ _ | apply Chg.drew | apply Chg.drewN | refine Chg.alloc ?_ _))⟩
  | true =>
    have hbd := of_decide_eq_true hn
    by_cases hl : b.ws.length ≤ 40
    · have HB := Lib.hid (braidB_3 hn hl)
      have hN := hbd
      have HN := Lib.hid hN
      have HN2 := Lib.hid (show 0 ≤ b.n ∧ b.n ≤ 1000 by omega)
      obtain ⟨hb0, hb1⟩ := hbd
      have hdl : decide ((b.ws.length : Int) ≤ 40) = true := decide_eq_true (by omega)
      clear hn hi0 hi1 hN hl
      go_enter Try.func74, Try.ntmps74
      go_wp2
      go_quiet (first | (go_at_call 64; exact quiet_left (l00In_yes _ _ _ _ HN.out)) | (go_at_call 136; exact quiet_left (l03Letters_any _ S _ b.n b.ws (H.out.up (by repeat (first | exact Chg.refl _ _ | apply Chg.drew | apply Chg.drewN | refine Chg.alloc ?_ _))) HN2.out)))
      go_wp2
      go_ret
      exact ⟨ret_bool HB.out.symm, (by repeat (first | exact Chg.refl _ _ | apply Chg.drew | apply Chg.drewN | refine Chg.alloc ?_ _))⟩
    · have HB := Lib.hid (braidB_2 (n := b.n) hl)
      have HN := Lib.hid hbd
      have hdl : decide ((b.ws.length : Int) ≤ 40) = false := decide_eq_false (by omega)
      clear hn hi0 hi1 hbd
      go_enter Try.func74, Try.ntmps74
      go_wp2
      go_quiet ((go_at_call 64; exact quiet_left (l00In_yes _ _ _ _ HN.out)))
      go_wp2
      go_ret
      exact ⟨ret_bool HB.out.symm, (by repeat (first | exact Chg.refl _ _ | apply Chg.drew | apply Chg.drewN | refine Chg.alloc ?_ _))⟩
theorem szBraid_ok (w : World) (S : Nat → Prop) (v : Value) (b : BraidM) (k : Int) (hk : 0 ≤ k ∧ k ≤ 1048576) (hl : (b.ws.length : Int) ≤ k) (h : BraidV w S v b) :
    Calls Try.prog 24 #[v, .int .i64 k] w fun e w' => e = .returned (.int .i64 (k - b.ws.length)) ∧ Up w w' := by
  obtain ⟨A, c, rfl, h4, h5, h6⟩ := openBraid h
  have I0 := Lib.hid h4
  have U0 := Lib.hid (Chg.refl Nowhere w)
  clear h h4
  have hd : decide (k - (b.ws.length : Int) < 0) = false := decide_eq_false (by omega)
  have U_1 := Lib.hid (Chg.trans U0.out ((Chg.refl Nowhere w).alloc (.cells #[.int .i64 b.n, .slice A b.ws.length c] 42)))
  clear U0
  have I_2 := Lib.hid (I0.out.up ((Chg.refl Nowhere w).alloc (.cells #[.int .i64 b.n, .slice A b.ws.length c] 42)))
  clear I0
  have q0_3 := (show (w.alloc (.cells #[.int .i64 b.n, .slice A b.ws.length c] 42)).cell? ⟨w.heap.size, 0, none⟩ = some (.int .i64 b.n) from cell_new _ _ _ _)
  have q1_4 := (show (w.alloc (.cells #[.int .i64 b.n, .slice A b.ws.length c] 42)).cell? ⟨w.heap.size, 1, none⟩ = some (.slice A b.ws.length c) from cell_new _ _ _ _)
  have hbx5 : w.heap.size < (w.alloc (.cells #[.int .i64 b.n, .slice A b.ws.length c] 42)).heap.size := by simp
  go_enter Try.func24, Try.ntmps24
  go_wp2_with fail
  refine (szInts_ok _ S _ b.ws k hk hl (I_2.out.up (by repeat (first | exact Chg.refl _ _ | apply Chg.drew | apply Chg.drewN | refine Chg.alloc ?_ _)))).mono ?_
  rintro e w' ⟨rfl, rfl⟩
  go_wp2
  go_ret
  exact ⟨rfl, (Chg.trans U_1.out (by repeat (first | exact Chg.refl _ _ | apply Chg.drew | apply Chg.drewN | refine Chg.alloc ?_ _)))⟩
theorem szBraid_no (w : World) (S : Nat → Prop) (v : Value) (b : BraidM) (k : Int) (hk : 0 ≤ k ∧ k ≤ 1048576) (hl : k < (b.ws.length : Int)) (h : BraidV w S v b) :
    Calls Try.prog 24 #[v, .int .i64 k] w fun e w' => e = .returned (.int .i64 (-1)) ∧ Up w w' := by
  obtain ⟨A, c, rfl, h4, h5, h6⟩ := openBraid h
  have I0 := Lib.hid h4
  have U0 := Lib.hid (Chg.refl Nowhere w)
  clear h h4
  have hd : decide ((-1 : Int) < 0) = true := rfl
  have U_1 := Lib.hid (Chg.trans U0.out ((Chg.refl Nowhere w).alloc (.cells #[.int .i64 b.n, .slice A b.ws.length c] 42)))
  clear U0
  have I_2 := Lib.hid (I0.out.up ((Chg.refl Nowhere w).alloc (.cells #[.int .i64 b.n, .slice A b.ws.length c] 42)))
  clear I0
  have q0_3 := (show (w.alloc (.cells #[.int .i64 b.n, .slice A b.ws.length c] 42)).cell? ⟨w.heap.size, 0, none⟩ = some (.int .i64 b.n) from cell_new _ _ _ _)
  have q1_4 := (show (w.alloc (.cells #[.int .i64 b.n, .slice A b.ws.length c] 42)).cell? ⟨w.heap.size, 1, none⟩ = some (.slice A b.ws.length c) from cell_new _ _ _ _)
  have hbx5 : w.heap.size < (w.alloc (.cells #[.int .i64 b.n, .slice A b.ws.length c] 42)).heap.size := by simp
  go_enter Try.func24, Try.ntmps24
  go_wp2_with fail
  refine (szInts_no _ S _ b.ws k hk hl (I_2.out.up (by repeat (first | exact Chg.refl _ _ | apply Chg.drew | apply Chg.drewN | refine Chg.alloc ?_ _)))).mono ?_
  rintro e w' ⟨rfl, rfl⟩
  go_wp2
  go_ret
  exact ⟨rfl, (Chg.trans U_1.out (by repeat (first | exact Chg.refl _ _ | apply Chg.drew | apply Chg.drewN | refine Chg.alloc ?_ _)))⟩
set_option maxHeartbeats 1000000 in
theorem toBraid_any (w : World) (S : Nat → Prop) (v : Value) (b : BraidM) (hb : cntInts b.ws ≤ 8388608) (h : BraidV w S v b) :
    Calls Try.prog 26 #[v] w fun e w' => ∃ u, e = .returned u ∧ BraidV w' (New w.heap.size w'.heap.size) u b ∧ Up w w' := by
  obtain ⟨A, c, rfl, h4, h5, h6⟩ := openBraid h
  have I0 := Lib.hid h4
  have U0 := Lib.hid (Chg.refl Nowhere w)
  obtain ⟨_, _, _, hi1⟩ := h
  have HI1 := Lib.hid hi1
  clear h4 hi1
  have U_1 := Lib.hid (Chg.trans U0.out ((Chg.refl Nowhere w).alloc (.cells #[.int .i64 b.n, .slice A b.ws.length c] 42)))
  clear U0
  have I_2 := Lib.hid (I0.out.up ((Chg.refl Nowhere w).alloc (.cells #[.int .i64 b.n, .slice A b.ws.length c] 42)))
  clear I0
  have q0_3 := (show (w.alloc (.cells #[.int .i64 b.n, .slice A b.ws.length c] 42)).cell? ⟨w.heap.size, 0, none⟩ = some (.int .i64 b.n) from cell_new _ _ _ _)
  have q1_4 := (show (w.alloc (.cells #[.int .i64 b.n, .slice A b.ws.length c] 42)).cell? ⟨w.heap.size, 1, none⟩ = some (.slice A b.ws.length c) from cell_new _ _ _ _)
  have hbx5 : w.heap.size < (w.alloc (.cells #[.int .i64 b.n, .slice A b.ws.length c] 42)).heap.size := by simp
  go_enter Try.func26, Try.ntmps26
  go_wp2_with fail
  refine (toInts _ S _ b.ws hb (I_2.out.up (by repeat (first | exact Chg.refl _ _ | apply Chg.drew | apply Chg.drewN | refine Chg.alloc ?_ _)))).mono ?_
  rintro e w6 ⟨v6, rfl, k1, g1⟩
  obtain ⟨A6, c6, rfl, hl6, hc6, -⟩ := k1.shape
  have K1 := Lib.hid k1
  clear k1
  have G1 := Lib.hid g1
  have hz6 := G1.out.size
  clear g1
  have U_7 := Lib.hid (Chg.trans U_1.out (Chg.trans (by repeat (first | exact Chg.refl _ _ | apply Chg.drew | apply Chg.drewN | refine Chg.alloc ?_ _)) G1.out))
  clear U_1
  have I_8 := Lib.hid (I_2.out.up (Chg.trans (by repeat (first | exact Chg.refl _ _ | apply Chg.drew | apply Chg.drewN | refine Chg.alloc ?_ _)) G1.out))
  clear I_2
  have q0_9 := Chg.cell (Chg.trans (by repeat (first | exact Chg.refl _ _ | apply Chg.drew | apply Chg.drewN | refine Chg.alloc ?_ _)) G1.out) q0_3 id
  clear q0_3
  have q1_10 := Chg.cell (Chg.trans (by repeat (first | exact Chg.refl _ _ | apply Chg.drew | apply Chg.drewN | refine Chg.alloc ?_ _)) G1.out) q1_4 id
  clear q1_4
  obtain ⟨x0_11c, x0_11f⟩ := (show CellF w6 ⟨w.heap.size + 1 + 1, 0, none⟩ (.int .i64 b.n) from CellF.up G1.out (by repeat (first | ((refine cellF_at ?_ rfl); (simp; done)) | refine CellF.up ((Chg.refl _ _).alloc _) ?_)))
  obtain ⟨x1_12c, x1_12f⟩ := (show CellF w6 ⟨w.heap.size + 1 + 1, 1, none⟩ (.slice none 0 0) from CellF.up G1.out (by repeat (first | ((refine cellF_at ?_ rfl); (simp; done)) | refine CellF.up ((Chg.refl _ _).alloc _) ?_)))
  obtain ⟨y0_13c, y0_13f⟩ := (show CellF w6 ⟨w.heap.size + 1, 0, none⟩ (.int .i64 0) from CellF.up G1.out (by repeat (first | ((refine cellF_at ?_ rfl); (simp; done)) | refine CellF.up ((Chg.refl _ _).alloc _) ?_)))
  obtain ⟨y1_14c, y1_14f⟩ := (show CellF w6 ⟨w.heap.size + 1, 1, none⟩ (.slice none 0 0) from CellF.up G1.out (by repeat (first | ((refine cellF_at ?_ rfl); (simp; done)) | refine CellF.up ((Chg.refl _ _).alloc _) ?_)))
  clear G1
  have K_15 := Lib.hid (K1.out)
  clear K1
  go_wp2
  have HC := Lib.hid (show Chg (fun b => b = w.heap.size + 1 ∨ b = w.heap.size + 1 + 1) w6 _ from Chg.setCell (Chg.setCell (Chg.setCell (Chg.refl _ _) (p := ⟨w.heap.size + 1 + 1, 1, none⟩) (.inl (.inr rfl)) (.slice A6 b.ws.length c6)) (p := ⟨w.heap.size + 1, 0, none⟩) (.inl (.inl rfl)) (.int .i64 b.n)) (p := ⟨w.heap.size + 1, 1, none⟩) (.inl (.inl rfl)) (.slice A6 b.ws.length c6))
  exact bodyPost_ret (v := .agg #[.int .i64 b.n, .slice A6 b.ws.length c6]) (by simp [results, Try.results26, go_sem, y0_13c, y1_14c]) rfl ⟨_, rfl, ⟨_, rfl, (K_15.out.keep HC.out (fun b _ hb hd => by have := hb.1; simp at this; omega)).mono (fun b _ hb => ⟨by have := hb.1; simp at this; omega, Nat.lt_of_lt_of_le hb.2 HC.out.size⟩), HI1.out⟩, Chg.new U_7.out HC.out (fun i hi hd => by omega)⟩
theorem eqBraid_same (w : World) (S T : Nat → Prop) (v u : Value) (b : BraidM) (h : BraidV w S v b) (h2 : BraidV w T u b) :
    Calls Try.prog 28 #[v, u] w fun e w' => e = .returned (.bool true) ∧ Up w w' := by
  obtain ⟨A, c, rfl, h4, h5, h6⟩ := openBraid h
  obtain ⟨A2, c2, rfl, h24, h25, h26⟩ := openBraid h2
  have I0 := Lib.hid h4
  have J0 := Lib.hid h24
  have U0 := Lib.hid (Chg.refl Nowhere w)
  clear h4 h24 h h2
  have e1 : (b.n != b.n) = false := by simp
  have U_1 := Lib.hid (Chg.trans U0.out ((Chg.refl Nowhere w).alloc (.cells #[.int .i64 b.n, .slice A b.ws.length c] 44)))
  clear U0
  have I_2 := Lib.hid (I0.out.up ((Chg.refl Nowhere w).alloc (.cells #[.int .i64 b.n, .slice A b.ws.length c] 44)))
  clear I0
  have J_3 := Lib.hid (J0.out.up ((Chg.refl Nowhere w).alloc (.cells #[.int .i64 b.n, .slice A b.ws.length c] 44)))
  clear J0
  have q0_4 := (show (w.alloc (.cells #[.int .i64 b.n, .slice A b.ws.length c] 44)).cell? ⟨w.heap.size, 0, none⟩ = some (.int .i64 b.n) from cell_new _ _ _ _)
  have q1_5 := (show (w.alloc (.cells #[.int .i64 b.n, .slice A b.ws.length c] 44)).cell? ⟨w.heap.size, 1, none⟩ = some (.slice A b.ws.length c) from cell_new _ _ _ _)
  have hbx6 : w.heap.size < (w.alloc (.cells #[.int .i64 b.n, .slice A b.ws.length c] 44)).heap.size := by simp
  have U_7 := Lib.hid (Chg.trans U_1.out ((Chg.refl Nowhere (w.alloc (.cells #[.int .i64 b.n, .slice A b.ws.length c] 44))).alloc (.cells #[.int .i64 b.n, .slice A2 b.ws.length c2] 44)))
  clear U_1
  have I_8 := Lib.hid (I_2.out.up ((Chg.refl Nowhere (w.alloc (.cells #[.int .i64 b.n, .slice A b.ws.length c] 44))).alloc (.cells #[.int .i64 b.n, .slice A2 b.ws.length c2] 44)))
  clear I_2
  have J_9 := Lib.hid (J_3.out.up ((Chg.refl Nowhere (w.alloc (.cells #[.int .i64 b.n, .slice A b.ws.length c] 44))).alloc (.cells #[.int .i64 b.n, .slice A2 b.ws.length c2] 44)))
  clear J_3
  have q0_10 := Chg.cell ((Chg.refl Nowhere (w.alloc (.cells #[.int .i64 b.n, .slice A b.ws.length c] 44))).alloc (.cells #[.int .i64 b.n, .slice A2 b.ws.length c2] 44)) q0_4 id
  clear q0_4
  have q1_11 := Chg.cell ((Chg.refl Nowhere (w.alloc (.cells #[.int .i64 b.n, .slice A b.ws.length c] 44))).alloc (.cells #[.int .i64 b.n, .slice A2 b.ws.length c2] 44)) q1_5 id
  clear q1_5
  have p0_12 := (show ((w.alloc (.cells #[.int .i64 b.n, .slice A b.ws.length c] 44)).alloc (.cells #[.int .i64 b.n, .slice A2 b.ws.length c2] 44)).cell? ⟨(w.alloc (.cells #[.int .i64 b.n, .slice A b.ws.length c] 44)).heap.size, 0, none⟩ = some (.int .i64 b.n) from cell_new _ _ _ _)
  have p1_13 := (show ((w.alloc (.cells #[.int .i64 b.n, .slice A b.ws.length c] 44)).alloc (.cells #[.int .i64 b.n, .slice A2 b.ws.length c2] 44)).cell? ⟨(w.alloc (.cells #[.int .i64 b.n, .slice A b.ws.length c] 44)).heap.size, 1, none⟩ = some (.slice A2 b.ws.length c2) from cell_new _ _ _ _)
  have hbx14 : (w.alloc (.cells #[.int .i64 b.n, .slice A b.ws.length c] 44)).heap.size < ((w.alloc (.cells #[.int .i64 b.n, .slice A b.ws.length c] 44)).alloc (.cells #[.int .i64 b.n, .slice A2 b.ws.length c2] 44)).heap.size := by simp
  go_enter Try.func28, Try.ntmps28
  go_wp2_with fail
  refine (eqInts _ S T _ _ b.ws (I_8.out.up (by repeat (first | exact Chg.refl _ _ | apply Chg.drew | apply Chg.drewN | refine Chg.alloc ?_ _))) (J_9.out.up (by repeat (first | exact Chg.refl _ _ | apply Chg.drew | apply Chg.drewN | refine Chg.alloc ?_ _)))).mono ?_
  rintro e w15 ⟨rfl, g1⟩
  have G1 := Lib.hid g1
  have hz15 := G1.out.size
  clear g1
  have U_16 := Lib.hid (Chg.trans U_7.out (Chg.trans (by repeat (first | exact Chg.refl _ _ | apply Chg.drew | apply Chg.drewN | refine Chg.alloc ?_ _)) G1.out))
  clear U_7
  have I_17 := Lib.hid (I_8.out.up (Chg.trans (by repeat (first | exact Chg.refl _ _ | apply Chg.drew | apply Chg.drewN | refine Chg.alloc ?_ _)) G1.out))
  clear I_8
  have J_18 := Lib.hid (J_9.out.up (Chg.trans (by repeat (first | exact Chg.refl _ _ | apply Chg.drew | apply Chg.drewN | refine Chg.alloc ?_ _)) G1.out))
  clear J_9
  have q0_19 := Chg.cell (Chg.trans (by repeat (first | exact Chg.refl _ _ | apply Chg.drew | apply Chg.drewN | refine Chg.alloc ?_ _)) G1.out) q0_10 id
  clear q0_10
  have q1_20 := Chg.cell (Chg.trans (by repeat (first | exact Chg.refl _ _ | apply Chg.drew | apply Chg.drewN | refine Chg.alloc ?_ _)) G1.out) q1_11 id
  clear q1_11
  have p0_21 := Chg.cell (Chg.trans (by repeat (first | exact Chg.refl _ _ | apply Chg.drew | apply Chg.drewN | refine Chg.alloc ?_ _)) G1.out) p0_12 id
  clear p0_12
  have p1_22 := Chg.cell (Chg.trans (by repeat (first | exact Chg.refl _ _ | apply Chg.drew | apply Chg.drewN | refine Chg.alloc ?_ _)) G1.out) p1_13 id
  clear p1_13
  clear G1
  go_wp2
  go_ret
  exact ⟨rfl, (Chg.trans U_16.out (by repeat (first | exact Chg.refl _ _ | apply Chg.drew | apply Chg.drewN | refine Chg.alloc ?_ _)))⟩
theorem markBraid_any (w : World) (S : Nat → Prop) (v : Value) (b : BraidM) (k : Int) (hk : 0 ≤ k) (hb : k + cntInts b.ws ≤ 4611686018427387904) (h : BraidV w S v b) :
    Calls Try.prog 29 #[v, .int .i64 k] w fun e w' => e = .returned (.int .i64 (k + cntInts b.ws)) ∧ Chg S w w' := by
  obtain ⟨A, c, rfl, h4, h5, h6⟩ := openBraid h
  have I0 := Lib.hid h4
  have U0 := Lib.hid (Chg.refl Nowhere w)
  clear h4 h
  have U_1 := Lib.hid (Chg.trans U0.out ((Chg.refl Nowhere w).alloc (.cells #[.int .i64 b.n, .slice A b.ws.length c] 44)))
  clear U0
  have I_2 := Lib.hid (I0.out.up ((Chg.refl Nowhere w).alloc (.cells #[.int .i64 b.n, .slice A b.ws.length c] 44)))
  clear I0
  have q0_3 := (show (w.alloc (.cells #[.int .i64 b.n, .slice A b.ws.length c] 44)).cell? ⟨w.heap.size, 0, none⟩ = some (.int .i64 b.n) from cell_new _ _ _ _)
  have q1_4 := (show (w.alloc (.cells #[.int .i64 b.n, .slice A b.ws.length c] 44)).cell? ⟨w.heap.size, 1, none⟩ = some (.slice A b.ws.length c) from cell_new _ _ _ _)
  have hbx5 : w.heap.size < (w.alloc (.cells #[.int .i64 b.n, .slice A b.ws.length c] 44)).heap.size := by simp
  go_enter Try.func29, Try.ntmps29
  go_wp2_with fail
  refine (markInts _ S _ b.ws k hk hb (I_2.out.up (by repeat (first | exact Chg.refl _ _ | apply Chg.drew | apply Chg.drewN | refine Chg.alloc ?_ _)))).mono ?_
  rintro e w1 ⟨rfl, g1, k1⟩
  have G1 := Lib.hid g1
  clear g1 k1
  go_wp2
  go_ret
  exact ⟨rfl, Chg.trans (Chg.of_up (Chg.trans U_1.out (by repeat (first | exact Chg.refl _ _ | apply Chg.drew | apply Chg.drewN | refine Chg.alloc ?_ _)))) G1.out⟩
end Go.Proofs.Ytmimbnpcokfnlaa
