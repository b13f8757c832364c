/- Permutations: small functions on both sides. No condition. -/
import Derived.Test.YtjgdcjhmfbefdaaPermM
import Derived.Test.YtjgdcjhmfbefdaaRevQ
import Derived.Test.YtjgdcjhmfbefdaaPrfA
set_option linter.unusedSimpArgs false
set_option linter.unusedVariables false
set_option maxRecDepth 100000
set_option maxHeartbeats 1000000
namespace Go.Proofs.Ytjgdcjhmfbefdaa
open Go.ChangeShapes Go.WideShapes Go.ChangeAt Go.RowKit
theorem has_any (w : World) (S : Nat → Prop) (v : Value) (xs : List Int) (x : Int) (h : Ints w S v xs) :
    Calls Try.prog 70 #[v, .int .i64 x] w fun e w' => e = .returned (.bool (decide (x ∈ xs))) ∧ w = w' := by
  obtain ⟨A, c, rfl, hlc, hcm, -⟩ := h.shape
  have H := Lib.hid h
  clear h
  go_enter Try.func70, Try.ntmps70
  go_wp2
  go_loop [5] (fun i => ∃ j : Nat, j ≤ xs.length ∧ i = .int .i64 j ∧ Hid (x ∉ xs.take j)) (fun i => xs.length - (intOf i).toNat)
  case atStart => exact ⟨0, by omega, rfl, by simp [Hid]⟩
  case round =>
    obtain ⟨j, hj, rfl, hno⟩ := hrel
    by_cases hlt : j < xs.length
    · obtain ⟨b1, o1, rfl, -, hc⟩ := H.out.ix hlt
      have f1 := hc j hlt
      rw [ix_eq hlt] at f1
      clear hc
      by_cases he : xs[j] = x
      · have HM := Lib.hid (show decide (x ∈ xs) = true from decide_eq_true (he ▸ List.getElem_mem hlt))
        rw [he] at f1
        have e1 : (x == x) = true := by simp
        clear he
        go_wp2
        go_ret
        exact ⟨ret_bool HM.out.symm, rfl⟩
      · have e1 : (xs[j] == x) = false := by simpa using he
        have HE := Lib.hid he
        clear he
        go_wp2
        go_round
        case rel => exact ⟨j + 1, by omega, by go_num, by show x ∉ _; rw [List.take_succ_eq_append_getElem hlt]; intro hm; rcases List.mem_append.1 hm with hm | hm; exact hno.out hm; exact HE.out (by simpa [eq_comm] using hm)⟩
        case measure => simp [intOf]; omega
    · obtain rfl : j = xs.length := by omega
      have HM := Lib.hid (show decide (x ∈ xs) = false from decide_eq_false (by have := hno.out; rwa [List.take_length] at this))
      go_wp2
      go_ret
      exact ⟨ret_bool HM.out.symm, rfl⟩
theorem identity_any (w : World) (n : Nat) (hn : n ≤ 1000) :
    Calls Try.prog 157 #[.int .i64 n] w fun e w' => ∃ v, e = .returned v ∧ Ints w' (New w.heap.size w'.heap.size) v (identM n) ∧ Up w w' := by
  obtain ⟨i0, hi, hz0, hz1, hz2⟩ := info_parts info2
  have hmk : ∀ u : World, (Instr.makeSlice 37 (.int .i64 (n : Int)) (.int .i64 (n : Int))).run Try.prog u =
      .ok (.slice (some ⟨u.heap.size, 0, none⟩) n n) (u.alloc (.cells (madeCells #[.int .i64 0] n) 2)) := fun u => by
    have h := run_make (P := Try.prog) u 37 2 i0 (.int .i64 0) Try.underlying37 hi hz0 .i64 .i64 (n : Int) (n : Int) (by omega) (Int.le_refl _) (by rw [hz2]; omega) (by omega)
    simpa [hz1, Value.cells] using h
  go_enter Try.func157, Try.ntmps157
  go_wp2
  have Hi := Lib.hid hmk
  clear hmk hi hz0 hz1 hz2
  go_loopw [4, 9] (fun _ i wr => ∃ j : Nat, j ≤ n ∧ i = .int .i64 j ∧ Hid (Up w wr) ∧ Hid (Ints wr (fun b => b = w.heap.size) (.slice (some ⟨w.heap.size, 0, none⟩) n n) (identTo n j))) (fun _ i _ => n - (intOf i).toNat)
  case atStart => exact ⟨0, by omega, rfl, (Chg.refl _ _).alloc _, Lib.hid (Ints.zeros w _ n _ (by omega) rfl)⟩
  case round =>
    obtain ⟨j, hj, rfl, hg, hc⟩ := hrel
    by_cases hlt : j < n
    · have hlen := identTo_length n j
      have hI := hc.out
      obtain ⟨m, hm⟩ : ∃ m, m = (identTo n j).length := ⟨_, rfl⟩
      have hmn : m = n := hm.trans hlen
      have hI2 : Ints wr (fun b => b = w.heap.size) (.slice (some ⟨w.heap.size, 0, none⟩) (identTo n j).length n) (identTo n j) := by rw [hlen]; exact hI
      obtain ⟨b, o, hb, -, hcc⟩ := ints_ixf hI2 (i := j) (by omega)
      obtain ⟨rfl, rfl⟩ : w.heap.size = b ∧ 0 = o := by simpa using hb
      obtain ⟨f0, q0⟩ := hcc j (by omega)
      rw [Nat.zero_add] at f0 q0
      have HS := Lib.hid (hI2.set (k := j) (by omega) (x := j) (by unfold I64; omega))
      clear hcc hI hI2 hm hmn hlen
      go_wp2
      go_roundw
      case rel => exact ⟨j + 1, by omega, by go_num, hg.out.setCell (.inr (Nat.le_refl _)) _, by have h := HS.out; rw [identTo_length, Nat.zero_add] at h; exact h⟩
      case measure => simp [intOf]; omega
    · obtain rfl : j = n := by omega
      have HE := Lib.hid (identTo_all j)
      go_wp2
      go_ret
      exact ⟨_, rfl, by rw [← HE.out]; exact hc.out.mono (fun b hb h => by have h : b = w.heap.size := h; subst h; exact ⟨Nat.le_refl _, hb⟩), hg.out⟩
theorem l04Identity_any (w : World) (n : Nat) (hn : n ≤ 1000) :
    Calls Try.prog 212 #[.int .i64 n] w fun e w' => ∃ v, e = .returned v ∧ Ints w' (New w.heap.size w'.heap.size) v (identM n) ∧ Up w w' := by
  go_enter Try.func212, Try.ntmps212
  go_wp2
  go_loopw [3, 4] (fun v i wr => ∃ j : Nat, j ≤ n ∧ i = .int .i64 j ∧ Hid (OwnI wr w.heap.size v (identM j)) ∧ Hid (Up w wr)) (fun _ i _ => n - (intOf i).toNat)
  case atStart => exact ⟨0, by omega, rfl, OwnI.made w _ (Nat.le_refl _), (Chg.refl _ _).alloc _⟩
  case round =>
    obtain ⟨j, hj, rfl, ho, hg⟩ := hrel
    by_cases hlt : j < n
    · have HI := Lib.hid (show I64 (j : Int) by unfold I64; omega)
      have HL := Lib.hid (show (identM j).length ≤ 1099511627776 by rw [identM_length]; omega)
      have hsz := hg.out.size
      go_wp2_with (first | (at_builtin; refine wp_append_int rfl _ _ rfl w.heap.size _ (identM j) rfl (ho.out.alloc _) _ ((j : Int)) rfl (cell_new _ _ _ _) HI.out HL.out ?_ ?_; (simp; omega); intro v' w' h1 h2 h3; have HO := Lib.hid h1; have HG := Lib.hid h3; clear h1 h2 h3; go_wp2))
      go_roundw
      case rel => exact ⟨j + 1, by omega, by go_num, by rw [identM_succ]; exact HO.out, Chg.new (hg.out.alloc _) HG.out (fun i hi => by omega)⟩
      case measure => simp [intOf]; omega
    · obtain rfl : j = n := by omega
      go_wp2
      go_ret
      exact ⟨_, rfl, ho.out.ints, hg.out⟩
theorem l04Half_any (w : World) (n : Nat) (hn : n ≤ 1000) :
    Calls Try.prog 164 #[.int .i64 n] w fun e w' => ∃ v, e = .returned v ∧ Ints w' (New w.heap.size w'.heap.size) v (halfM n) ∧ Up w w' := by
  go_enter Try.func164, Try.ntmps164
  go_wp2
  go_loopw [3, 4] (fun v i wr => ∃ j : Nat, j ≤ n ∧ i = .int .i64 ((n : Int) - 1 - j) ∧ Hid (OwnI wr w.heap.size v (fallTo n j)) ∧ Hid (Up w wr)) (fun _ i _ => (intOf i + 1).toNat)
  case atStart => exact ⟨0, by omega, by simp, OwnI.made w _ (Nat.le_refl _), (Chg.refl _ _).alloc _⟩
  case round =>
    obtain ⟨j, hj, rfl, ho, hg⟩ := hrel
    by_cases hlt : j < n
    · have HI := Lib.hid (show I64 ((n : Int) - 1 - j) by unfold I64; omega)
      have HL := Lib.hid (show (fallTo n j).length ≤ 1099511627776 by rw [fallTo_length]; omega)
      have hsz := hg.out.size
      have hge : (0 : Int) ≤ (n : Int) - 1 - j := by omega
      go_wp2_with (first | (at_builtin; refine wp_append_int rfl _ _ rfl w.heap.size _ (fallTo n j) rfl (ho.out.alloc _) _ ((n : Int) - 1 - j) rfl (cell_new _ _ _ _) HI.out HL.out ?_ ?_; (simp; omega); intro v' w' h1 h2 h3; have HO := Lib.hid h1; have HG := Lib.hid h3; clear h1 h2 h3; go_wp2))
      go_roundw
      case rel => exact ⟨j + 1, by omega, by simp only [Value.int.injEq, true_and]; omega, by rw [fallTo_succ]; exact HO.out, Chg.new (hg.out.alloc _) HG.out (fun i hi => by omega)⟩
      case measure => simp [intOf]; omega
    · obtain rfl : j = n := by omega
      have hge : ¬ (0 : Int) ≤ (j : Int) - 1 - j := by omega
      have HE := Lib.hid (fallTo_all j)
      go_wp2
      go_ret
      exact ⟨_, rfl, by unfold halfM; rw [← HE.out]; exact ho.out.ints, hg.out⟩
theorem halfTwist_any (w : World) (n : Nat) (hn : n ≤ 1000) :
    Calls Try.prog 158 #[.int .i64 n] w fun e w' => ∃ v, e = .returned v ∧ Ints w' (New w.heap.size w'.heap.size) v (halfM n) ∧ Up w w' := by
  go_enter Try.func158, Try.ntmps158
  go_wp2_with fail
  refine (identity_any _ n hn).mono ?_
  rintro e w1 ⟨v, rfl, k1, g1⟩
  obtain ⟨A, c, rfl, hlc, hcm, -⟩ := k1.shape
  have K1 := Lib.hid k1
  have G1 := Lib.hid g1
  clear k1 g1
  go_wp2_with fail
  refine (reverse_any _ _ _ _ K1.out).mono ?_
  rintro e w2 ⟨rfl, g2, k2⟩
  have K2 := Lib.hid k2
  have G2 := Lib.hid g2
  clear k2 g2
  go_wp2
  go_ret
  exact ⟨_, rfl, K2.out.mono (fun b _ h => ⟨h.1, Nat.lt_of_lt_of_le h.2 G2.out.size⟩), Chg.new G1.out G2.out (fun i hi h => by have := h.1; omega)⟩
theorem l04Inverse_any (w : World) (S : Nat → Prop) (v : Value) (p : List Int) (h : Ints w S v p) (hp : permB p = true) :
    Calls Try.prog 240 #[v] w fun e w' => ∃ u, e = .returned u ∧ Ints w' (New w.heap.size w'.heap.size) u (invM p) ∧ Up w w' := by
  have hlp := permB_len hp
  obtain ⟨A, c, rfl, hlc, hcm, -⟩ := h.shape
  have H := Lib.hid h
  have HP := Lib.hid hp
  clear h hp
  obtain ⟨i0, hi, hz0, hz1, hz2⟩ := info_parts info2
  have hmk : ∀ u : World, (Instr.makeSlice 37 (.int .i64 (p.length : Int)) (.int .i64 (p.length : Int))).run Try.prog u =
      .ok (.slice (some ⟨u.heap.size, 0, none⟩) p.length p.length) (u.alloc (.cells (madeCells #[.int .i64 0] p.length) 2)) := fun u => by
    have h := run_make (P := Try.prog) u 37 2 i0 (.int .i64 0) Try.underlying37 hi hz0 .i64 .i64 (p.length : Int) (p.length : Int) (by omega) (Int.le_refl _) (by rw [hz2]; omega) (by omega)
    simpa [hz1, Value.cells] using h
  go_enter Try.func240, Try.ntmps240
  go_wp2
  have Hi := Lib.hid hmk
  clear hmk hi hz0 hz1 hz2
  go_loopw [4] (fun i wr => ∃ j : Nat, j ≤ p.length ∧ i = .int .i64 j ∧ Hid (Up w wr) ∧ Hid (Ints wr (fun b => b = w.heap.size) (.slice (some ⟨w.heap.size, 0, none⟩) p.length p.length) (invTo p j))) (fun i _ => p.length - (intOf i).toNat)
  case atStart => exact ⟨0, by omega, rfl, (Chg.refl _ _).alloc _, Lib.hid (Ints.zeros w _ p.length _ (by omega) rfl)⟩
  case round =>
    obtain ⟨j, hj, rfl, hg, hc⟩ := hrel
    by_cases hlt : j < p.length
    · have hlen := invTo_length p j
      obtain ⟨hx0, hx1⟩ := permB_ix HP.out hlt
      obtain ⟨kn, hk⟩ : ∃ kn : Nat, ix p j = kn := ⟨(ix p j).toNat, by omega⟩
      have hkn : kn < p.length := by omega
      obtain ⟨b1, o1, rfl, -, hc1⟩ := (H.out.up hg.out).ix hlt
      have f1 := hc1 j hlt
      rw [hk] at f1
      have hI2 : Ints wr (fun b => b = w.heap.size) (.slice (some ⟨w.heap.size, 0, none⟩) (invTo p j).length p.length) (invTo p j) := by rw [hlen]; exact hc.out
      obtain ⟨b, o, hb, -, hcc⟩ := ints_ixf hI2 (i := kn) (by omega)
      obtain ⟨rfl, rfl⟩ : w.heap.size = b ∧ 0 = o := by simpa using hb
      obtain ⟨f0, q0⟩ := hcc kn (by omega)
      rw [Nat.zero_add] at f0 q0
      have HS := Lib.hid (hI2.set (k := kn) (by omega) (x := j) (by unfold I64; omega))
      have HK := Lib.hid hk
      clear hcc hI2 hlen hk hx0 hx1 hc1
      go_wp2
      go_roundw
      case rel => exact ⟨j + 1, by omega, by go_num, hg.out.setCell (.inr (Nat.le_refl _)) _, by have h := HS.out; rw [invTo_length, Nat.zero_add] at h; rw [invTo, HK.out]; exact h⟩
      case measure => simp [intOf]; omega
    · obtain rfl : j = p.length := by omega
      go_wp2
      go_ret
      exact ⟨_, rfl, hc.out.mono (fun b hb h => by have h : b = w.heap.size := h; subst h; exact ⟨Nat.le_refl _, hb⟩), hg.out⟩
theorem invert_any (w : World) (S : Nat → Prop) (v : Value) (p : List Int) (h : Ints w S v p) (hp : permB p = true) :
    Calls Try.prog 216 #[v] w fun e w' => ∃ u, e = .returned u ∧ Ints w' (New w.heap.size w'.heap.size) u (invM p) ∧ Up w w' := by
  have hlp := permB_len hp
  obtain ⟨A, c, rfl, hlc, hcm, -⟩ := h.shape
  have H := Lib.hid h
  have HP := Lib.hid hp
  clear h hp
  obtain ⟨i0, hi, hz0, hz1, hz2⟩ := info_parts info2
  have hmk : ∀ u : World, (Instr.makeSlice 37 (.int .i64 (p.length : Int)) (.int .i64 (p.length : Int))).run Try.prog u =
      .ok (.slice (some ⟨u.heap.size, 0, none⟩) p.length p.length) (u.alloc (.cells (madeCells #[.int .i64 0] p.length) 2)) := fun u => by
    have h := run_make (P := Try.prog) u 37 2 i0 (.int .i64 0) Try.underlying37 hi hz0 .i64 .i64 (p.length : Int) (p.length : Int) (by omega) (Int.le_refl _) (by rw [hz2]; omega) (by omega)
    simpa [hz1, Value.cells] using h
  go_enter Try.func216, Try.ntmps216
  go_wp2
  have Hi := Lib.hid hmk
  clear hmk hi hz0 hz1 hz2
  go_loopw [4, 5, 11] (fun _ _ i wr => ∃ j : Nat, j ≤ p.length ∧ i = .int .i64 j ∧ Hid (Up w wr) ∧ Hid (Ints wr (fun b => b = w.heap.size) (.slice (some ⟨w.heap.size, 0, none⟩) p.length p.length) (invTo p j))) (fun _ _ i _ => p.length - (intOf i).toNat)
  case atStart => exact ⟨0, by omega, rfl, (Chg.refl _ _).alloc _, Lib.hid (Ints.zeros w _ p.length _ (by omega) rfl)⟩
  case round =>
    obtain ⟨j, hj, rfl, hg, hc⟩ := hrel
    by_cases hlt : j < p.length
    · have hlen := invTo_length p j
      obtain ⟨hx0, hx1⟩ := permB_ix HP.out hlt
      obtain ⟨kn, hk⟩ : ∃ kn : Nat, ix p j = kn := ⟨(ix p j).toNat, by omega⟩
      have hkn : kn < p.length := by omega
      obtain ⟨b1, o1, rfl, -, hc1⟩ := (H.out.up hg.out).ix hlt
      have f1 := hc1 j hlt
      rw [hk] at f1
      have hI2 : Ints wr (fun b => b = w.heap.size) (.slice (some ⟨w.heap.size, 0, none⟩) (invTo p j).length p.length) (invTo p j) := by rw [hlen]; exact hc.out
      obtain ⟨b, o, hb, -, hcc⟩ := ints_ixf hI2 (i := kn) (by omega)
      obtain ⟨rfl, rfl⟩ : w.heap.size = b ∧ 0 = o := by simpa using hb
      obtain ⟨f0, q0⟩ := hcc kn (by omega)
      rw [Nat.zero_add] at f0 q0
      have HS := Lib.hid (hI2.set (k := kn) (by omega) (x := j) (by unfold I64; omega))
      have HK := Lib.hid hk
      clear hcc hI2 hlen hk hx0 hx1 hc1
      go_wp2
      go_roundw
      case rel => exact ⟨j + 1, by omega, by go_num, hg.out.setCell (.inr (Nat.le_refl _)) _, by have h := HS.out; rw [invTo_length, Nat.zero_add] at h; rw [invTo, HK.out]; exact h⟩
      case measure => simp [intOf]; omega
    · obtain rfl : j = p.length := by omega
      go_wp2
      go_ret
      exact ⟨_, rfl, hc.out.mono (fun b hb h => by have h : b = w.heap.size := h; subst h; exact ⟨Nat.le_refl _, hb⟩), hg.out⟩
theorem descents_any (w : World) (S : Nat → Prop) (v : Value) (p : List Int) (h : Ints w S v p) (hl : p.length ≤ 1000) :
    Calls Try.prog 231 #[v] w fun e w' => ∃ u, e = .returned u ∧ Ints w' (New w.heap.size w'.heap.size) u (descM p) ∧ Up w w' := by
  obtain ⟨A, c, rfl, hlc, hcm, -⟩ := h.shape
  have H := Lib.hid h
  clear h
  go_enter Try.func231, Try.ntmps231
  go_wp2
  go_loopw [3, 4] (fun v i wr => ∃ j : Nat, j ≤ p.length - 1 ∧ i = .int .i64 (j : Int) ∧ Hid (OwnI wr w.heap.size v (descTo p j)) ∧ Hid (Up w wr)) (fun _ i _ => p.length + 1 - (intOf i).toNat)
  case atStart => exact ⟨0, by omega, by simp, OwnI.made w _ (Nat.le_refl _), (Chg.refl _ _).alloc _⟩
  case round =>
    obtain ⟨j, hj, rfl, ho, hg⟩ := hrel
    by_cases hlt : j + 1 < p.length
    · obtain ⟨b1, o1, rfl, -, hc⟩ := (H.out.up hg.out).ix hlt
      have f1 := hc (j + 1) hlt
      have f0 := hc j (by omega)
      have HL := Lib.hid (show (descTo p j).length ≤ 1099511627776 by have := descTo_length p j; omega)
      have HI := Lib.hid (show I64 (j : Int) by unfold I64; omega)
      have hsz := hg.out.size
      have hw1 : IntKind.i64.wrap ((j : Int) + 1) = (j : Int) + 1 := IntWalk.i64_in _ (by omega)
      have ht1 : ((j : Int) + 1).toNat = j + 1 := by omega
      have hw2 : ((j + 1 : Nat) : Int) - 1 = j := by omega
      clear hc
      by_cases hd : ix p (j + 1) < ix p j
      · have HD := Lib.hid (show descTo p (j + 1) = descTo p j ++ [(j : Int)] by rw [descTo, if_pos hd])
        have hb : decide (ix p (j + 1) < ix p j) = true := decide_eq_true hd
        clear hd
        go_wp2
        go_quiet (fail)
        go_wp2_with (first | (at_builtin; refine wp_append_int rfl _ _ rfl w.heap.size _ (descTo p j) rfl (ho.out.alloc _) _ ((j : Int)) rfl (cell_new _ _ _ _) HI.out HL.out ?_ ?_; (simp; omega); intro v' w' h1 h2 h3; have HO := Lib.hid h1; have HG := Lib.hid h3; clear h1 h2 h3; go_wp2))
        go_roundw
        case rel => exact ⟨j + 1, by omega, by go_num, by rw [HD.out]; exact HO.out, Chg.new (hg.out.drewN _ |>.alloc _) HG.out (fun i hi => by omega)⟩
        case measure => simp [intOf]; omega
      · have HD := Lib.hid (show descTo p (j + 1) = descTo p j by rw [descTo, if_neg hd])
        have hb : decide (ix p (j + 1) < ix p j) = false := decide_eq_false hd
        clear hd
        go_wp2
        go_quiet (fail)
        go_wp2
        go_roundw
        case rel => exact ⟨j + 1, by omega, by go_num, by rw [HD.out]; exact ho.out.up (Chg.refl _ _ |>.drewN _), hg.out.drewN _⟩
        case measure => simp [intOf]; omega
    · obtain rfl : j = p.length - 1 := by omega
      have hd : decide ((((p.length - 1 : Nat) : Int) + 1) < (p.length : Int)) = false := decide_eq_false (by omega)
      go_wp2
      go_ret
      exact ⟨_, rfl, ho.out.ints, hg.out⟩
theorem l04Start_any (w : World) (S : Nat → Prop) (v : Value) (p : List Int) (h : Ints w S v p) (hl : p.length ≤ 1000) :
    Calls Try.prog 218 #[v] w fun e w' => ∃ u, e = .returned u ∧ Ints w' (New w.heap.size w'.heap.size) u (startM p) ∧ Up w w' := by
  obtain ⟨A, c, rfl, hlc, hcm, -⟩ := h.shape
  have H := Lib.hid h
  clear h
  go_enter Try.func218, Try.ntmps218
  go_wp2
  go_loopw [3, 4] (fun v i wr => ∃ j : Nat, j ≤ p.length - 1 ∧ i = .int .i64 ((j + 1 : Nat) : Int) ∧ Hid (OwnI wr w.heap.size v (startTo p j)) ∧ Hid (Up w wr)) (fun _ i _ => p.length + 1 - (intOf i).toNat)
  case atStart => exact ⟨0, by omega, by simp, OwnI.made w _ (Nat.le_refl _), (Chg.refl _ _).alloc _⟩
  case round =>
    obtain ⟨j, hj, rfl, ho, hg⟩ := hrel
    by_cases hlt : j + 1 < p.length
    · obtain ⟨b1, o1, rfl, -, hc⟩ := (H.out.up hg.out).ix hlt
      have f1 := hc (j + 1) hlt
      have f0 := hc j (by omega)
      have HL := Lib.hid (show (startTo p j).length ≤ 1099511627776 by have := startTo_length p j; omega)
      have HI := Lib.hid (show I64 ((j + 1 : Nat) : Int) by unfold I64; omega)
      have hsz := hg.out.size
      have hw1 : IntKind.i64.wrap ((j : Int) + 1) = (j : Int) + 1 := IntWalk.i64_in _ (by omega)
      have ht1 : ((j : Int) + 1).toNat = j + 1 := by omega
      have hw2 : ((j + 1 : Nat) : Int) - 1 = j := by omega
      clear hc
      by_cases hd : ix p (j + 1) < ix p j
      · have HD := Lib.hid (show startTo p (j + 1) = startTo p j ++ [((j + 1 : Nat) : Int)] by rw [startTo_succ, if_pos hd]; simp)
        have hb : decide (ix p (j + 1) < ix p j) = true := decide_eq_true hd
        clear hd
        go_wp2
        go_quiet (fail)
        go_wp2_with (first | (at_builtin; refine wp_append_int rfl _ _ rfl w.heap.size _ (startTo p j) rfl (ho.out.alloc _) _ (((j + 1 : Nat) : Int)) rfl (cell_new _ _ _ _) HI.out HL.out ?_ ?_; (simp; omega); intro v' w' h1 h2 h3; have HO := Lib.hid h1; have HG := Lib.hid h3; clear h1 h2 h3; go_wp2))
        go_roundw
        case rel => exact ⟨j + 1, by omega, by go_num, by rw [HD.out]; exact HO.out, Chg.new (hg.out.drewN _ |>.alloc _) HG.out (fun i hi => by omega)⟩
        case measure => simp [intOf]; omega
      · have HD := Lib.hid (show startTo p (j + 1) = startTo p j by rw [startTo_succ, if_neg hd])
        have hb : decide (ix p (j + 1) < ix p j) = false := decide_eq_false hd
        clear hd
        go_wp2
        go_quiet (fail)
        go_wp2
        go_roundw
        case rel => exact ⟨j + 1, by omega, by go_num, by rw [HD.out]; exact ho.out.up (Chg.refl _ _ |>.drewN _), hg.out.drewN _⟩
        case measure => simp [intOf]; omega
    · obtain rfl : j = p.length - 1 := by omega
      have hd : decide ((((p.length - 1 + 1 : Nat) : Int)) < (p.length : Int)) = false := decide_eq_false (by omega)
      go_wp2
      go_ret
      exact ⟨_, rfl, ho.out.ints, hg.out⟩
end Go.Proofs.Ytjgdcjhmfbefdaa
