/- Permutations: small functions on both sides. No condition. SameProof on both sides. No condition. Permutations: validity, start letters, missing letters on both sides. No condition. Missing letters on both sides. No condition. slices.Grow of nil and slices.Concat at slices of lists of numbers. Condition: room. Parts of slices of int64. No condition. -/
import Derived.Test.YtchfjglofmphfaaRB8
import Derived.Test.YtchfjglofmphfaaRB5
import Derived.Laws.AppendOwnNone
import Derived.Lib.AppendZerosOnto
import Derived.Lib.SliceRun
import Derived.Test.YtchfjglofmphfaaRB1
section
set_option linter.unusedSimpArgs false
set_option linter.unusedVariables false
set_option maxRecDepth 100000
set_option maxHeartbeats 1000000
namespace Go.Proofs.Ytchfjglofmphfaa
open Go.ChangeShapes Go.WideShapes Go.ChangeAt Go.RowKit
theorem has_any (w : World) (S : Nat → Prop) (v : Value) (xs : List Int) (x : Int) (h : Ints w S v xs) :
    Calls Try.prog 107 #[v, .int .i64 x] w fun e w' => e = .returned (.bool (decide (x ∈ xs))) ∧ w = w' := by
  obtain ⟨A, c, rfl, hlc, hcm, -⟩ := h.shape
  have H := Lib.hid h
  clear h
  go_enter Try.func107, Try.ntmps107
  go_wp2
  go_loop [5] (fun i => ∃ j : Nat, j ≤ xs.length ∧ i = .int .i64 j ∧ Hid (x ∉ xs.take j)) (fun i => xs.length - (intOf i).toNat)
  case atStart => exact ⟨0, by omega, rfl, by simp [Hid]⟩
  case round =>
    obtain ⟨j, hj, rfl, hno⟩ := hrel
    by_cases hlt : j < xs.length
    · obtain ⟨b1, o1, rfl, -, hc⟩ := H.out.ix hlt
      have f1 := hc j hlt
      rw [ix_eq hlt] at f1
      clear hc
      by_cases he : xs[j] = x
      · have HM := Lib.hid (show decide (x ∈ xs) = true from decide_eq_true (he ▸ List.getElem_mem hlt))
        rw [he] at f1
        have e1 : (x == x) = true := by simp
        clear he
        go_wp2
        go_ret
        exact ⟨ret_bool HM.out.symm, rfl⟩
      · have e1 : (xs[j] == x) = false := by simpa using he
        have HE := Lib.hid he
        clear he
        go_wp2
        go_round
        case rel => exact ⟨j + 1, by omega, by go_num, by show x ∉ _; rw [List.take_succ_eq_append_getElem hlt]; intro hm; rcases List.mem_append.1 hm with hm | hm; exact hno.out hm; exact HE.out (by simpa [eq_comm] using hm)⟩
        case measure => simp [intOf]; omega
    · obtain rfl : j = xs.length := by omega
      have HM := Lib.hid (show decide (x ∈ xs) = false from decide_eq_false (by have := hno.out; rwa [List.take_length] at this))
      go_wp2
      go_ret
      exact ⟨ret_bool HM.out.symm, rfl⟩
theorem identity_any (w : World) (n : Nat) (hn : n ≤ 1000) :
    Calls Try.prog 191 #[.int .i64 n] w fun e w' => ∃ v, e = .returned v ∧ Ints w' (New w.heap.size w'.heap.size) v (identM n) ∧ Up w w' := by
  obtain ⟨i0, hi, hz0, hz1, hz2⟩ := info_parts info2
  have hmk : ∀ u : World, (Instr.makeSlice 25 (.int .i64 (n : Int)) (.int .i64 (n : Int))).run Try.prog u =
      .ok (.slice (some ⟨u.heap.size, 0, none⟩) n n) (u.alloc (.cells (madeCells #[.int .i64 0] n) 2)) := fun u => by
    have h := run_make (P := Try.prog) u 25 2 i0 (.int .i64 0) Try.underlying25 hi hz0 .i64 .i64 (n : Int) (n : Int) (by omega) (Int.le_refl _) (by rw [hz2]; omega) (by omega)
    simpa [hz1, Value.cells] using h
  go_enter Try.func191, Try.ntmps191
  go_wp2
  have Hi := Lib.hid hmk
  clear hmk hi hz0 hz1 hz2
  go_loopw [4, 9] (fun _ i wr => ∃ j : Nat, j ≤ n ∧ i = .int .i64 j ∧ Hid (Up w wr) ∧ Hid (Ints wr (fun b => b = w.heap.size) (.slice (some ⟨w.heap.size, 0, none⟩) n n) (identTo n j))) (fun _ i _ => n - (intOf i).toNat)
  case atStart => exact ⟨0, by omega, rfl, (Chg.refl _ _).alloc _, Lib.hid (Ints.zeros w _ n _ (by omega) rfl)⟩
  case round =>
    obtain ⟨j, hj, rfl, hg, hc⟩ := hrel
    by_cases hlt : j < n
    · have hlen := identTo_length n j
      have hI := hc.out
      obtain ⟨m, hm⟩ : ∃ m, m = (identTo n j).length := ⟨_, rfl⟩
      have hmn : m = n := hm.trans hlen
      have hI2 : Ints wr (fun b => b = w.heap.size) (.slice (some ⟨w.heap.size, 0, none⟩) (identTo n j).length n) (identTo n j) := by rw [hlen]; exact hI
      obtain ⟨b, o, hb, -, hcc⟩ := ints_ixf hI2 (i := j) (by omega)
      obtain ⟨rfl, rfl⟩ : w.heap.size = b ∧ 0 = o := by simpa using hb
      obtain ⟨f0, q0⟩ := hcc j (by omega)
      rw [Nat.zero_add] at f0 q0
      have HS := Lib.hid (hI2.set (k := j) (by omega) (x := j) (by unfold I64; omega))
      clear hcc hI hI2 hm hmn hlen
      go_wp2
      go_roundw
      case rel => exact ⟨j + 1, by omega, by go_num, hg.out.setCell (.inr (Nat.le_refl _)) _, by have h := HS.out; rw [identTo_length, Nat.zero_add] at h; exact h⟩
      case measure => simp [intOf]; omega
    · obtain rfl : j = n := by omega
      have HE := Lib.hid (identTo_all j)
      go_wp2
      go_ret
      exact ⟨_, rfl, by rw [← HE.out]; exact hc.out.mono (fun b hb h => by have h : b = w.heap.size := h; subst h; exact ⟨Nat.le_refl _, hb⟩), hg.out⟩
theorem l04Identity_any (w : World) (n : Nat) (hn : n ≤ 1000) :
    Calls Try.prog 183 #[.int .i64 n] w fun e w' => ∃ v, e = .returned v ∧ Ints w' (New w.heap.size w'.heap.size) v (identM n) ∧ Up w w' := by
  go_enter Try.func183, Try.ntmps183
  go_wp2
  go_loopw [3, 4] (fun v i wr => ∃ j : Nat, j ≤ n ∧ i = .int .i64 j ∧ Hid (OwnI wr w.heap.size v (identM j)) ∧ Hid (Up w wr)) (fun _ i _ => n - (intOf i).toNat)
  case atStart => exact ⟨0, by omega, rfl, OwnI.made w _ (Nat.le_refl _), (Chg.refl _ _).alloc _⟩
  case round =>
    obtain ⟨j, hj, rfl, ho, hg⟩ := hrel
    by_cases hlt : j < n
    · have HI := Lib.hid (show I64 (j : Int) by unfold I64; omega)
      have HL := Lib.hid (show (identM j).length ≤ 1099511627776 by rw [identM_length]; omega)
      have hsz := hg.out.size
      go_wp2_with (first | (at_builtin; refine wp_append_int rfl _ _ rfl w.heap.size _ (identM j) rfl (ho.out.alloc _) _ ((j : Int)) rfl (cell_new _ _ _ _) HI.out HL.out ?_ ?_; (simp; omega); intro v' w' h1 h2 h3; have HO := Lib.hid h1; have HG := Lib.hid h3; clear h1 h2 h3; go_wp2))
      go_roundw
      case rel => exact ⟨j + 1, by omega, by go_num, by rw [identM_succ]; exact HO.out, Chg.new (hg.out.alloc _) HG.out (fun i hi => by omega)⟩
      case measure => simp [intOf]; omega
    · obtain rfl : j = n := by omega
      go_wp2
      go_ret
      exact ⟨_, rfl, ho.out.ints, hg.out⟩
theorem l04Half_any (w : World) (n : Nat) (hn : n ≤ 1000) :
    Calls Try.prog 185 #[.int .i64 n] w fun e w' => ∃ v, e = .returned v ∧ Ints w' (New w.heap.size w'.heap.size) v (halfM n) ∧ Up w w' := by
  go_enter Try.func185, Try.ntmps185
  go_wp2
  go_loopw [3, 4] (fun v i wr => ∃ j : Nat, j ≤ n ∧ i = .int .i64 ((n : Int) - 1 - j) ∧ Hid (OwnI wr w.heap.size v (fallTo n j)) ∧ Hid (Up w wr)) (fun _ i _ => (intOf i + 1).toNat)
  case atStart => exact ⟨0, by omega, by simp, OwnI.made w _ (Nat.le_refl _), (Chg.refl _ _).alloc _⟩
  case round =>
    obtain ⟨j, hj, rfl, ho, hg⟩ := hrel
    by_cases hlt : j < n
    · have HI := Lib.hid (show I64 ((n : Int) - 1 - j) by unfold I64; omega)
      have HL := Lib.hid (show (fallTo n j).length ≤ 1099511627776 by rw [fallTo_length]; omega)
      have hsz := hg.out.size
      have hge : (0 : Int) ≤ (n : Int) - 1 - j := by omega
      go_wp2_with (first | (at_builtin; refine wp_append_int rfl _ _ rfl w.heap.size _ (fallTo n j) rfl (ho.out.alloc _) _ ((n : Int) - 1 - j) rfl (cell_new _ _ _ _) HI.out HL.out ?_ ?_; (simp; omega); intro v' w' h1 h2 h3; have HO := Lib.hid h1; have HG := Lib.hid h3; clear h1 h2 h3; go_wp2))
      go_roundw
      case rel => exact ⟨j + 1, by omega, by simp only [Value.int.injEq, true_and]; omega, by rw [fallTo_succ]; exact HO.out, Chg.new (hg.out.alloc _) HG.out (fun i hi => by omega)⟩
      case measure => simp [intOf]; omega
    · obtain rfl : j = n := by omega
      have hge : ¬ (0 : Int) ≤ (j : Int) - 1 - j := by omega
      have HE := Lib.hid (fallTo_all j)
      go_wp2
      go_ret
      exact ⟨_, rfl, by unfold halfM; rw [← HE.out]; exact ho.out.ints, hg.out⟩
theorem halfTwist_any (w : World) (n : Nat) (hn : n ≤ 1000) :
    Calls Try.prog 154 #[.int .i64 n] w fun e w' => ∃ v, e = .returned v ∧ Ints w' (New w.heap.size w'.heap.size) v (halfM n) ∧ Up w w' := by
  go_enter Try.func154, Try.ntmps154
  go_wp2_with fail
  refine (identity_any _ n hn).mono ?_
  rintro e w1 ⟨v, rfl, k1, g1⟩
  obtain ⟨A, c, rfl, hlc, hcm, -⟩ := k1.shape
  have K1 := Lib.hid k1
  have G1 := Lib.hid g1
  clear k1 g1
  go_wp2_with fail
  refine (reverse_any _ _ _ _ K1.out).mono ?_
  rintro e w2 ⟨rfl, g2, k2⟩
  have K2 := Lib.hid k2
  have G2 := Lib.hid g2
  clear k2 g2
  go_wp2
  go_ret
  exact ⟨_, rfl, K2.out.mono (fun b _ h => ⟨h.1, Nat.lt_of_lt_of_le h.2 G2.out.size⟩), Chg.new G1.out G2.out (fun i hi h => by have := h.1; omega)⟩
theorem l04Inverse_any (w : World) (S : Nat → Prop) (v : Value) (p : List Int) (h : Ints w S v p) (hp : permB p = true) :
    Calls Try.prog 244 #[v] w fun e w' => ∃ u, e = .returned u ∧ Ints w' (New w.heap.size w'.heap.size) u (invM p) ∧ Up w w' := by
  have hlp := permB_len hp
  obtain ⟨A, c, rfl, hlc, hcm, -⟩ := h.shape
  have H := Lib.hid h
  have HP := Lib.hid hp
  clear h hp
  obtain ⟨i0, hi, hz0, hz1, hz2⟩ := info_parts info2
  have hmk : ∀ u : World, (Instr.makeSlice 25 (.int .i64 (p.length : Int)) (.int .i64 (p.length : Int))).run Try.prog u =
      .ok (.slice (some ⟨u.heap.size, 0, none⟩) p.length p.length) (u.alloc (.cells (madeCells #[.int .i64 0] p.length) 2)) := fun u => by
    have h := run_make (P := Try.prog) u 25 2 i0 (.int .i64 0) Try.underlying25 hi hz0 .i64 .i64 (p.length : Int) (p.length : Int) (by omega) (Int.le_refl _) (by rw [hz2]; omega) (by omega)
    simpa [hz1, Value.cells] using h
  go_enter Try.func244, Try.ntmps244
  go_wp2
  have Hi := Lib.hid hmk
  clear hmk hi hz0 hz1 hz2
  go_loopw [4] (fun i wr => ∃ j : Nat, j ≤ p.length ∧ i = .int .i64 j ∧ Hid (Up w wr) ∧ Hid (Ints wr (fun b => b = w.heap.size) (.slice (some ⟨w.heap.size, 0, none⟩) p.length p.length) (invTo p j))) (fun i _ => p.length - (intOf i).toNat)
  case atStart => exact ⟨0, by omega, rfl, (Chg.refl _ _).alloc _, Lib.hid (Ints.zeros w _ p.length _ (by omega) rfl)⟩
  case round =>
    obtain ⟨j, hj, rfl, hg, hc⟩ := hrel
    by_cases hlt : j < p.length
    · have hlen := invTo_length p j
      obtain ⟨hx0, hx1⟩ := permB_ix HP.out hlt
      obtain ⟨kn, hk⟩ : ∃ kn : Nat, ix p j = kn := ⟨(ix p j).toNat, by omega⟩
      have hkn : kn < p.length := by omega
      obtain ⟨b1, o1, rfl, -, hc1⟩ := (H.out.up hg.out).ix hlt
      have f1 := hc1 j hlt
      rw [hk] at f1
      have hI2 : Ints wr (fun b => b = w.heap.size) (.slice (some ⟨w.heap.size, 0, none⟩) (invTo p j).length p.length) (invTo p j) := by rw [hlen]; exact hc.out
      obtain ⟨b, o, hb, -, hcc⟩ := ints_ixf hI2 (i := kn) (by omega)
      obtain ⟨rfl, rfl⟩ : w.heap.size = b ∧ 0 = o := by simpa using hb
      obtain ⟨f0, q0⟩ := hcc kn (by omega)
      rw [Nat.zero_add] at f0 q0
      have HS := Lib.hid (hI2.set (k := kn) (by omega) (x := j) (by unfold I64; omega))
      have HK := Lib.hid hk
      clear hcc hI2 hlen hk hx0 hx1 hc1
      go_wp2
      go_roundw
      case rel => exact ⟨j + 1, by omega, by go_num, hg.out.setCell (.inr (Nat.le_refl _)) _, by have h := HS.out; rw [invTo_length, Nat.zero_add] at h; rw [invTo, HK.out]; exact h⟩
      case measure => simp [intOf]; omega
    · obtain rfl : j = p.length := by omega
      go_wp2
      go_ret
      exact ⟨_, rfl, hc.out.mono (fun b hb h => by have h : b = w.heap.size := h; subst h; exact ⟨Nat.le_refl _, hb⟩), hg.out⟩
theorem invert_any (w : World) (S : Nat → Prop) (v : Value) (p : List Int) (h : Ints w S v p) (hp : permB p = true) :
    Calls Try.prog 236 #[v] w fun e w' => ∃ u, e = .returned u ∧ Ints w' (New w.heap.size w'.heap.size) u (invM p) ∧ Up w w' := by
  have hlp := permB_len hp
  obtain ⟨A, c, rfl, hlc, hcm, -⟩ := h.shape
  have H := Lib.hid h
  have HP := Lib.hid hp
  clear h hp
  obtain ⟨i0, hi, hz0, hz1, hz2⟩ := info_parts info2
  have hmk : ∀ u : World, (Instr.makeSlice 25 (.int .i64 (p.length : Int)) (.int .i64 (p.length : Int))).run Try.prog u =
      .ok (.slice (some ⟨u.heap.size, 0, none⟩) p.length p.length) (u.alloc (.cells (madeCells #[.int .i64 0] p.length) 2)) := fun u => by
    have h := run_make (P := Try.prog) u 25 2 i0 (.int .i64 0) Try.underlying25 hi hz0 .i64 .i64 (p.length : Int) (p.length : Int) (by omega) (Int.le_refl _) (by rw [hz2]; omega) (by omega)
    simpa [hz1, Value.cells] using h
  go_enter Try.func236, Try.ntmps236
  go_wp2
  have Hi := Lib.hid hmk
  clear hmk hi hz0 hz1 hz2
  go_loopw [4, 5, 11] (fun _ _ i wr => ∃ j : Nat, j ≤ p.length ∧ i = .int .i64 j ∧ Hid (Up w wr) ∧ Hid (Ints wr (fun b => b = w.heap.size) (.slice (some ⟨w.heap.size, 0, none⟩) p.length p.length) (invTo p j))) (fun _ _ i _ => p.length - (intOf i).toNat)
  case atStart => exact ⟨0, by omega, rfl, (Chg.refl _ _).alloc _, Lib.hid (Ints.zeros w _ p.length _ (by omega) rfl)⟩
  case round =>
    obtain ⟨j, hj, rfl, hg, hc⟩ := hrel
    by_cases hlt : j < p.length
    · have hlen := invTo_length p j
      obtain ⟨hx0, hx1⟩ := permB_ix HP.out hlt
      obtain ⟨kn, hk⟩ : ∃ kn : Nat, ix p j = kn := ⟨(ix p j).toNat, by omega⟩
      have hkn : kn < p.length := by omega
      obtain ⟨b1, o1, rfl, -, hc1⟩ := (H.out.up hg.out).ix hlt
      have f1 := hc1 j hlt
      rw [hk] at f1
      have hI2 : Ints wr (fun b => b = w.heap.size) (.slice (some ⟨w.heap.size, 0, none⟩) (invTo p j).length p.length) (invTo p j) := by rw [hlen]; exact hc.out
      obtain ⟨b, o, hb, -, hcc⟩ := ints_ixf hI2 (i := kn) (by omega)
      obtain ⟨rfl, rfl⟩ : w.heap.size = b ∧ 0 = o := by simpa using hb
      obtain ⟨f0, q0⟩ := hcc kn (by omega)
      rw [Nat.zero_add] at f0 q0
      have HS := Lib.hid (hI2.set (k := kn) (by omega) (x := j) (by unfold I64; omega))
      have HK := Lib.hid hk
      clear hcc hI2 hlen hk hx0 hx1 hc1
      go_wp2
      go_roundw
      case rel => exact ⟨j + 1, by omega, by go_num, hg.out.setCell (.inr (Nat.le_refl _)) _, by have h := HS.out; rw [invTo_length, Nat.zero_add] at h; rw [invTo, HK.out]; exact h⟩
      case measure => simp [intOf]; omega
    · obtain rfl : j = p.length := by omega
      go_wp2
      go_ret
      exact ⟨_, rfl, hc.out.mono (fun b hb h => by have h : b = w.heap.size := h; subst h; exact ⟨Nat.le_refl _, hb⟩), hg.out⟩
theorem descents_any (w : World) (S : Nat → Prop) (v : Value) (p : List Int) (h : Ints w S v p) (hl : p.length ≤ 1000) :
    Calls Try.prog 245 #[v] w fun e w' => ∃ u, e = .returned u ∧ Ints w' (New w.heap.size w'.heap.size) u (descM p) ∧ Up w w' := by
  obtain ⟨A, c, rfl, hlc, hcm, -⟩ := h.shape
  have H := Lib.hid h
  clear h
  go_enter Try.func245, Try.ntmps245
  go_wp2
  go_loopw [3, 4] (fun v i wr => ∃ j : Nat, j ≤ p.length - 1 ∧ i = .int .i64 (j : Int) ∧ Hid (OwnI wr w.heap.size v (descTo p j)) ∧ Hid (Up w wr)) (fun _ i _ => p.length + 1 - (intOf i).toNat)
  case atStart => exact ⟨0, by omega, by simp, OwnI.made w _ (Nat.le_refl _), (Chg.refl _ _).alloc _⟩
  case round =>
    obtain ⟨j, hj, rfl, ho, hg⟩ := hrel
    by_cases hlt : j + 1 < p.length
    · obtain ⟨b1, o1, rfl, -, hc⟩ := (H.out.up hg.out).ix hlt
      have f1 := hc (j + 1) hlt
      have f0 := hc j (by omega)
      have HL := Lib.hid (show (descTo p j).length ≤ 1099511627776 by have := descTo_length p j; omega)
      have HI := Lib.hid (show I64 (j : Int) by unfold I64; omega)
      have hsz := hg.out.size
      have hw1 : IntKind.i64.wrap ((j : Int) + 1) = (j : Int) + 1 := IntWalk.i64_in _ (by omega)
      have ht1 : ((j : Int) + 1).toNat = j + 1 := by omega
      have hw2 : ((j + 1 : Nat) : Int) - 1 = j := by omega
      clear hc
      by_cases hd : ix p (j + 1) < ix p j
      · have HD := Lib.hid (show descTo p (j + 1) = descTo p j ++ [(j : Int)] by rw [descTo, if_pos hd])
        have hb : decide (ix p (j + 1) < ix p j) = true := decide_eq_true hd
        clear hd
        go_wp2
        go_quiet (fail)
        go_wp2_with (first | (at_builtin; refine wp_append_int rfl _ _ rfl w.heap.size _ (descTo p j) rfl (ho.out.alloc _) _ ((j : Int)) rfl (cell_new _ _ _ _) HI.out HL.out ?_ ?_; (simp; omega); intro v' w' h1 h2 h3; have HO := Lib.hid h1; have HG := Lib.hid h3; clear h1 h2 h3; go_wp2))
        go_roundw
        case rel => exact ⟨j + 1, by omega, by go_num, by rw [HD.out]; exact HO.out, Chg.new (hg.out.drewN _ |>.alloc _) HG.out (fun i hi => by omega)⟩
        case measure => simp [intOf]; omega
      · have HD := Lib.hid (show descTo p (j + 1) = descTo p j by rw [descTo, if_neg hd])
        have hb : decide (ix p (j + 1) < ix p j) = false := decide_eq_false hd
        clear hd
        go_wp2
        go_quiet (fail)
        go_wp2
        go_roundw
        case rel => exact ⟨j + 1, by omega, by go_num, by rw [HD.out]; exact ho.out.up (Chg.refl _ _ |>.drewN _), hg.out.drewN _⟩
        case measure => simp [intOf]; omega
    · obtain rfl : j = p.length - 1 := by omega
      have hd : decide ((((p.length - 1 : Nat) : Int) + 1) < (p.length : Int)) = false := decide_eq_false (by omega)
      go_wp2
      go_ret
      exact ⟨_, rfl, ho.out.ints, hg.out⟩
theorem l04Start_any (w : World) (S : Nat → Prop) (v : Value) (p : List Int) (h : Ints w S v p) (hl : p.length ≤ 1000) :
    Calls Try.prog 230 #[v] w fun e w' => ∃ u, e = .returned u ∧ Ints w' (New w.heap.size w'.heap.size) u (startM p) ∧ Up w w' := by
  obtain ⟨A, c, rfl, hlc, hcm, -⟩ := h.shape
  have H := Lib.hid h
  clear h
  go_enter Try.func230, Try.ntmps230
  go_wp2
  go_loopw [3, 4] (fun v i wr => ∃ j : Nat, j ≤ p.length - 1 ∧ i = .int .i64 ((j + 1 : Nat) : Int) ∧ Hid (OwnI wr w.heap.size v (startTo p j)) ∧ Hid (Up w wr)) (fun _ i _ => p.length + 1 - (intOf i).toNat)
  case atStart => exact ⟨0, by omega, by simp, OwnI.made w _ (Nat.le_refl _), (Chg.refl _ _).alloc _⟩
  case round =>
    obtain ⟨j, hj, rfl, ho, hg⟩ := hrel
    by_cases hlt : j + 1 < p.length
    · obtain ⟨b1, o1, rfl, -, hc⟩ := (H.out.up hg.out).ix hlt
      have f1 := hc (j + 1) hlt
      have f0 := hc j (by omega)
      have HL := Lib.hid (show (startTo p j).length ≤ 1099511627776 by have := startTo_length p j; omega)
      have HI := Lib.hid (show I64 ((j + 1 : Nat) : Int) by unfold I64; omega)
      have hsz := hg.out.size
      have hw1 : IntKind.i64.wrap ((j : Int) + 1) = (j : Int) + 1 := IntWalk.i64_in _ (by omega)
      have ht1 : ((j : Int) + 1).toNat = j + 1 := by omega
      have hw2 : ((j + 1 : Nat) : Int) - 1 = j := by omega
      clear hc
      by_cases hd : ix p (j + 1) < ix p j
      · have HD := Lib.hid (show startTo p (j + 1) = startTo p j ++ [((j + 1 : Nat) : Int)] by rw [startTo_succ, if_pos hd]; simp)
        have hb : decide (ix p (j + 1) < ix p j) = true := decide_eq_true hd
        clear hd
        go_wp2
        go_quiet (fail)
        go_wp2_with (first | (at_builtin; refine wp_append_int rfl _ _ rfl w.heap.size _ (startTo p j) rfl (ho.out.alloc _) _ (((j + 1 : Nat) : Int)) rfl (cell_new _ _ _ _) HI.out HL.out ?_ ?_; (simp; omega); intro v' w' h1 h2 h3; have HO := Lib.hid h1; have HG := Lib.hid h3; clear h1 h2 h3; go_wp2))
        go_roundw
        case rel => exact ⟨j + 1, by omega, by go_num, by rw [HD.out]; exact HO.out, Chg.new (hg.out.drewN _ |>.alloc _) HG.out (fun i hi => by omega)⟩
        case measure => simp [intOf]; omega
      · have HD := Lib.hid (show startTo p (j + 1) = startTo p j by rw [startTo_succ, if_neg hd])
        have hb : decide (ix p (j + 1) < ix p j) = false := decide_eq_false hd
        clear hd
        go_wp2
        go_quiet (fail)
        go_wp2
        go_roundw
        case rel => exact ⟨j + 1, by omega, by go_num, by rw [HD.out]; exact ho.out.up (Chg.refl _ _ |>.drewN _), hg.out.drewN _⟩
        case measure => simp [intOf]; omega
    · obtain rfl : j = p.length - 1 := by omega
      have hd : decide ((((p.length - 1 + 1 : Nat) : Int)) < (p.length : Int)) = false := decide_eq_false (by omega)
      go_wp2
      go_ret
      exact ⟨_, rfl, ho.out.ints, hg.out⟩
end Go.Proofs.Ytchfjglofmphfaa
end
section
set_option linter.unusedSimpArgs false
set_option linter.unusedVariables false
set_option maxRecDepth 100000
set_option maxHeartbeats 1000000
namespace Go.Proofs.Ytchfjglofmphfaa
open Go.ChangeShapes Go.WideShapes Go.ChangeAt Go.RowKit
theorem callB {f : FuncId} {args : Array Value} {w : World} {b c : Bool} (h : Calls Try.prog f args w fun e w' => e = .returned (.bool b) ∧ Up w w') (hb : b = c) : Calls Try.prog f args w fun e w' => e = .returned (.bool c) ∧ Up w w' := hb ▸ h
theorem eqInts1_any (w : World) (S S' : Nat → Prop) (v u : Value) (xs ys : List Int) (h : Ints w S v xs) (h2 : Ints w S' u ys) :
    Calls Try.prog 234 #[v, u] w fun e w' => e = .returned (.bool (sameL xs ys)) ∧ Up w w' := by
  obtain ⟨A, c, rfl, hlc, hcm, -⟩ := h.shape
  obtain ⟨A2, c2, rfl, hlc2, hcm2, -⟩ := h2.shape
  have H := Lib.hid h
  have H2 := Lib.hid h2
  clear h h2
  go_enter Try.func234, Try.ntmps234
  go_wp2_with fail
  refine (equalInts_any _ _ _ _ _ _ _ H.out H2.out).mono ?_
  rintro e w1 ⟨rfl, g1⟩
  have G := Lib.hid g1
  clear g1
  go_wp2
  go_ret
  exact ⟨rfl, G.out⟩
theorem eqfInts_any (w : World) (M H L M' H' L' : Nat → Prop) (v u : Value) (xs ys : List (List Int)) (h : IntSSV w M H L v xs) (h2 : IntSSV w M' H' L' u ys) :
    Calls Try.prog 233 #[v, u, .func (.func 234) #[] #[]] w fun e w' => e = .returned (.bool (sameL xs ys)) ∧ Up w w' := by
  obtain ⟨A, c, rfl, hlc, hcm, -⟩ := h.shape
  obtain ⟨A2, c2, rfl, hlc2, hcm2, -⟩ := h2.shape
  by_cases hl : xs.length = ys.length
  rotate_left
  · have HB := Lib.hid (sameL_len hl)
    have hb : ((xs.length : Int) != ys.length) = true := by simp; omega
    clear hl h h2
    go_enter Try.func233, Try.ntmps233
    go_wp2
    go_ret
    exact ⟨ret_bool HB.out.symm, Chg.refl _ _⟩
  have HL := Lib.hid hl
  have hb : ((xs.length : Int) != ys.length) = false := by simp; omega
  have H := Lib.hid h
  have H2 := Lib.hid h2
  clear h h2 hl
  go_enter Try.func233, Try.ntmps233
  go_wp2
  go_loopw [17] (fun i wr => ∃ (j : Nat), j ≤ xs.length ∧ i = .int .i64 j ∧ Hid (Up w wr) ∧ Hid (AgreeTo xs ys j)) (fun i _ => xs.length - (intOf i).toNat)
  case atStart => exact ⟨0, by omega, rfl, Chg.refl _ _, AgreeTo.start _ _⟩
  case round =>
    obtain ⟨j, hj, rfl, hu, hp⟩ := hrel
    by_cases hlt : j < xs.length
    · have hlt2 : j < ys.length := by have := HL.out; omega
      obtain ⟨b3, o3, c3', vs3, he3, -, -, -, hE3, hc3⟩ := (H.out.up hu.out).at_ hlt
      obtain ⟨rfl, rfl⟩ : A = some ⟨b3, o3, none⟩ ∧ c = c3' := by simpa using he3
      obtain ⟨A3, k3, rfl, hv3, -⟩ := IntsE.val hE3
      have f0 := (hc3 0 _ rfl).1
      simp only [Nat.mul_one, Nat.add_zero] at f0
      have HV3 := Lib.hid hv3
      clear hc3 hv3 he3
      obtain ⟨b5, o5, c5', vs5, he5, -, -, -, hE5, hc5⟩ := (H2.out.up hu.out).at_ hlt2
      obtain ⟨rfl, rfl⟩ : A2 = some ⟨b5, o5, none⟩ ∧ c2 = c5' := by simpa using he5
      obtain ⟨A5, k5, rfl, hv5, -⟩ := IntsE.val hE5
      have e0 := (hc5 0 _ rfl).1
      simp only [Nat.mul_one, Nat.add_zero] at e0
      have HV5 := Lib.hid hv5
      clear hc5 hv5 he5
      by_cases he : xs[j] = ys[j]
      · have HE := Lib.hid he
        have HS : Hid (sameL xs[j] ys[j] = true) := Lib.hid (decide_eq_true he)
        clear he
        go_wp2_with fail
        refine (eqInts1_any _ _ _ _ _ _ _ (HV3.out.up (by repeat (first | exact Chg.refl _ _ | apply Chg.drew | apply Chg.drewN | refine Chg.alloc ?_ _))) (HV5.out.up (by repeat (first | exact Chg.refl _ _ | apply Chg.drew | apply Chg.drewN | refine Chg.alloc ?_ _)))).mono ?_
        rintro e w1 ⟨rfl, g1⟩
        have GX := Lib.hid (show Up wr _ from Chg.trans (by repeat (first | exact Chg.refl _ _ | apply Chg.drew | apply Chg.drewN | refine Chg.alloc ?_ _)) g1)
        clear g1
        rw [HS.out]
        clear f0 e0
        go_wp2
        go_roundw
        case rel => exact ⟨j + 1, by omega, by go_num, Lib.hid (Chg.trans hu.out GX.out), Lib.hid (AgreeTo.next hp.out hlt hlt2 HE.out)⟩
        case measure => first | (simp [intOf]; done) | (simp [intOf]; omega)
      · have HB := Lib.hid (sameL_at hlt hlt2 he)
        have HS : Hid (sameL xs[j] ys[j] = false) := Lib.hid (decide_eq_false he)
        clear he
        go_wp2_with fail
        refine (eqInts1_any _ _ _ _ _ _ _ (HV3.out.up (by repeat (first | exact Chg.refl _ _ | apply Chg.drew | apply Chg.drewN | refine Chg.alloc ?_ _))) (HV5.out.up (by repeat (first | exact Chg.refl _ _ | apply Chg.drew | apply Chg.drewN | refine Chg.alloc ?_ _)))).mono ?_
        rintro e w1 ⟨rfl, g1⟩
        have GX := Lib.hid (show Up wr _ from Chg.trans (by repeat (first | exact Chg.refl _ _ | apply Chg.drew | apply Chg.drewN | refine Chg.alloc ?_ _)) g1)
        clear g1
        rw [HS.out]
        clear f0 e0
        go_wp2
        go_ret
        exact ⟨ret_bool HB.out.symm, Chg.trans hu.out GX.out⟩
    · obtain rfl : j = xs.length := by omega
      have HB := Lib.hid (sameL_all hp.out HL.out)
      go_wp2
      go_ret
      exact ⟨ret_bool HB.out.symm, hu.out⟩
theorem pSameNormal_any (w : World) (M H L M' H' L' : Nat → Prop) (v u : Value) (x y : NormM) (hv : NormV w M H L v x) (hu : NormV w M' H' L' u y) :
    Calls Try.prog 211 #[v, u] w fun e w' => e = .returned (.bool (sameN x y)) ∧ Up w w' := by
  obtain ⟨A, c, rfl, h0, h1, h2, h3⟩ := hv
  obtain ⟨B, d, rfl, g0, g1, g2, g3⟩ := hu
  have U0 := Lib.hid (show Up w ((w.alloc (.cells #[.int .i64 x.n, .int .i64 x.p, .slice A x.fs.length c] 151)).alloc (.cells #[.int .i64 y.n, .int .i64 y.p, .slice B y.fs.length d] 151)) from (by repeat (first | exact Chg.refl _ _ | apply Chg.drew | apply Chg.drewN | refine Chg.alloc ?_ _)))
  have H0 := Lib.hid (h0.up U0.out)
  have G0 := Lib.hid (g0.up U0.out)
  obtain ⟨hla0, hca0⟩ := h1
  obtain ⟨hlb0, hcb0⟩ := g1
  clear h0 h2 h3 g0 g2 g3
  have q0 := Chg.cell ((Chg.refl Nowhere (w.alloc (.cells #[.int .i64 x.n, .int .i64 x.p, .slice A x.fs.length c] 151))).alloc (.cells #[.int .i64 y.n, .int .i64 y.p, .slice B y.fs.length d] 151)) (show (w.alloc (.cells #[.int .i64 x.n, .int .i64 x.p, .slice A x.fs.length c] 151)).cell? ⟨w.heap.size, 0, none⟩ = some (.int .i64 x.n) from cell_new _ _ _ _) id
  have q1 := Chg.cell ((Chg.refl Nowhere (w.alloc (.cells #[.int .i64 x.n, .int .i64 x.p, .slice A x.fs.length c] 151))).alloc (.cells #[.int .i64 y.n, .int .i64 y.p, .slice B y.fs.length d] 151)) (show (w.alloc (.cells #[.int .i64 x.n, .int .i64 x.p, .slice A x.fs.length c] 151)).cell? ⟨w.heap.size, 1, none⟩ = some (.int .i64 x.p) from cell_new _ _ _ _) id
  have q2 := Chg.cell ((Chg.refl Nowhere (w.alloc (.cells #[.int .i64 x.n, .int .i64 x.p, .slice A x.fs.length c] 151))).alloc (.cells #[.int .i64 y.n, .int .i64 y.p, .slice B y.fs.length d] 151)) (show (w.alloc (.cells #[.int .i64 x.n, .int .i64 x.p, .slice A x.fs.length c] 151)).cell? ⟨w.heap.size, 2, none⟩ = some (.slice A x.fs.length c) from cell_new _ _ _ _) id
  have p0 := (show ((w.alloc (.cells #[.int .i64 x.n, .int .i64 x.p, .slice A x.fs.length c] 151)).alloc (.cells #[.int .i64 y.n, .int .i64 y.p, .slice B y.fs.length d] 151)).cell? ⟨w.heap.size + 1, 0, none⟩ = some (.int .i64 y.n) from (cellF_at (by simp) rfl).1)
  have p1 := (show ((w.alloc (.cells #[.int .i64 x.n, .int .i64 x.p, .slice A x.fs.length c] 151)).alloc (.cells #[.int .i64 y.n, .int .i64 y.p, .slice B y.fs.length d] 151)).cell? ⟨w.heap.size + 1, 1, none⟩ = some (.int .i64 y.p) from (cellF_at (by simp) rfl).1)
  have p2 := (show ((w.alloc (.cells #[.int .i64 x.n, .int .i64 x.p, .slice A x.fs.length c] 151)).alloc (.cells #[.int .i64 y.n, .int .i64 y.p, .slice B y.fs.length d] 151)).cell? ⟨w.heap.size + 1, 2, none⟩ = some (.slice B y.fs.length d) from (cellF_at (by simp) rfl).1)
  by_cases e0 : x.n = y.n
  rotate_left
  · have b0 : ((x.n : Int) == y.n) = false := by simpa using e0
    have HB := Lib.hid (show sameN x y = false from decide_eq_false fun e => e0 (by rw [e]))
    clear e0
    go_enter Try.func211, Try.ntmps211
    go_wp2
    go_ret
    exact ⟨ret_bool HB.out.symm, Chg.trans U0.out (by repeat (first | exact Chg.refl _ _ | apply Chg.drew | apply Chg.drewN | refine Chg.alloc ?_ _))⟩
  have b0 : ((x.n : Int) == y.n) = true := by simp [e0]
  have E0 := Lib.hid e0
  clear e0
  by_cases e1 : x.p = y.p
  rotate_left
  · have b1 : ((x.p : Int) == y.p) = false := by simpa using e1
    have HB := Lib.hid (show sameN x y = false from decide_eq_false fun e => e1 (by rw [e]))
    clear e1
    go_enter Try.func211, Try.ntmps211
    go_wp2
    go_ret
    exact ⟨ret_bool HB.out.symm, Chg.trans U0.out (by repeat (first | exact Chg.refl _ _ | apply Chg.drew | apply Chg.drewN | refine Chg.alloc ?_ _))⟩
  have b1 : ((x.p : Int) == y.p) = true := by simp [e1]
  have E1 := Lib.hid e1
  clear e1
  have HB := Lib.hid (show sameN x y = sameL x.fs y.fs by rw [sameN_and, decide_eq_true E0.out, decide_eq_true E1.out]; rfl)
  go_enter Try.func211, Try.ntmps211
  go_wp2_with fail
  refine (eqfInts_any _ M H L M' H' L' _ _ x.fs y.fs (H0.out.up (by repeat (first | exact Chg.refl _ _ | apply Chg.drew | apply Chg.drewN | refine Chg.alloc ?_ _))) (G0.out.up (by repeat (first | exact Chg.refl _ _ | apply Chg.drew | apply Chg.drewN | refine Chg.alloc ?_ _)))).mono ?_
  rintro e w1 ⟨rfl, g1⟩
  have GX := Lib.hid (Chg.trans U0.out (Chg.trans (by repeat (first | exact Chg.refl _ _ | apply Chg.drew | apply Chg.drewN | refine Chg.alloc ?_ _)) g1))
  clear g1
  go_wp2
  go_ret
  exact ⟨ret_bool HB.out.symm, GX.out⟩
end Go.Proofs.Ytchfjglofmphfaa
end
section
set_option linter.unusedSimpArgs false
set_option linter.unusedVariables false
set_option maxRecDepth 100000
set_option maxHeartbeats 1000000
namespace Go.Proofs.Ytchfjglofmphfaa
open Go.ChangeShapes Go.WideShapes Go.ChangeAt Go.RowKit
theorem callS {f : FuncId} {args : Array Value} {w : World} {b c : Bool} (h : Calls Try.prog f args w fun e w' => e = .returned (.bool b) ∧ w = w') (hb : b = c) : Calls Try.prog f args w fun e w' => e = .returned (.bool c) ∧ w = w' := hb ▸ h
theorem Ints.pre {w : World} {S : Nat → Prop} {A : Option Addr} {c : Nat} {xs : List Int} (h : Ints w S (.slice A xs.length c) xs) {k : Nat} (hk : k ≤ xs.length) : Ints w S (.slice A k c) (xs.take k) := by
  obtain ⟨A', c', he, h1, h2, h3, hr, h5⟩ := h
  obtain ⟨rfl, rfl⟩ : A = A' ∧ c = c' := by simpa using he
  have hl : (xs.take k).length = k := by rw [List.length_take]; omega
  refine ⟨A, c, by rw [hl], by omega, h2, fun x hx => h3 x (List.mem_of_mem_take hx), fun hp => ?_, h5⟩
  obtain ⟨b, o, hA, hs, hbl, hc⟩ := hr (by omega)
  refine ⟨b, o, hA, hs, hbl, fun j hj => ?_⟩
  rw [hl] at hj
  rw [List.getElem_take]
  exact hc j (by omega)
def Seen (w : World) (g : Nat) (p : List Int) (j : Nat) : Prop := ∀ k : Nat, k < 12 → w.cell? ⟨g, k, none⟩ = some (.bool (decide ((k : Int) ∈ p.take j))) ∧ w.frozen? ⟨g, k, none⟩ = false
theorem Seen.next {w : World} {g : Nat} {p : List Int} {j k : Nat} (h : Seen w g p j) (hj : j < p.length) (hk : p[j] = k) (hk2 : k < 12) : Seen (w.setCell ⟨g, k, none⟩ (.bool true)) g p (j + 1) := fun t ht => by
  obtain ⟨h1, h2⟩ := h t ht
  have e : p.take (j + 1) = p.take j ++ [p[j]] := List.take_succ_eq_append_getElem hj
  by_cases ek : t = k
  · subst ek
    refine ⟨?_, by simpa using h2⟩
    rw [World.cell?_setCell_same _ _ _ h1, e, decide_eq_true (by simp [hk])]
  · refine ⟨?_, by simpa using h2⟩
    rw [World.cell?_setCell_other _ _ _ _ (fun h => ek (by injection h with _ h _; omega)), h1, e]
    congr 2
    rw [decide_eq_decide]
    simp only [List.mem_append, List.mem_singleton]
    constructor
    · exact .inl
    · rintro (h | h)
      · exact h
      · exact absurd (by rw [hk] at h; omega) ek
def riseTo (xs : List Int) : Nat → List Int
  | 0 => xs
  | j + 1 => (riseTo xs j).set j (ix xs j + 1)
theorem riseTo_length (xs : List Int) : ∀ j, (riseTo xs j).length = xs.length
  | 0 => rfl
  | j + 1 => by rw [riseTo, List.length_set, riseTo_length xs j]
theorem riseTo_get (xs : List Int) : ∀ (j t : Nat) (h : t < (riseTo xs j).length), (riseTo xs j)[t] = if t < j then ix xs t + 1 else ix xs t
  | 0, t, h => by simp [riseTo, ix_eq (show t < xs.length from h)]
  | j + 1, t, h => by
    have hn : t < (riseTo xs j).length := by rw [riseTo_length] at *; exact h
    simp only [riseTo]
    rw [List.getElem_set]
    by_cases e : j = t
    · subst e
      rw [if_pos rfl, if_pos (by omega)]
    · rw [if_neg e, riseTo_get xs j t hn]
      by_cases h2 : t < j
      · rw [if_pos h2, if_pos (by omega)]
      · rw [if_neg h2, if_neg (by omega)]
theorem riseTo_all (xs : List Int) : riseTo xs xs.length = xs.map (· + 1) := by
  refine List.ext_getElem (by rw [riseTo_length, List.length_map]) fun t h1 h2 => ?_
  rw [riseTo_get]
  rw [riseTo_length] at h1
  rw [if_pos h1, List.getElem_map, ix_eq h1]
theorem startLetters_any (w : World) (S : Nat → Prop) (v : Value) (p : List Int) (h : Ints w S v p) (hl : p.length ≤ 1000) :
    Calls Try.prog 235 #[v] w fun e w' => ∃ u, e = .returned u ∧ Ints w' (New w.heap.size w'.heap.size) u (startM p) ∧ Up w w' := by
  obtain ⟨A, c, rfl, hlc, hcm, -⟩ := h.shape
  have H := Lib.hid h
  have HBD := Lib.hid (descTo_bd p (p.length - 1))
  have HLD := Lib.hid (descTo_length p (p.length - 1))
  clear h
  go_enter Try.func235, Try.ntmps235
  go_wp2_with fail
  refine (descents_any _ S _ p H.out hl).mono ?_
  rintro e w1 ⟨v, rfl, k1, g1⟩
  obtain ⟨B, d, rfl, hld, hdm, -⟩ := k1.shape
  obtain ⟨xs, hxs⟩ : ∃ xs, xs = descM p := ⟨_, rfl⟩
  rw [← hxs] at k1 hld ⊢
  have K1 := Lib.hid k1
  have G1 := Lib.hid g1
  have HX := Lib.hid hxs
  have hxl : xs.length ≤ 1000 := by have := HLD.out; have := HX.out; unfold descM at this; rw [this]; omega
  have HXB : Hid (∀ j (hj : j < xs.length), 0 ≤ ix xs j ∧ ix xs j ≤ 1000) := Lib.hid fun j hj => by
    have := HBD.out (ix xs j) (by rw [ix_eq hj]; have h := List.getElem_mem hj; have e := HX.out; unfold descM at e; rw [← e]; exact h)
    omega
  clear k1 g1 hxs
  go_wp2
  go_loopw [4, 9] (fun _ i wr => ∃ j : Nat, j ≤ xs.length ∧ i = .int .i64 j ∧ Hid (Chg (New w.heap.size w1.heap.size) w1 wr) ∧ Hid (Ints wr (New w.heap.size w1.heap.size) (.slice B xs.length d) (riseTo xs j))) (fun _ i _ => xs.length - (intOf i).toNat)
  case atStart => exact ⟨0, by omega, rfl, Chg.refl _ _, K1.out⟩
  case round =>
    obtain ⟨j, hj, rfl, hg, hc⟩ := hrel
    by_cases hlt : j < xs.length
    · have hlen := riseTo_length xs j
      have hI2 : Ints wr (New w.heap.size w1.heap.size) (.slice B (riseTo xs j).length d) (riseTo xs j) := by rw [hlen]; exact hc.out
      obtain ⟨b, o, rfl, hbl, hcc⟩ := ints_ixf hI2 (i := j) (by omega)
      obtain ⟨f0, q0⟩ := hcc j (by omega)
      have hv : ix (riseTo xs j) j = ix xs j := by rw [ix_eq (by omega), riseTo_get, if_neg (by omega)]
      rw [hv] at f0
      obtain ⟨hb0, hb1⟩ := HXB.out j hlt
      have HS := Lib.hid (hI2.set (k := j) (by omega) (x := ix xs j + 1) (by unfold I64; omega))
      have HNB : Hid (New w.heap.size w1.heap.size b) := by
        obtain ⟨A', c', he, _, _, _, hr, _⟩ := hI2
        obtain ⟨b', o', hA, hs, _⟩ := hr (by omega)
        simp at he
        obtain ⟨rfl, -⟩ := he
        simp at hA
        rw [hA.1]
        exact hs
      clear hcc hI2 hlen hv
      go_wp2
      go_roundw
      case rel => exact ⟨j + 1, by omega, by go_num, Chg.setCell hg.out (p := ⟨b, o + j, none⟩) (.inl HNB.out) _, by have h := HS.out; rw [riseTo_length] at h; exact h⟩
      case measure => simp [intOf]; omega
    · obtain rfl : j = xs.length := by omega
      have HE := Lib.hid (riseTo_all xs)
      go_wp2
      go_ret
      exact ⟨_, rfl, by unfold startM; rw [← HX.out, ← HE.out]; exact hc.out.mono (fun b hb h => ⟨h.1, hb⟩), Chg.new G1.out hg.out (fun i hi h => by have := h.1; omega)⟩
end Go.Proofs.Ytchfjglofmphfaa
end
section
set_option linter.unusedSimpArgs false
set_option linter.unusedVariables false
set_option maxRecDepth 100000
set_option maxHeartbeats 1000000
namespace Go.Proofs.Ytchfjglofmphfaa
open Go.ChangeShapes Go.WideShapes Go.ChangeAt Go.RowKit
def IdxPost (x : Int) (xs : List Int) (w : World) (e : Ending) (w' : World) : Prop := ∃ n : Int, decide (0 ≤ n) = decide (x ∈ xs) ∧ e = .returned (.int .i64 n) ∧ w = w'
theorem index_p (w : World) (S : Nat → Prop) (v : Value) (xs : List Int) (x : Int) (h : Ints w S v xs) :
    Calls Try.prog 145 #[v, .int .i64 x] w (IdxPost x xs w) := by
  obtain ⟨A, c, rfl, hlc, hcm, -⟩ := h.shape
  have H := Lib.hid h
  clear h
  go_enter Try.func145, Try.ntmps145
  go_wp2
  go_loop [5, 8] (fun _ i => ∃ j : Nat, j ≤ xs.length ∧ i = .int .i64 j ∧ Hid (x ∉ xs.take j)) (fun _ i => xs.length - (intOf i).toNat)
  case atStart => exact ⟨0, by omega, rfl, by simp [Hid]⟩
  case round =>
    obtain ⟨j, hj, rfl, hno⟩ := hrel
    by_cases hlt : j < xs.length
    · obtain ⟨b1, o1, rfl, -, hc⟩ := H.out.ix hlt
      have f1 := hc j hlt
      rw [ix_eq hlt] at f1
      clear hc
      by_cases he : xs[j] = x
      · have HM := Lib.hid (show decide (x ∈ xs) = true from decide_eq_true (he ▸ List.getElem_mem hlt))
        rw [he] at f1
        have e1 : (x == x) = true := by simp
        clear he
        go_wp2
        go_ret
        exact ⟨j, by rw [HM.out]; exact decide_eq_true (by omega), rfl, rfl⟩
      · have e1 : (x == xs[j]) = false := by rw [beq_eq_false_iff_ne]; exact fun h => he h.symm
        have HE := Lib.hid he
        clear he
        go_wp2
        go_round
        case rel => exact ⟨j + 1, by omega, by go_num, by show x ∉ _; rw [List.take_succ_eq_append_getElem hlt]; intro hm; rcases List.mem_append.1 hm with hm | hm; exact hno.out hm; exact HE.out (by simpa [eq_comm] using hm)⟩
        case measure => simp [intOf]; omega
    · obtain rfl : j = xs.length := by omega
      have HM := Lib.hid (show decide (x ∈ xs) = false from decide_eq_false (by have := hno.out; rwa [List.take_length] at this))
      go_wp2
      go_ret
      exact ⟨-1, by rw [HM.out]; exact decide_eq_false (by omega), rfl, rfl⟩
theorem contains_p (w : World) (S : Nat → Prop) (v : Value) (xs : List Int) (x : Int) (h : Ints w S v xs) :
    Calls Try.prog 89 #[v, .int .i64 x] w fun e w' => e = .returned (.bool (decide (x ∈ xs))) ∧ w = w' := by
  obtain ⟨A, c, rfl, hlc, hcm, -⟩ := h.shape
  have H := Lib.hid h
  clear h
  go_enter Try.func89, Try.ntmps89
  go_wp2_with fail
  refine (index_p _ _ _ _ _ H.out).mono ?_
  rintro e w' ⟨n, hn, rfl, rfl⟩
  have HN := Lib.hid hn
  clear hn
  go_wp2
  go_ret
  exact ⟨ret_bool HN.out, rfl⟩
theorem invM_len {p : List Int} (h : permB p = true) : (invM p).length ≤ 1000 := by
  have := permB_len h
  unfold invM
  rw [invTo_length]
  omega
theorem l04Finish_any (w : World) (S : Nat → Prop) (v : Value) (p : List Int) (h : Ints w S v p) (hp : permB p = true) :
    Calls Try.prog 229 #[v] w fun e w' => ∃ u, e = .returned u ∧ Ints w' (New w.heap.size w'.heap.size) u (startM (invM p)) ∧ Up w w' := by
  obtain ⟨A, c, rfl, hlc, hcm, -⟩ := h.shape
  have H := Lib.hid h
  have HP := Lib.hid hp
  have HL := Lib.hid (invM_len hp)
  clear h hp
  go_enter Try.func229, Try.ntmps229
  go_wp2_with fail
  refine (l04Inverse_any _ _ _ p H.out HP.out).mono ?_
  rintro e w1 ⟨v1, rfl, k1, g1⟩
  obtain ⟨A1, c1, rfl, hl1, hc1, -⟩ := k1.shape
  have K1 := Lib.hid k1
  have G1 := Lib.hid g1
  clear k1 g1
  go_wp2_with fail
  refine (l04Start_any _ _ _ (invM p) K1.out HL.out).mono ?_
  rintro e w2 ⟨v2, rfl, k2, g2⟩
  have K2 := Lib.hid k2
  have G2 := Lib.hid g2
  have hz := G1.out.size
  clear k2 g2
  go_wp2
  go_ret
  exact ⟨_, rfl, K2.out.mono (fun b _ h => ⟨Nat.le_trans hz h.1, h.2⟩), Chg.trans G1.out G2.out⟩
theorem l04Extra_any (w : World) (S T : Nat → Prop) (v u : Value) (p q : List Int) (h : Ints w S v p) (h2 : Ints w T u q) (hp : permB p = true) (hq : q.length ≤ 1000) :
    Calls Try.prog 207 #[v, u] w fun e w' => e = .returned (.int .i64 (extraM p q)) ∧ Up w w' := by
  obtain ⟨A, c, rfl, hlc, hcm, -⟩ := h.shape
  obtain ⟨B, d, rfl, hld, hdm, -⟩ := h2.shape
  have H := Lib.hid h
  have H2 := Lib.hid h2
  have HP := Lib.hid hp
  have HL := Lib.hid (invM_len hp)
  clear h h2 hp
  go_enter Try.func207, Try.ntmps207
  go_wp2_with fail
  refine (l04Finish_any _ _ _ p H.out HP.out).mono ?_
  rintro e w2 ⟨v2, rfl, k2, g2⟩
  obtain ⟨A2, c2, rfl, hl2, hc2, -⟩ := k2.shape
  have K2 := Lib.hid k2
  have G2 := Lib.hid g2
  clear k2 g2
  go_wp2_with fail
  refine (l04Start_any _ _ _ q (H2.out.up G2.out) hq).mono ?_
  rintro e w3 ⟨v3, rfl, k3, g3⟩
  obtain ⟨A3, c3, rfl, hl3, hc3, -⟩ := k3.shape
  have K3 := Lib.hid k3
  have G3 := Lib.hid g3
  clear k3 g3
  have U3 := Lib.hid (Chg.trans G2.out G3.out)
  have KE := Lib.hid (K2.out.up G3.out)
  have HQ : Hid (∀ i (hi : i < (startM q).length), I64 (startM q)[i]) := Lib.hid fun i hi => by have := startM_bd q _ (List.getElem_mem hi); unfold I64; omega
  go_wp2
  go_loop [7] (fun i => ∃ j : Nat, j ≤ (startM q).length ∧ i = .int .i64 j ∧ Hid (extraFrom p q j)) (fun i => (startM q).length - (intOf i).toNat)
  case atStart => exact ⟨0, by omega, rfl, extraFrom.start p q⟩
  case round =>
    obtain ⟨j, hj, rfl, hp⟩ := hrel
    by_cases hlt : j < (startM q).length
    · obtain ⟨b, o, rfl, -, hc⟩ := K3.out.ix hlt
      have f0 := hc j hlt
      rw [ix_eq hlt] at f0
      clear hc
      by_cases hm : (startM q)[j] ∈ startM (invM p)
      · have HM := Lib.hid (decide_eq_true hm)
        have HN := Lib.hid (hp.out.next hlt hm)
        clear hm
        go_wp2_with fail
        refine (has_any _ _ _ _ _ KE.out).mono ?_
        rintro e w' ⟨rfl, rfl⟩
        rw [HM.out]
        go_wp2
        go_round
        case rel => exact ⟨j + 1, by omega, by go_num, HN.out⟩
        case measure => first | (simp [intOf]; done) | (simp [intOf]; omega)
      · have HM := Lib.hid (decide_eq_false hm)
        have HB := Lib.hid (hp.out.at_ hlt hm)
        clear hm
        go_wp2_with fail
        refine (has_any _ _ _ _ _ KE.out).mono ?_
        rintro e w' ⟨rfl, rfl⟩
        rw [HM.out]
        go_wp2
        go_ret
        exact ⟨ret_int HB.out.symm, U3.out⟩
    · obtain rfl : j = (startM q).length := by omega
      have HB := Lib.hid hp.out.all
      go_wp2
      go_ret
      exact ⟨ret_int HB.out.symm, U3.out⟩
theorem missing_any (w : World) (S T : Nat → Prop) (v u : Value) (p q : List Int) (h : Ints w S v p) (h2 : Ints w T u q) (hp : permB p = true) (hq : q.length ≤ 1000) :
    Calls Try.prog 212 #[v, u] w fun e w' => e = .returned (.int .i64 (extraM p q)) ∧ Up w w' := by
  obtain ⟨A, c, rfl, hlc, hcm, -⟩ := h.shape
  obtain ⟨B, d, rfl, hld, hdm, -⟩ := h2.shape
  have H := Lib.hid h
  have H2 := Lib.hid h2
  have HP := Lib.hid hp
  have HL := Lib.hid (invM_len hp)
  clear h h2 hp
  go_enter Try.func212, Try.ntmps212
  go_wp2_with fail
  refine (invert_any _ _ _ p H.out HP.out).mono ?_
  rintro e w1 ⟨v1, rfl, k1, g1⟩
  obtain ⟨A1, c1, rfl, hl1, hc1, -⟩ := k1.shape
  have K1 := Lib.hid k1
  have G1 := Lib.hid g1
  clear k1 g1
  go_wp2_with fail
  refine (startLetters_any _ _ _ (invM p) K1.out HL.out).mono ?_
  rintro e w2 ⟨v2, rfl, k2, g2⟩
  obtain ⟨A2, c2, rfl, hl2, hc2, -⟩ := k2.shape
  have K2 := Lib.hid k2
  have G2 := Lib.hid g2
  clear k2 g2
  have U := Lib.hid (Chg.trans G1.out G2.out)
  go_wp2_with fail
  refine (startLetters_any _ _ _ q (H2.out.up U.out) hq).mono ?_
  rintro e w3 ⟨v3, rfl, k3, g3⟩
  obtain ⟨A3, c3, rfl, hl3, hc3, -⟩ := k3.shape
  have K3 := Lib.hid k3
  have G3 := Lib.hid g3
  clear k3 g3
  have U3 := Lib.hid (Chg.trans U.out G3.out)
  have KE := Lib.hid (K2.out.up G3.out)
  have HQ : Hid (∀ i (hi : i < (startM q).length), I64 (startM q)[i]) := Lib.hid fun i hi => by have := startM_bd q _ (List.getElem_mem hi); unfold I64; omega
  go_wp2
  go_loop [7, 14] (fun _ i => ∃ j : Nat, j ≤ (startM q).length ∧ i = .int .i64 j ∧ Hid (extraFrom p q j)) (fun _ i => (startM q).length - (intOf i).toNat)
  case atStart => exact ⟨0, by omega, rfl, extraFrom.start p q⟩
  case round =>
    obtain ⟨j, hj, rfl, hp⟩ := hrel
    by_cases hlt : j < (startM q).length
    · obtain ⟨b, o, rfl, -, hc⟩ := K3.out.ix hlt
      have f0 := hc j hlt
      rw [ix_eq hlt] at f0
      clear hc
      by_cases hm : (startM q)[j] ∈ startM (invM p)
      · have HM := Lib.hid (decide_eq_true hm)
        have HN := Lib.hid (hp.out.next hlt hm)
        clear hm
        go_wp2_with fail
        refine (contains_p _ _ _ _ _ KE.out).mono ?_
        rintro e w' ⟨rfl, rfl⟩
        rw [HM.out]
        go_wp2
        go_round
        case rel => exact ⟨j + 1, by omega, by go_num, HN.out⟩
        case measure => first | (simp [intOf]; done) | (simp [intOf]; omega)
      · have HM := Lib.hid (decide_eq_false hm)
        have HB := Lib.hid (hp.out.at_ hlt hm)
        clear hm
        go_wp2_with fail
        refine (contains_p _ _ _ _ _ KE.out).mono ?_
        rintro e w' ⟨rfl, rfl⟩
        rw [HM.out]
        go_wp2
        go_ret
        exact ⟨ret_int HB.out.symm, U3.out⟩
    · obtain rfl : j = (startM q).length := by omega
      have HB := Lib.hid hp.out.all
      go_wp2
      go_ret
      exact ⟨ret_int HB.out.symm, U3.out⟩
end Go.Proofs.Ytchfjglofmphfaa
end
section
set_option linter.unusedSimpArgs false
set_option linter.unusedVariables false
namespace Go.Proofs.Ytchfjglofmphfaa
open Go.ChangeShapes Go.WideShapes Go.ChangeAt Go.RowKit
theorem infoSl : (Try.prog.info? 25).map (fun i => (i.zero, i.size, i.bytes)) = some (some (.slice none 0 0), 1, 24) := by kernel_rfl
/-- a row of lists of the call's own; the lists lie in blocks of L -/
def OwnLL (w : World) (base : Nat) (L : Nat → Prop) (v : Value) (xss : List (List Int)) : Prop :=
  ∃ vs, w.ownsRow base 25 1 v xss.length vs ∧ vs.length = xss.length ∧ ∀ i (hi : i < xss.length), IntsE L w ((vs.drop i).take 1) xss[i]
theorem OwnLL.nil (w : World) (base : Nat) (L : Nat → Prop) : OwnLL w base L (.slice none 0 0) [] := ⟨[], World.ownsRow_nil _ _ _ _, rfl, fun i hi => absurd hi (by simp)⟩
theorem OwnLL.rd {w : World} {base : Nat} {L : Nat → Prop} {v : Value} {xss : List (List Int)} (h : OwnLL w base L v xss) (M : Nat → Prop) : IntSSV w M (New base w.heap.size) L v xss := by
  obtain ⟨vs, h1, h2, h3⟩ := h
  exact ⟨vs, Raw.of_own h1, fun i hi => by simpa using h3 i hi⟩
set_option maxRecDepth 100000 in
/-- 'out = append(out, list...)' -/
theorem wp_append_ll {w : World} {ops : Array Oper} {rest : List Oper} {o : Oper} {a : Act} {Q : Exit → Act → World → Prop} (hgd : o.guard = none) (s x : Operand)
    (ho : o.op = .call { callee := .builtin .append, args := #[s, x], argTypes := #[22, 22] })
    (base : Nat) (L : Nat → Prop) (hL : ∀ b, L b → b < base) (v : Value) (xs : List (List Int)) (hs : a.eval s = v) (hown : OwnLL w base L v xs)
    (M H : Nat → Prop) (u : Value) (ys : List (List Int)) (hx : a.eval x = u) (hsrc : IntSSV w M H L u ys) (hlen : xs.length + ys.length ≤ 1099511627) (hbase : base ≤ w.heap.size)
    (h : ∀ v' w', OwnLL w' base L v' (xs ++ ys) → Chg (fun k => base ≤ k) w w' → wpList Try.prog ops Q rest (a.put o.dst v') w') : wpList Try.prog ops Q (o :: rest) a w := by
  obtain ⟨i0, hi, hz0, hz1, hz2⟩ := info_parts infoSl
  obtain ⟨cs, ⟨hcl, A, c, rfl, hlc, hcm, hr, hnn⟩, hE⟩ := hsrc
  obtain ⟨vs, hv1, hv2, hv3⟩ := hown
  have hcl' : cs.length = ys.length := by simpa using hcl
  cases A with
  | none =>
    have hy : ys = [] := by
      rcases Nat.eq_zero_or_pos ys.length with h0 | h0
      · exact List.eq_nil_of_length_eq_zero h0
      · obtain ⟨b, oo, h1, _⟩ := hr h0
        cases h1
    subst hy
    obtain rfl := hnn rfl
    refine wpList_append_own_none hgd s x 22 ho base 25 i0 1 Try.underlying22 hi v xs.length _ hs hv1 hx ?_
    exact h v w (by rw [List.append_nil]; exact ⟨vs, hv1, hv2, hv3⟩) (Chg.refl _ _)
  | some ad =>
    have hnews : ∀ j q, cs[j]? = some q → w.cell? (ad.add j) = some q := by
      intro j q hq
      obtain ⟨hj, he⟩ := List.getElem?_eq_some_iff.1 hq
      obtain ⟨b, oo, h1, _, _, hc⟩ := hr (by omega)
      injection h1 with h1
      subst h1
      have := (hc j hj).1
      rw [← he, ← this]
      unfold Addr.add
      by_cases h0 : j = 0 <;> simp [h0]
    refine wpList_append_own2 (P := Try.prog) hgd s x 22 ho base 25 i0 (.slice none 0 0) 1 24 Try.underlying22 hi hz0 hz1 hz2 rfl (by decide) v xs.length _ hs hv1 ad ys.length c cs hx (by rw [hcl']; omega) hnews ?_ ?_ ?_ hbase ?_
    · intro q hq
      obtain ⟨i, hi, rfl⟩ := List.getElem_of_mem hq
      obtain ⟨A3, c3, e3, -⟩ := hE i (by omega)
      have : cs[i] = .slice A3 ys[i].length c3 := by
        have e4 : ((cs.drop (i * 1)).take 1)[0]? = some (.slice A3 ys[i].length c3) := by rw [e3]; rfl
        rw [Nat.mul_one, List.getElem?_take_of_lt (by omega), List.getElem?_drop, Nat.add_zero, List.getElem?_eq_getElem hi] at e4
        simpa using e4
      rw [this]
      rfl
    · unfold Go.maxLen; omega
    · omega
    · intro v' w' h2 h3 h4
      have hch : Chg (fun k => base ≤ k) w w' := (Chg.refl _ _).grown h3 fun k hk => .inl (hv1.lt k hk).1
      have hkeep : ∀ vs x, IntsE L w vs x → IntsE L w' vs x := fun vs x h => h.keep hch (fun b _ hb => by have := hL b hb; omega)
      refine h v' w' ⟨vs ++ cs, by simpa [hcl'] using h2, by simp [hv2, hcl'], fun i hi => ?_⟩ hch
      rw [List.length_append] at hi
      by_cases c : i < xs.length
      · rw [List.getElem_append_left c, List.drop_append_of_le_length (by omega), List.take_append_of_le_length (by simp; omega)]
        exact hkeep _ _ (hv3 i c)
      · rw [List.getElem_append_right (by omega), List.drop_append, List.drop_eq_nil_of_le (by omega), List.nil_append]
        have := hE (i - xs.length) (by omega)
        rw [Nat.mul_one] at this
        rw [hv2]
        exact hkeep _ _ this
set_option maxRecDepth 100000 in
set_option maxHeartbeats 4000000 in
theorem growLL_nil (w : World) (n : Nat) (hn : n ≤ 1073741824) (L : Nat → Prop) :
    Calls Try.prog 163 #[.slice none 0 0, .int .i64 n] w fun e w' => ∃ v, e = .returned v ∧ OwnLL w' w.heap.size L v [] ∧ Up w w' := by
  have h1 : ¬ ((n : Int) < 0) := by omega
  by_cases h0 : 0 < n
  · obtain ⟨i0, hi, hz0, hz1, hz2⟩ := info_parts infoSl
    have hrz : ∀ ty, (Builtin.append_ #[22, 3] ty #[.slice none 0 0, .int .i64 (n : Int)]).run Try.prog w =
        .ok (.slice (some ⟨w.heap.size, 0, none⟩) n (grownCap w n 0 25))
          (w.drew.alloc (.cells (Builtin.zeroCells (Value.slice none 0 0).cells n ++ Builtin.zeroCells (Value.slice none 0 0).cells (grownCap w n 0 25 - n)) 25)) := fun ty => by
      have h := Lib.run_append_grow_zeros (P := Try.prog) w 22 3 ty 25 i0 _ .i64 .i64 Try.underlying22 Try.underlying3 hi hz0 none 0 0 [] (run_firstCells_none w.drew i0.size 0 0 0) n h0 (by omega) (by omega) (by omega) (by rw [hz2]; omega)
        (by rw [hz2]; exact growslice_fits (by omega) (by omega))
      simpa using h
    have hGn : n ≤ grownCap w n 0 25 := grownCap_ge w _ _ _
    have hG63 := grownCap_le_maxLen w n 0 25 (by unfold Go.maxLen; omega)
    obtain ⟨G, hG⟩ : ∃ G, G = grownCap w n 0 25 := ⟨_, rfl⟩
    rw [← hG] at hrz hGn hG63
    clear hG hi hz0 hz1 hz2
    unfold Go.maxLen at hG63
    go_enter Try.func163, Try.ntmps163
    go_wp2_with (at_builtin; refine Lib.wpList_append_run _ rfl _ _ _ _ rfl _ _ rfl rfl _ _ (hrz _) ?_)
    go_ret
    refine ⟨_, rfl, ⟨[], ⟨by simp, .inr ⟨w.heap.size, G, _, rfl, Nat.le_refl _, heap_alloc_new w _, Nat.zero_le _, by unfold Go.maxLen; omega, ?_, by simp⟩⟩, rfl, fun i hi => absurd hi (by simp)⟩, ((Chg.refl _ _).alloc _).drew⟩
    simp [Builtin.zeroCells]
    omega
  · obtain rfl : n = 0 := by omega
    go_enter Try.func163, Try.ntmps163
    go_wp2
    go_ret
    exact ⟨_, rfl, OwnLL.nil _ _ _, Chg.refl _ _⟩
def sumLL {α : Type} (l : List (List α)) (i : Nat) : Nat := ((l.take i).map List.length).sum
theorem sumLL_succ {α : Type} (l : List (List α)) (i : Nat) (h : i < l.length) : sumLL l (i + 1) = sumLL l i + l[i].length := by
  unfold sumLL
  rw [List.take_succ_eq_append_getElem h, List.map_append, List.sum_append]
  simp only [List.map_cons, List.map_nil, List.sum_cons, List.sum_nil, Nat.add_zero]
theorem sumLL_le {α : Type} (l : List (List α)) : ∀ i, sumLL l i ≤ sumLL l l.length := by
  intro i
  unfold sumLL
  rw [List.take_length]
  induction l generalizing i with
  | nil => simp
  | cons x xs ih =>
    cases i with
    | zero => simp
    | succ i => have := ih i; simp at this ⊢; omega
theorem flatLL_take {α : Type} (l : List (List α)) (i : Nat) (h : i < l.length) : (l.take (i + 1)).flatten = (l.take i).flatten ++ l[i] := by
  rw [List.take_succ_eq_append_getElem h, List.flatten_append]
  simp only [List.flatten_cons, List.flatten_nil, List.append_nil]
theorem flatLL_length {α : Type} (l : List (List α)) (i : Nat) : (l.take i).flatten.length = sumLL l i := by simp [sumLL, List.length_flatten]
set_option maxRecDepth 100000 in
set_option maxHeartbeats 4000000 in
theorem concatLL_any (w : World) (S1 M H L : Nat → Prop) (hL : ∀ b, L b → b < w.heap.size) (arg : Value) (vs : List Value) (yss : List (List (List Int))) (hvl : vs.length = yss.length) (harg : Raw w S1 1 arg yss.length vs)
    (hys : ∀ (i : Nat) (u : Value) (y : List (List Int)), vs[i]? = some u → yss[i]? = some y → IntSSV w M H L u y) (hsum : sumLL yss yss.length ≤ 1073741) :
    Calls Try.prog 113 #[arg] w fun e w' => ∃ v, e = .returned v ∧ IntSSV w' M (New w.heap.size w'.heap.size) L v yss.flatten ∧ Up w w' := by
  obtain ⟨A, c, rfl, hlc, hcm, -⟩ := harg.shape
  have HA := Lib.hid harg
  have HY := Lib.hid hys
  have HM := Lib.hid hsum
  have HV := Lib.hid hvl
  clear harg hys hsum hvl
  go_enter Try.func113, Try.ntmps113
  go_wp2
  go_loop [3, 5, 11] (fun q _ i => ∃ j : Nat, j ≤ yss.length ∧ i = .int .i64 j ∧ q = .int .i64 (sumLL yss j)) (fun _ _ i => yss.length - (intOf i).toNat)
  case atStart => exact ⟨0, by omega, rfl, by simp [sumLL]⟩
  case round =>
    obtain ⟨j, hj, rfl, rfl⟩ := hrel
    by_cases hlt : j < yss.length
    · obtain ⟨h0, A', c', he, -, -, hr, -⟩ := HA.out
      obtain ⟨b, o, hAb, -, -, hc⟩ := hr (by omega)
      obtain ⟨rfl, rfl⟩ : A = A' ∧ c = c' := by simpa using he
      subst hAb
      have hcj := (hc j (by rw [HV.out]; exact hlt)).1
      obtain ⟨A1, c1, hv1, hl1, hc1, -⟩ := (HY.out j _ _ (List.getElem?_eq_getElem (by rw [HV.out]; exact hlt)) (List.getElem?_eq_getElem hlt)).shape
      rw [hv1] at hcj
      have hs1 := sumLL_succ yss j hlt
      have hs2 := sumLL_le yss (j + 1)
      have hs3 : (sumLL yss j : Int) + yss[j].length ≤ 1073741824 := by have := HM.out; omega
      have HS1 := Lib.hid hs1
      have hng : ¬ ((sumLL yss j : Int) + yss[j].length < 0) := by omega
      clear hc hr he h0 hv1 hs1 hs2
      go_wp2
      go_round
      case rel => exact ⟨j + 1, by omega, by go_num, by rw [HS1.out]; go_num⟩
      case measure => simp [intOf]; omega
    · obtain rfl : j = yss.length := by omega
      go_wp2_with fail
      refine (growLL_nil _ _ (by have := HM.out; omega) L).mono ?_
      rintro e w1 ⟨v, rfl, k1, g1⟩
      have K1 := Lib.hid k1
      have G1 := Lib.hid g1
      clear k1 g1
      go_wp2
      go_loopw [6, 8, 27] (fun v _ i wr => ∃ j : Nat, j ≤ yss.length ∧ i = .int .i64 j ∧ Hid (OwnLL wr w.heap.size L v (yss.take j).flatten) ∧ Hid (Up w wr)) (fun _ _ i _ => yss.length - (intOf i).toNat)
      case atStart => exact ⟨0, by omega, rfl, by simpa [Hid] using K1.out, G1.out⟩
      case round =>
        obtain ⟨j, hj2, rfl, ho, hg⟩ := hrel
        by_cases hlt2 : j < yss.length
        · obtain ⟨h0, A', c', he, -, -, hr, -⟩ := HA.out.up hg.out
          obtain ⟨b, o, hAb, -, -, hc⟩ := hr (by omega)
          obtain ⟨rfl, rfl⟩ : A = A' ∧ c = c' := by simpa using he
          subst hAb
          have hcj := (hc j (by rw [HV.out]; exact hlt2)).1
          have hsrc := (HY.out j _ _ (List.getElem?_eq_getElem (by rw [HV.out]; exact hlt2)) (List.getElem?_eq_getElem hlt2)).up hg.out
          obtain ⟨A1, c1, hv1, hl1, hc1, -⟩ := hsrc.shape
          rw [hv1] at hcj hsrc
          have HSR := Lib.hid hsrc
          have HL := Lib.hid (show (yss.take j).flatten.length + yss[j].length ≤ 1099511627 by
            rw [flatLL_length]
            have h1 := sumLL_succ yss j hlt2
            have h2 := sumLL_le yss (j + 1)
            have := HM.out
            omega)
          have hsz := hg.out.size
          clear hc hr he h0 hv1 hsrc
          go_wp2_with (at_builtin; refine wp_append_ll rfl _ _ rfl w.heap.size L hL _ (yss.take j).flatten rfl ho.out M H _ yss[j] rfl HSR.out HL.out (by omega) ?_; intro v' w3 ho1 hg1; have HO := Lib.hid ho1; have HG := Lib.hid hg1; clear ho1 hg1)
          go_roundw
          case rel => exact ⟨j + 1, by omega, by go_num, by rw [flatLL_take _ _ hlt2]; exact HO.out, Chg.new hg.out HG.out (fun i hi => by omega)⟩
          case measure => simp [intOf]; omega
        · obtain rfl : j = yss.length := by omega
          go_wp2
          go_ret
          refine ⟨_, rfl, ?_, hg.out⟩
          have := ho.out.rd M
          rwa [List.take_length] at this
end Go.Proofs.Ytchfjglofmphfaa
end
section
set_option linter.unusedSimpArgs false
set_option linter.unusedVariables false
namespace Go.Proofs.Ytchfjglofmphfaa
open Go.ChangeShapes Go.WideShapes Go.ChangeAt Go.RowKit
theorem Ints.part {w : World} {S : Nat → Prop} {A A' : Option Addr} {c c' k : Nat} {xs : List Int} (h : Ints w S (.slice A xs.length c) xs) (i : Nat) (hik : i + k ≤ xs.length) (hc : k ≤ c') (hc2 : c' ≤ 9223372036854775807)
    (hA : ∀ b o, A = some ⟨b, o, none⟩ → 0 < k → A' = some ⟨b, o + i, none⟩) (hn : A' = none → c' = 0) : Ints w S (.slice A' k c') ((xs.drop i).take k) := by
  obtain ⟨A0, c0, he, h1, h2, h3, h4, h5⟩ := h
  obtain ⟨rfl, rfl⟩ : A = A0 ∧ c = c0 := by simpa using he
  have hlen : ((xs.drop i).take k).length = k := by rw [List.length_take, List.length_drop]; omega
  refine ⟨A', c', by rw [hlen], by rw [hlen]; exact hc, hc2, fun x hx => h3 x (List.mem_of_mem_drop (List.mem_of_mem_take hx)), fun hp => ?_, hn⟩
  rw [hlen] at hp
  obtain ⟨b, o, hA0, hS, hb, hcell⟩ := h4 (by omega)
  refine ⟨b, o + i, hA b o hA0 hp, hS, hb, fun t ht => ?_⟩
  rw [hlen] at ht
  have h9 := hcell (i + t) (by omega)
  rw [← Nat.add_assoc] at h9
  have e3 : ((xs.drop i).take k)[t]'(by omega) = xs[i + t]'(by omega) := by simp
  rw [e3]
  exact h9
theorem Ints.took {w : World} {S : Nat → Prop} {A : Option Addr} {c k c2 : Nat} {xs : List Int} (h : Ints w S (.slice A xs.length c) xs) (hk : k ≤ xs.length) (hc2 : c2 = c) : Ints w S (.slice A k c2) (xs.take k) := by
  subst hc2
  obtain ⟨A', c', he, h1, h2, h3⟩ := h.shape
  obtain ⟨rfl, rfl⟩ : A = A' ∧ c2 = c' := by simpa using he
  have := h.part (A' := A) (c' := c2) 0 (k := k) (by omega) (by omega) h2 (fun b' o' e _ => by simpa using e) h3
  simpa using this
theorem Ints.dropt {w : World} {S : Nat → Prop} {A A' : Option Addr} {c k c2 n : Nat} {xs : List Int} (h : Ints w S (.slice A xs.length c) xs) (hk : k ≤ xs.length) (hn : n = xs.length - k) (hc2 : c2 = c - k) (hA : ∀ b o, A = some ⟨b, o, none⟩ → k < xs.length → A' = some ⟨b, o + k, none⟩) (hA2 : A' = none → c2 = 0) : Ints w S (.slice A' n c2) (xs.drop k) := by
  subst hc2 hn
  obtain ⟨A0, c', he, h1, h2, h3⟩ := h.shape
  obtain ⟨rfl, rfl⟩ : A = A0 ∧ c = c' := by simpa using he
  have := h.part (A' := A') (c' := c - k) k (k := xs.length - k) (by omega) (by omega) (by omega) (fun b o e hp => hA b o e (by omega)) hA2
  rwa [List.take_of_length_le (by simp)] at this
end Go.Proofs.Ytchfjglofmphfaa
end
