/- slices.Reverse on numbers. No condition. Permutations: small functions on both sides. No condition. SameProof on both sides. No condition. Permutations: validity, start letters, missing letters on both sides. No condition. Plain words: the letters of a permutation. No condition. The letters of a permutation, on both sides. No condition. The program's letters of a permutation. No condition. Letters of permutations by the program; words turned round; the events of letters. No condition. Missing letters on both sides. No condition. -/
import Derived.Test.YtplabnjdhkmmkaaPF5
import Derived.RegionTactic
import Derived.ChangeAlike
import Derived.Test.YtplabnjdhkmmkaaPF7
import Derived.Laws.AppendOwnNone
section
set_option linter.unusedSimpArgs false
set_option linter.unusedVariables false
set_option maxRecDepth 100000
set_option maxHeartbeats 4000000
namespace Go.Proofs.Ytplabnjdhkmmkaa
open Go.ChangeShapes Go.WideShapes Go.ChangeAt Go.RowKit
/-- in the middle of turning a list round: the first k and the last k have changed places -/
def revAt (xs : List Int) (k t : Nat) : Int := if t < k ∨ xs.length - k ≤ t then ix xs (xs.length - 1 - t) else ix xs t
theorem revAt_k {xs : List Int} {k m : Nat} (hm : m = xs.length - 1 - k) (_h : k < m) : revAt xs (k + 1) k = ix xs m := by
  unfold revAt
  rw [if_pos (by omega), hm]
theorem revAt_m {xs : List Int} {k m : Nat} (hm : m = xs.length - 1 - k) (h : k < m) : revAt xs (k + 1) m = ix xs k := by
  unfold revAt
  rw [if_pos (by omega), show xs.length - 1 - m = k by omega]
theorem revAt_no {xs : List Int} {k m t : Nat} (hm : m = xs.length - 1 - k) (h : k < m) (h1 : t ≠ k) (h2 : t ≠ m) (ht : t < xs.length) : revAt xs (k + 1) t = revAt xs k t := by
  unfold revAt
  by_cases hh : t < k ∨ xs.length - k ≤ t
  · rw [if_pos hh, if_pos (by omega)]
  · rw [if_neg hh, if_neg (by omega)]
theorem revAt_end {xs : List Int} {k t : Nat} (h : ¬ k + 1 < xs.length - k) (hk : 2 * k ≤ xs.length) (ht : t < xs.length) : revAt xs k t = ix xs (xs.length - 1 - t) := by
  unfold revAt
  by_cases hh : t < k ∨ xs.length - k ≤ t
  · rw [if_pos hh]
  · rw [if_neg hh, show xs.length - 1 - t = t by omega]
theorem reverse_go (w : World) (b o c : Nat) (xs : List Int) (hlc : xs.length ≤ c) (hcm : c ≤ 9223372036854775807) (_hbl : b < w.heap.size)
    (hc : ∀ t, t < xs.length → w.cell? ⟨b, o + t, none⟩ = some (.int .i64 (ix xs t)) ∧ w.frozen? ⟨b, o + t, none⟩ = false) :
    Calls Try.prog 112 #[.slice (some ⟨b, o, none⟩) xs.length c] w fun e w' => e = .returned (.tuple #[]) ∧ Chg (fun x => x = b) w w' ∧ ∀ t, t < xs.length → w'.cell? ⟨b, o + t, none⟩ = some (.int .i64 (ix xs (xs.length - 1 - t))) ∧ w'.frozen? ⟨b, o + t, none⟩ = false := by
  have Hc := Lib.hid hc
  clear hc
  go_enter Try.func112, Try.ntmps112
  go_wp2
  go_loopw [2, 3] (fun i j wr => ∃ k : Nat, 2 * k ≤ xs.length ∧ i = .int .i64 k ∧ j = .int .i64 ((xs.length : Int) - 1 - k) ∧ Hid (Chg (fun x => x = b) w wr) ∧ Hid (∀ t, t < xs.length → wr.cell? ⟨b, o + t, none⟩ = some (.int .i64 (revAt xs k t)) ∧ wr.frozen? ⟨b, o + t, none⟩ = false)) (fun i _ _ => xs.length - (intOf i).toNat)
  case atStart => exact ⟨0, by omega, rfl, by simp, Chg.refl _ _, fun t ht => by
    have := Hc.out t ht
    unfold revAt
    rw [if_neg (by omega)]
    exact this⟩
  case round =>
    obtain ⟨k, hk, rfl, rfl, hg, hcs⟩ := hrel
    by_cases hlt : k + 1 < xs.length - k
    · obtain ⟨m, hm⟩ : ∃ m : Nat, m = xs.length - 1 - k := ⟨_, rfl⟩
      have hmI : (xs.length : Int) - 1 - k = m := by omega
      have hmk : k < m ∧ m < xs.length := by omega
      obtain ⟨hm1, hm2⟩ := hmk
      obtain ⟨p1, p2⟩ := hcs.out k (by omega)
      obtain ⟨p3, p4⟩ := hcs.out m hm2
      have e1 : revAt xs k k = ix xs k := by unfold revAt; rw [if_neg (by omega)]
      have e2 : revAt xs k m = ix xs m := by unfold revAt; rw [if_neg (by omega)]
      rw [e1] at p1
      rw [e2] at p3
      have HM := Lib.hid hm
      rw [hmI]
      have HMI := Lib.hid hmI
      clear e1 e2 hm hmI
      have hdd : decide ((k : Int) < (m : Int)) = true := decide_eq_true (by omega)
      have hnn : ¬ o + k = o + m := by omega
      have hnn2 : ¬ o + m = o + k := by omega
      go_wp2
      go_region
      all_goals go_wp2
      all_goals
        refine ⟨⟨k + 1, by omega, by go_num, ?_, ?_, ?_⟩, ?_⟩
        · have := HM.out; simp only [Value.int.injEq, true_and]; omega
        · exact Chg.drew (Chg.setCell (Chg.setCell hg.out (.inl rfl) _) (.inl rfl) _)
        · intro t ht
          obtain ⟨q1, q2⟩ := hcs.out t ht
          have hk1 : (wr.setCell ⟨b, o + k, none⟩ (.int .i64 (ix xs m))).cell? ⟨b, o + m, none⟩ = some (.int .i64 (ix xs m)) := by
            rw [World.cell?_setCell_other _ _ _ _ (fun h => hnn (Addr.mk.inj h).2.1)]
            exact p3
          by_cases ek : t = k
          · subst ek
            rw [revAt_k HM.out hm1]
            refine ⟨?_, by simpa using q2⟩
            show (World.setCell _ _ _).cell? _ = _
            rw [World.cell?_setCell_other _ _ _ _ (fun h => hnn2 (Addr.mk.inj h).2.1), World.cell?_setCell_same _ _ _ p1]
          · by_cases em : t = m
            · subst em
              rw [revAt_m HM.out hm1]
              refine ⟨?_, by simpa using q2⟩
              show (World.setCell _ _ _).cell? _ = _
              rw [World.cell?_setCell_same _ _ _ hk1]
            · rw [revAt_no HM.out hm1 ek em ht]
              refine ⟨?_, by simpa using q2⟩
              show (World.setCell _ _ _).cell? _ = _
              rw [World.cell?_setCell_other _ _ _ _ (fun h => em (by have := (Addr.mk.inj h).2.1; omega)), World.cell?_setCell_other _ _ _ _ (fun h => ek (by have := (Addr.mk.inj h).2.1; omega))]
              exact q1
        · simp [intOf]; omega
    · have hnot : ¬ (k : Int) < (xs.length : Int) - 1 - k := by omega
      have HE := Lib.hid (fun t (ht : t < xs.length) => revAt_end hlt hk ht)
      clear hlt
      go_wp2
      go_end0
      refine ⟨rfl, hg.out, fun t ht => ?_⟩
      rw [← HE.out t ht]
      exact hcs.out t ht
theorem reverse_any (w : World) (S : Nat → Prop) (v : Value) (xs : List Int) (h : Ints w S v xs) :
    Calls Try.prog 112 #[v] w fun e w' => e = .returned (.tuple #[]) ∧ Chg S w w' ∧ Ints w' S v xs.reverse := by
  obtain ⟨A, c, rfl, hlc, hcm, hx, hr, hnn⟩ := h
  by_cases hp : 0 < xs.length
  · obtain ⟨b, o, rfl, hS, hbl, hc⟩ := hr hp
    refine (reverse_go w b o c xs hlc hcm hbl (fun t ht => by rw [ix_eq ht]; exact hc t ht)).mono ?_
    rintro e w' ⟨he, hg, hcs⟩
    refine ⟨he, hg.mono (fun k _ hk => by rw [hk]; exact hS), _, c, by rw [List.length_reverse], by rw [List.length_reverse]; exact hlc, hcm, fun x hxx => hx x (List.mem_reverse.1 hxx), fun _ => ⟨b, o, rfl, hS, Nat.lt_of_lt_of_le hbl hg.size, fun t ht => ?_⟩, by simp⟩
    have ht' : t < xs.length := by simpa using ht
    have := hcs t ht'
    rw [ix_eq (show xs.length - 1 - t < xs.length by omega)] at this
    rw [List.getElem_reverse]
    exact this
  · have hn : xs = [] := List.eq_nil_of_length_eq_zero (by omega)
    subst hn
    clear hr hp
    go_enter Try.func112, Try.ntmps112
    go_wp2
    go_loop [2, 3] (fun i j => i = .int .i64 0 ∧ j = .int .i64 (-1)) (fun _ _ => 0)
    case atStart => exact ⟨rfl, by simp⟩
    case round =>
      obtain ⟨rfl, rfl⟩ := hrel
      go_wp2
      go_end0
      exact ⟨rfl, Chg.refl _ _, Ints.nil _ _ _ _ hcm hnn⟩
end Go.Proofs.Ytplabnjdhkmmkaa
end
section
set_option maxRecDepth 100000
set_option maxHeartbeats 1000000
set_option linter.unusedSimpArgs false
set_option linter.unusedVariables false
namespace Go.Proofs.Ytplabnjdhkmmkaa
open Go.ChangeShapes Go.WideShapes Go.ChangeAt Go.RowKit
theorem has_any (w : World) (S : Nat → Prop) (v : Value) (xs : List Int) (x : Int) (h : Ints w S v xs) :
    Calls Try.prog 133 #[v, .int .i64 x] w fun e w' => e = .returned (.bool (decide (x ∈ xs))) ∧ w = w' := by
  obtain ⟨A, c, rfl, hlc, hcm, -⟩ := h.shape
  have H := Lib.hid h
  clear h
  go_enter Try.func133, Try.ntmps133
  go_wp2
  go_loop [5] (fun i => ∃ j : Nat, j ≤ xs.length ∧ i = .int .i64 j ∧ Hid (x ∉ xs.take j)) (fun i => xs.length - (intOf i).toNat)
  case atStart => exact ⟨0, by omega, rfl, by simp [Hid]⟩
  case round =>
    obtain ⟨j, hj, rfl, hno⟩ := hrel
    by_cases hlt : j < xs.length
    · obtain ⟨b1, o1, rfl, -, hc⟩ := H.out.ix hlt
      have f1 := hc j hlt
      rw [ix_eq hlt] at f1
      clear hc
      by_cases he : xs[j] = x
      · have HM := Lib.hid (show decide (x ∈ xs) = true from decide_eq_true (he ▸ List.getElem_mem hlt))
        rw [he] at f1
        have e1 : (x == x) = true := by simp
        clear he
        go_wp2
        go_ret
        exact ⟨ret_bool HM.out.symm, rfl⟩
      · have e1 : (xs[j] == x) = false := by simpa using he
        have HE := Lib.hid he
        clear he
        go_wp2
        go_round
        case rel => exact ⟨j + 1, by omega, by go_num, by show x ∉ _; rw [List.take_succ_eq_append_getElem hlt]; intro hm; rcases List.mem_append.1 hm with hm | hm; exact hno.out hm; exact HE.out (by simpa [eq_comm] using hm)⟩
        case measure => simp [intOf]; omega
    · obtain rfl : j = xs.length := by omega
      have HM := Lib.hid (show decide (x ∈ xs) = false from decide_eq_false (by have := hno.out; rwa [List.take_length] at this))
      go_wp2
      go_ret
      exact ⟨ret_bool HM.out.symm, rfl⟩
theorem identity_any (w : World) (n : Nat) (hn : n ≤ 1000) :
    Calls Try.prog 110 #[.int .i64 n] w fun e w' => ∃ v, e = .returned v ∧ Ints w' (New w.heap.size w'.heap.size) v (identM n) ∧ Up w w' := by
  obtain ⟨i0, hi, hz0, hz1, hz2⟩ := info_parts info2
  have hmk : ∀ u : World, (Instr.makeSlice 23 (.int .i64 (n : Int)) (.int .i64 (n : Int))).run Try.prog u =
      .ok (.slice (some ⟨u.heap.size, 0, none⟩) n n) (u.alloc (.cells (madeCells #[.int .i64 0] n) 2)) := fun u => by
    have h := run_make (P := Try.prog) u 23 2 i0 (.int .i64 0) Try.underlying23 hi hz0 .i64 .i64 (n : Int) (n : Int) (by omega) (Int.le_refl _) (by rw [hz2]; omega) (by omega)
    simpa [hz1, Value.cells] using h
  go_enter Try.func110, Try.ntmps110
  go_wp2
  have Hi := Lib.hid hmk
  clear hmk hi hz0 hz1 hz2
  go_loopw [4, 9] (fun _ i wr => ∃ j : Nat, j ≤ n ∧ i = .int .i64 j ∧ Hid (Up w wr) ∧ Hid (Ints wr (fun b => b = w.heap.size) (.slice (some ⟨w.heap.size, 0, none⟩) n n) (identTo n j))) (fun _ i _ => n - (intOf i).toNat)
  case atStart => exact ⟨0, by omega, rfl, (Chg.refl _ _).alloc _, Lib.hid (Ints.zeros w _ n _ (by omega) rfl)⟩
  case round =>
    obtain ⟨j, hj, rfl, hg, hc⟩ := hrel
    by_cases hlt : j < n
    · have hlen := identTo_length n j
      have hI := hc.out
      obtain ⟨m, hm⟩ : ∃ m, m = (identTo n j).length := ⟨_, rfl⟩
      have hmn : m = n := hm.trans hlen
      have hI2 : Ints wr (fun b => b = w.heap.size) (.slice (some ⟨w.heap.size, 0, none⟩) (identTo n j).length n) (identTo n j) := by rw [hlen]; exact hI
      obtain ⟨b, o, hb, -, hcc⟩ := ints_ixf hI2 (i := j) (by omega)
      obtain ⟨rfl, rfl⟩ : w.heap.size = b ∧ 0 = o := by simpa using hb
      obtain ⟨f0, q0⟩ := hcc j (by omega)
      rw [Nat.zero_add] at f0 q0
      have HS := Lib.hid (hI2.set (k := j) (by omega) (x := j) (by unfold I64; omega))
      clear hcc hI hI2 hm hmn hlen
      go_wp2
      go_roundw
      case rel => exact ⟨j + 1, by omega, by go_num, hg.out.setCell (.inr (Nat.le_refl _)) _, by have h := HS.out; rw [identTo_length, Nat.zero_add] at h; exact h⟩
      case measure => simp [intOf]; omega
    · obtain rfl : j = n := by omega
      have HE := Lib.hid (identTo_all j)
      go_wp2
      go_ret
      exact ⟨_, rfl, by rw [← HE.out]; exact hc.out.mono (fun b hb h => by have h : b = w.heap.size := h; subst h; exact ⟨Nat.le_refl _, hb⟩), hg.out⟩
theorem l04Identity_any (w : World) (n : Nat) (hn : n ≤ 1000) :
    Calls Try.prog 102 #[.int .i64 n] w fun e w' => ∃ v, e = .returned v ∧ Ints w' (New w.heap.size w'.heap.size) v (identM n) ∧ Up w w' := by
  go_enter Try.func102, Try.ntmps102
  go_wp2
  go_loopw [3, 4] (fun v i wr => ∃ j : Nat, j ≤ n ∧ i = .int .i64 j ∧ Hid (OwnI wr w.heap.size v (identM j)) ∧ Hid (Up w wr)) (fun _ i _ => n - (intOf i).toNat)
  case atStart => exact ⟨0, by omega, rfl, OwnI.made w _ (Nat.le_refl _), (Chg.refl _ _).alloc _⟩
  case round =>
    obtain ⟨j, hj, rfl, ho, hg⟩ := hrel
    by_cases hlt : j < n
    · have HI := Lib.hid (show I64 (j : Int) by unfold I64; omega)
      have HL := Lib.hid (show (identM j).length ≤ 1099511627776 by rw [identM_length]; omega)
      have hsz := hg.out.size
      go_wp2_with (first | (at_builtin; refine wp_append_int rfl _ _ rfl w.heap.size _ (identM j) rfl (ho.out.alloc _) _ ((j : Int)) rfl (cell_new _ _ _ _) HI.out HL.out ?_ ?_; (simp; omega); intro v' w' h1 h2 h3; have HO := Lib.hid h1; have HG := Lib.hid h3; clear h1 h2 h3; go_wp2))
      go_roundw
      case rel => exact ⟨j + 1, by omega, by go_num, by rw [identM_succ]; exact HO.out, Chg.new (hg.out.alloc _) HG.out (fun i hi => by omega)⟩
      case measure => simp [intOf]; omega
    · obtain rfl : j = n := by omega
      go_wp2
      go_ret
      exact ⟨_, rfl, ho.out.ints, hg.out⟩
theorem l04Half_any (w : World) (n : Nat) (hn : n ≤ 1000) :
    Calls Try.prog 104 #[.int .i64 n] w fun e w' => ∃ v, e = .returned v ∧ Ints w' (New w.heap.size w'.heap.size) v (halfM n) ∧ Up w w' := by
  go_enter Try.func104, Try.ntmps104
  go_wp2
  go_loopw [3, 4] (fun v i wr => ∃ j : Nat, j ≤ n ∧ i = .int .i64 ((n : Int) - 1 - j) ∧ Hid (OwnI wr w.heap.size v (fallTo n j)) ∧ Hid (Up w wr)) (fun _ i _ => (intOf i + 1).toNat)
  case atStart => exact ⟨0, by omega, by simp, OwnI.made w _ (Nat.le_refl _), (Chg.refl _ _).alloc _⟩
  case round =>
    obtain ⟨j, hj, rfl, ho, hg⟩ := hrel
    by_cases hlt : j < n
    · have HI := Lib.hid (show I64 ((n : Int) - 1 - j) by unfold I64; omega)
      have HL := Lib.hid (show (fallTo n j).length ≤ 1099511627776 by rw [fallTo_length]; omega)
      have hsz := hg.out.size
      have hge : (0 : Int) ≤ (n : Int) - 1 - j := by omega
      go_wp2_with (first | (at_builtin; refine wp_append_int rfl _ _ rfl w.heap.size _ (fallTo n j) rfl (ho.out.alloc _) _ ((n : Int) - 1 - j) rfl (cell_new _ _ _ _) HI.out HL.out ?_ ?_; (simp; omega); intro v' w' h1 h2 h3; have HO := Lib.hid h1; have HG := Lib.hid h3; clear h1 h2 h3; go_wp2))
      go_roundw
      case rel => exact ⟨j + 1, by omega, by simp only [Value.int.injEq, true_and]; omega, by rw [fallTo_succ]; exact HO.out, Chg.new (hg.out.alloc _) HG.out (fun i hi => by omega)⟩
      case measure => simp [intOf]; omega
    · obtain rfl : j = n := by omega
      have hge : ¬ (0 : Int) ≤ (j : Int) - 1 - j := by omega
      have HE := Lib.hid (fallTo_all j)
      go_wp2
      go_ret
      exact ⟨_, rfl, by unfold halfM; rw [← HE.out]; exact ho.out.ints, hg.out⟩
theorem halfTwist_any (w : World) (n : Nat) (hn : n ≤ 1000) :
    Calls Try.prog 82 #[.int .i64 n] w fun e w' => ∃ v, e = .returned v ∧ Ints w' (New w.heap.size w'.heap.size) v (halfM n) ∧ Up w w' := by
  go_enter Try.func82, Try.ntmps82
  go_wp2_with fail
  refine (identity_any _ n hn).mono ?_
  rintro e w1 ⟨v, rfl, k1, g1⟩
  obtain ⟨A, c, rfl, hlc, hcm, -⟩ := k1.shape
  have K1 := Lib.hid k1
  have G1 := Lib.hid g1
  clear k1 g1
  go_wp2_with fail
  refine (reverse_any _ _ _ _ K1.out).mono ?_
  rintro e w2 ⟨rfl, g2, k2⟩
  have K2 := Lib.hid k2
  have G2 := Lib.hid g2
  clear k2 g2
  go_wp2
  go_ret
  exact ⟨_, rfl, K2.out.mono (fun b _ h => ⟨h.1, Nat.lt_of_lt_of_le h.2 G2.out.size⟩), Chg.new G1.out G2.out (fun i hi h => by have := h.1; omega)⟩
theorem l04Inverse_any (w : World) (S : Nat → Prop) (v : Value) (p : List Int) (h : Ints w S v p) (hp : permB p = true) :
    Calls Try.prog 140 #[v] w fun e w' => ∃ u, e = .returned u ∧ Ints w' (New w.heap.size w'.heap.size) u (invM p) ∧ Up w w' := by
  have hlp := permB_len hp
  obtain ⟨A, c, rfl, hlc, hcm, -⟩ := h.shape
  have H := Lib.hid h
  have HP := Lib.hid hp
  clear h hp
  obtain ⟨i0, hi, hz0, hz1, hz2⟩ := info_parts info2
  have hmk : ∀ u : World, (Instr.makeSlice 23 (.int .i64 (p.length : Int)) (.int .i64 (p.length : Int))).run Try.prog u =
      .ok (.slice (some ⟨u.heap.size, 0, none⟩) p.length p.length) (u.alloc (.cells (madeCells #[.int .i64 0] p.length) 2)) := fun u => by
    have h := run_make (P := Try.prog) u 23 2 i0 (.int .i64 0) Try.underlying23 hi hz0 .i64 .i64 (p.length : Int) (p.length : Int) (by omega) (Int.le_refl _) (by rw [hz2]; omega) (by omega)
    simpa [hz1, Value.cells] using h
  go_enter Try.func140, Try.ntmps140
  go_wp2
  have Hi := Lib.hid hmk
  clear hmk hi hz0 hz1 hz2
  go_loopw [4] (fun i wr => ∃ j : Nat, j ≤ p.length ∧ i = .int .i64 j ∧ Hid (Up w wr) ∧ Hid (Ints wr (fun b => b = w.heap.size) (.slice (some ⟨w.heap.size, 0, none⟩) p.length p.length) (invTo p j))) (fun i _ => p.length - (intOf i).toNat)
  case atStart => exact ⟨0, by omega, rfl, (Chg.refl _ _).alloc _, Lib.hid (Ints.zeros w _ p.length _ (by omega) rfl)⟩
  case round =>
    obtain ⟨j, hj, rfl, hg, hc⟩ := hrel
    by_cases hlt : j < p.length
    · have hlen := invTo_length p j
      obtain ⟨hx0, hx1⟩ := permB_ix HP.out hlt
      obtain ⟨kn, hk⟩ : ∃ kn : Nat, ix p j = kn := ⟨(ix p j).toNat, by omega⟩
      have hkn : kn < p.length := by omega
      obtain ⟨b1, o1, rfl, -, hc1⟩ := (H.out.up hg.out).ix hlt
      have f1 := hc1 j hlt
      rw [hk] at f1
      have hI2 : Ints wr (fun b => b = w.heap.size) (.slice (some ⟨w.heap.size, 0, none⟩) (invTo p j).length p.length) (invTo p j) := by rw [hlen]; exact hc.out
      obtain ⟨b, o, hb, -, hcc⟩ := ints_ixf hI2 (i := kn) (by omega)
      obtain ⟨rfl, rfl⟩ : w.heap.size = b ∧ 0 = o := by simpa using hb
      obtain ⟨f0, q0⟩ := hcc kn (by omega)
      rw [Nat.zero_add] at f0 q0
      have HS := Lib.hid (hI2.set (k := kn) (by omega) (x := j) (by unfold I64; omega))
      have HK := Lib.hid hk
      clear hcc hI2 hlen hk hx0 hx1 hc1
      go_wp2
      go_roundw
      case rel => exact ⟨j + 1, by omega, by go_num, hg.out.setCell (.inr (Nat.le_refl _)) _, by have h := HS.out; rw [invTo_length, Nat.zero_add] at h; rw [invTo, HK.out]; exact h⟩
      case measure => simp [intOf]; omega
    · obtain rfl : j = p.length := by omega
      go_wp2
      go_ret
      exact ⟨_, rfl, hc.out.mono (fun b hb h => by have h : b = w.heap.size := h; subst h; exact ⟨Nat.le_refl _, hb⟩), hg.out⟩
theorem invert_any (w : World) (S : Nat → Prop) (v : Value) (p : List Int) (h : Ints w S v p) (hp : permB p = true) :
    Calls Try.prog 139 #[v] w fun e w' => ∃ u, e = .returned u ∧ Ints w' (New w.heap.size w'.heap.size) u (invM p) ∧ Up w w' := by
  have hlp := permB_len hp
  obtain ⟨A, c, rfl, hlc, hcm, -⟩ := h.shape
  have H := Lib.hid h
  have HP := Lib.hid hp
  clear h hp
  obtain ⟨i0, hi, hz0, hz1, hz2⟩ := info_parts info2
  have hmk : ∀ u : World, (Instr.makeSlice 23 (.int .i64 (p.length : Int)) (.int .i64 (p.length : Int))).run Try.prog u =
      .ok (.slice (some ⟨u.heap.size, 0, none⟩) p.length p.length) (u.alloc (.cells (madeCells #[.int .i64 0] p.length) 2)) := fun u => by
    have h := run_make (P := Try.prog) u 23 2 i0 (.int .i64 0) Try.underlying23 hi hz0 .i64 .i64 (p.length : Int) (p.length : Int) (by omega) (Int.le_refl _) (by rw [hz2]; omega) (by omega)
    simpa [hz1, Value.cells] using h
  go_enter Try.func139, Try.ntmps139
  go_wp2
  have Hi := Lib.hid hmk
  clear hmk hi hz0 hz1 hz2
  go_loopw [4, 5, 11] (fun _ _ i wr => ∃ j : Nat, j ≤ p.length ∧ i = .int .i64 j ∧ Hid (Up w wr) ∧ Hid (Ints wr (fun b => b = w.heap.size) (.slice (some ⟨w.heap.size, 0, none⟩) p.length p.length) (invTo p j))) (fun _ _ i _ => p.length - (intOf i).toNat)
  case atStart => exact ⟨0, by omega, rfl, (Chg.refl _ _).alloc _, Lib.hid (Ints.zeros w _ p.length _ (by omega) rfl)⟩
  case round =>
    obtain ⟨j, hj, rfl, hg, hc⟩ := hrel
    by_cases hlt : j < p.length
    · have hlen := invTo_length p j
      obtain ⟨hx0, hx1⟩ := permB_ix HP.out hlt
      obtain ⟨kn, hk⟩ : ∃ kn : Nat, ix p j = kn := ⟨(ix p j).toNat, by omega⟩
      have hkn : kn < p.length := by omega
      obtain ⟨b1, o1, rfl, -, hc1⟩ := (H.out.up hg.out).ix hlt
      have f1 := hc1 j hlt
      rw [hk] at f1
      have hI2 : Ints wr (fun b => b = w.heap.size) (.slice (some ⟨w.heap.size, 0, none⟩) (invTo p j).length p.length) (invTo p j) := by rw [hlen]; exact hc.out
      obtain ⟨b, o, hb, -, hcc⟩ := ints_ixf hI2 (i := kn) (by omega)
      obtain ⟨rfl, rfl⟩ : w.heap.size = b ∧ 0 = o := by simpa using hb
      obtain ⟨f0, q0⟩ := hcc kn (by omega)
      rw [Nat.zero_add] at f0 q0
      have HS := Lib.hid (hI2.set (k := kn) (by omega) (x := j) (by unfold I64; omega))
      have HK := Lib.hid hk
      clear hcc hI2 hlen hk hx0 hx1 hc1
      go_wp2
      go_roundw
      case rel => exact ⟨j + 1, by omega, by go_num, hg.out.setCell (.inr (Nat.le_refl _)) _, by have h := HS.out; rw [invTo_length, Nat.zero_add] at h; rw [invTo, HK.out]; exact h⟩
      case measure => simp [intOf]; omega
    · obtain rfl : j = p.length := by omega
      go_wp2
      go_ret
      exact ⟨_, rfl, hc.out.mono (fun b hb h => by have h : b = w.heap.size := h; subst h; exact ⟨Nat.le_refl _, hb⟩), hg.out⟩
theorem descents_any (w : World) (S : Nat → Prop) (v : Value) (p : List Int) (h : Ints w S v p) (hl : p.length ≤ 1000) :
    Calls Try.prog 143 #[v] w fun e w' => ∃ u, e = .returned u ∧ Ints w' (New w.heap.size w'.heap.size) u (descM p) ∧ Up w w' := by
  obtain ⟨A, c, rfl, hlc, hcm, -⟩ := h.shape
  have H := Lib.hid h
  clear h
  go_enter Try.func143, Try.ntmps143
  go_wp2
  go_loopw [3, 4] (fun v i wr => ∃ j : Nat, j ≤ p.length - 1 ∧ i = .int .i64 (j : Int) ∧ Hid (OwnI wr w.heap.size v (descTo p j)) ∧ Hid (Up w wr)) (fun _ i _ => p.length + 1 - (intOf i).toNat)
  case atStart => exact ⟨0, by omega, by simp, OwnI.made w _ (Nat.le_refl _), (Chg.refl _ _).alloc _⟩
  case round =>
    obtain ⟨j, hj, rfl, ho, hg⟩ := hrel
    by_cases hlt : j + 1 < p.length
    · obtain ⟨b1, o1, rfl, -, hc⟩ := (H.out.up hg.out).ix hlt
      have f1 := hc (j + 1) hlt
      have f0 := hc j (by omega)
      have HL := Lib.hid (show (descTo p j).length ≤ 1099511627776 by have := descTo_length p j; omega)
      have HI := Lib.hid (show I64 (j : Int) by unfold I64; omega)
      have hsz := hg.out.size
      have hw1 : IntKind.i64.wrap ((j : Int) + 1) = (j : Int) + 1 := IntWalk.i64_in _ (by omega)
      have ht1 : ((j : Int) + 1).toNat = j + 1 := by omega
      have hw2 : ((j + 1 : Nat) : Int) - 1 = j := by omega
      clear hc
      by_cases hd : ix p (j + 1) < ix p j
      · have HD := Lib.hid (show descTo p (j + 1) = descTo p j ++ [(j : Int)] by rw [descTo, if_pos hd])
        have hb : decide (ix p (j + 1) < ix p j) = true := decide_eq_true hd
        clear hd
        go_wp2
        go_quiet (fail)
        go_wp2_with (first | (at_builtin; refine wp_append_int rfl _ _ rfl w.heap.size _ (descTo p j) rfl (ho.out.alloc _) _ ((j : Int)) rfl (cell_new _ _ _ _) HI.out HL.out ?_ ?_; (simp; omega); intro v' w' h1 h2 h3; have HO := Lib.hid h1; have HG := Lib.hid h3; clear h1 h2 h3; go_wp2))
        go_roundw
        case rel => exact ⟨j + 1, by omega, by go_num, by rw [HD.out]; exact HO.out, Chg.new (hg.out.drewN _ |>.alloc _) HG.out (fun i hi => by omega)⟩
        case measure => simp [intOf]; omega
      · have HD := Lib.hid (show descTo p (j + 1) = descTo p j by rw [descTo, if_neg hd])
        have hb : decide (ix p (j + 1) < ix p j) = false := decide_eq_false hd
        clear hd
        go_wp2
        go_quiet (fail)
        go_wp2
        go_roundw
        case rel => exact ⟨j + 1, by omega, by go_num, by rw [HD.out]; exact ho.out.up (Chg.refl _ _ |>.drewN _), hg.out.drewN _⟩
        case measure => simp [intOf]; omega
    · obtain rfl : j = p.length - 1 := by omega
      have hd : decide ((((p.length - 1 : Nat) : Int) + 1) < (p.length : Int)) = false := decide_eq_false (by omega)
      go_wp2
      go_ret
      exact ⟨_, rfl, ho.out.ints, hg.out⟩
theorem l04Start_any (w : World) (S : Nat → Prop) (v : Value) (p : List Int) (h : Ints w S v p) (hl : p.length ≤ 1000) :
    Calls Try.prog 132 #[v] w fun e w' => ∃ u, e = .returned u ∧ Ints w' (New w.heap.size w'.heap.size) u (startM p) ∧ Up w w' := by
  obtain ⟨A, c, rfl, hlc, hcm, -⟩ := h.shape
  have H := Lib.hid h
  clear h
  go_enter Try.func132, Try.ntmps132
  go_wp2
  go_loopw [3, 4] (fun v i wr => ∃ j : Nat, j ≤ p.length - 1 ∧ i = .int .i64 ((j + 1 : Nat) : Int) ∧ Hid (OwnI wr w.heap.size v (startTo p j)) ∧ Hid (Up w wr)) (fun _ i _ => p.length + 1 - (intOf i).toNat)
  case atStart => exact ⟨0, by omega, by simp, OwnI.made w _ (Nat.le_refl _), (Chg.refl _ _).alloc _⟩
  case round =>
    obtain ⟨j, hj, rfl, ho, hg⟩ := hrel
    by_cases hlt : j + 1 < p.length
    · obtain ⟨b1, o1, rfl, -, hc⟩ := (H.out.up hg.out).ix hlt
      have f1 := hc (j + 1) hlt
      have f0 := hc j (by omega)
      have HL := Lib.hid (show (startTo p j).length ≤ 1099511627776 by have := startTo_length p j; omega)
      have HI := Lib.hid (show I64 ((j + 1 : Nat) : Int) by unfold I64; omega)
      have hsz := hg.out.size
      have hw1 : IntKind.i64.wrap ((j : Int) + 1) = (j : Int) + 1 := IntWalk.i64_in _ (by omega)
      have ht1 : ((j : Int) + 1).toNat = j + 1 := by omega
      have hw2 : ((j + 1 : Nat) : Int) - 1 = j := by omega
      clear hc
      by_cases hd : ix p (j + 1) < ix p j
      · have HD := Lib.hid (show startTo p (j + 1) = startTo p j ++ [((j + 1 : Nat) : Int)] by rw [startTo_succ, if_pos hd]; simp)
        have hb : decide (ix p (j + 1) < ix p j) = true := decide_eq_true hd
        clear hd
        go_wp2
        go_quiet (fail)
        go_wp2_with (first | (at_builtin; refine wp_append_int rfl _ _ rfl w.heap.size _ (startTo p j) rfl (ho.out.alloc _) _ (((j + 1 : Nat) : Int)) rfl (cell_new _ _ _ _) HI.out HL.out ?_ ?_; (simp; omega); intro v' w' h1 h2 h3; have HO := Lib.hid h1; have HG := Lib.hid h3; clear h1 h2 h3; go_wp2))
        go_roundw
        case rel => exact ⟨j + 1, by omega, by go_num, by rw [HD.out]; exact HO.out, Chg.new (hg.out.drewN _ |>.alloc _) HG.out (fun i hi => by omega)⟩
        case measure => simp [intOf]; omega
      · have HD := Lib.hid (show startTo p (j + 1) = startTo p j by rw [startTo_succ, if_neg hd])
        have hb : decide (ix p (j + 1) < ix p j) = false := decide_eq_false hd
        clear hd
        go_wp2
        go_quiet (fail)
        go_wp2
        go_roundw
        case rel => exact ⟨j + 1, by omega, by go_num, by rw [HD.out]; exact ho.out.up (Chg.refl _ _ |>.drewN _), hg.out.drewN _⟩
        case measure => simp [intOf]; omega
    · obtain rfl : j = p.length - 1 := by omega
      have hd : decide ((((p.length - 1 + 1 : Nat) : Int)) < (p.length : Int)) = false := decide_eq_false (by omega)
      go_wp2
      go_ret
      exact ⟨_, rfl, ho.out.ints, hg.out⟩
end Go.Proofs.Ytplabnjdhkmmkaa
end
section
set_option maxRecDepth 100000
set_option maxHeartbeats 1000000
set_option linter.unusedSimpArgs false
set_option linter.unusedVariables false
namespace Go.Proofs.Ytplabnjdhkmmkaa
open Go.ChangeShapes Go.WideShapes Go.ChangeAt Go.RowKit
theorem callB {f : FuncId} {args : Array Value} {w : World} {b c : Bool} (h : Calls Try.prog f args w fun e w' => e = .returned (.bool b) ∧ Up w w') (hb : b = c) : Calls Try.prog f args w fun e w' => e = .returned (.bool c) ∧ Up w w' := hb ▸ h
theorem eqInts1_any (w : World) (S S' : Nat → Prop) (v u : Value) (xs ys : List Int) (h : Ints w S v xs) (h2 : Ints w S' u ys) :
    Calls Try.prog 137 #[v, u] w fun e w' => e = .returned (.bool (sameL xs ys)) ∧ Up w w' := by
  obtain ⟨A, c, rfl, hlc, hcm, -⟩ := h.shape
  obtain ⟨A2, c2, rfl, hlc2, hcm2, -⟩ := h2.shape
  have H := Lib.hid h
  have H2 := Lib.hid h2
  clear h h2
  go_enter Try.func137, Try.ntmps137
  go_wp2_with fail
  refine (equalInts_any _ _ _ _ _ _ _ H.out H2.out).mono ?_
  rintro e w1 ⟨rfl, g1⟩
  have G := Lib.hid g1
  clear g1
  go_wp2
  go_ret
  exact ⟨rfl, G.out⟩
theorem eqfInts_any (w : World) (M H L M' H' L' : Nat → Prop) (v u : Value) (xs ys : List (List Int)) (h : IntSSV w M H L v xs) (h2 : IntSSV w M' H' L' u ys) :
    Calls Try.prog 136 #[v, u, .func (.func 137) #[] #[]] w fun e w' => e = .returned (.bool (sameL xs ys)) ∧ Up w w' := by
  obtain ⟨A, c, rfl, hlc, hcm, -⟩ := h.shape
  obtain ⟨A2, c2, rfl, hlc2, hcm2, -⟩ := h2.shape
  by_cases hl : xs.length = ys.length
  rotate_left
  · have HB := Lib.hid (sameL_len hl)
    have hb : ((xs.length : Int) != ys.length) = true := by simp; omega
    clear hl h h2
    go_enter Try.func136, Try.ntmps136
    go_wp2
    go_ret
    exact ⟨ret_bool HB.out.symm, Chg.refl _ _⟩
  have HL := Lib.hid hl
  have hb : ((xs.length : Int) != ys.length) = false := by simp; omega
  have H := Lib.hid h
  have H2 := Lib.hid h2
  clear h h2 hl
  go_enter Try.func136, Try.ntmps136
  go_wp2
  go_loopw [17] (fun i wr => ∃ (j : Nat), j ≤ xs.length ∧ i = .int .i64 j ∧ Hid (Up w wr) ∧ Hid (AgreeTo xs ys j)) (fun i _ => xs.length - (intOf i).toNat)
  case atStart => exact ⟨0, by omega, rfl, Chg.refl _ _, AgreeTo.start _ _⟩
  case round =>
    obtain ⟨j, hj, rfl, hu, hp⟩ := hrel
    by_cases hlt : j < xs.length
    · have hlt2 : j < ys.length := by have := HL.out; omega
      obtain ⟨b3, o3, c3', vs3, he3, -, -, -, hE3, hc3⟩ := (H.out.up hu.out).at_ hlt
      obtain ⟨rfl, rfl⟩ : A = some ⟨b3, o3, none⟩ ∧ c = c3' := by simpa using he3
      obtain ⟨A3, k3, rfl, hv3, -⟩ := IntsE.val hE3
      have f0 := (hc3 0 _ rfl).1
      simp only [Nat.mul_one, Nat.add_zero] at f0
      have HV3 := Lib.hid hv3
      clear hc3 hv3 he3
      obtain ⟨b5, o5, c5', vs5, he5, -, -, -, hE5, hc5⟩ := (H2.out.up hu.out).at_ hlt2
      obtain ⟨rfl, rfl⟩ : A2 = some ⟨b5, o5, none⟩ ∧ c2 = c5' := by simpa using he5
      obtain ⟨A5, k5, rfl, hv5, -⟩ := IntsE.val hE5
      have e0 := (hc5 0 _ rfl).1
      simp only [Nat.mul_one, Nat.add_zero] at e0
      have HV5 := Lib.hid hv5
      clear hc5 hv5 he5
      by_cases he : xs[j] = ys[j]
      · have HE := Lib.hid he
        have HS : Hid (sameL xs[j] ys[j] = true) := Lib.hid (decide_eq_true he)
        clear he
        go_wp2_with fail
        refine (eqInts1_any _ _ _ _ _ _ _ (HV3.out.up (by repeat (first | exact Chg.refl _ _ | apply Chg.drew | apply Chg.drewN | refine Chg.alloc ?_ _))) (HV5.out.up (by repeat (first | exact Chg.refl _ _ | apply Chg.drew | apply Chg.drewN | refine Chg.alloc ?_ _)))).mono ?_
        rintro e w1 ⟨rfl, g1⟩
        have GX := Lib.hid (show Up wr _ from Chg.trans (by repeat (first | exact Chg.refl _ _ | apply Chg.drew | apply Chg.drewN | refine Chg.alloc ?_ _)) g1)
        clear g1
        rw [HS.out]
        clear f0 e0
        go_wp2
        go_roundw
        case rel => exact ⟨j + 1, by omega, by go_num, Lib.hid (Chg.trans hu.out GX.out), Lib.hid (AgreeTo.next hp.out hlt hlt2 HE.out)⟩
        case measure => first | (simp [intOf]; done) | (simp [intOf]; omega)
      · have HB := Lib.hid (sameL_at hlt hlt2 he)
        have HS : Hid (sameL xs[j] ys[j] = false) := Lib.hid (decide_eq_false he)
        clear he
        go_wp2_with fail
        refine (eqInts1_any _ _ _ _ _ _ _ (HV3.out.up (by repeat (first | exact Chg.refl _ _ | apply Chg.drew | apply Chg.drewN | refine Chg.alloc ?_ _))) (HV5.out.up (by repeat (first | exact Chg.refl _ _ | apply Chg.drew | apply Chg.drewN | refine Chg.alloc ?_ _)))).mono ?_
        rintro e w1 ⟨rfl, g1⟩
        have GX := Lib.hid (show Up wr _ from Chg.trans (by repeat (first | exact Chg.refl _ _ | apply Chg.drew | apply Chg.drewN | refine Chg.alloc ?_ _)) g1)
        clear g1
        rw [HS.out]
        clear f0 e0
        go_wp2
        go_ret
        exact ⟨ret_bool HB.out.symm, Chg.trans hu.out GX.out⟩
    · obtain rfl : j = xs.length := by omega
      have HB := Lib.hid (sameL_all hp.out HL.out)
      go_wp2
      go_ret
      exact ⟨ret_bool HB.out.symm, hu.out⟩
theorem pSameNormal_any (w : World) (M H L M' H' L' : Nat → Prop) (v u : Value) (x y : NormM) (hv : NormV w M H L v x) (hu : NormV w M' H' L' u y) :
    Calls Try.prog 127 #[v, u] w fun e w' => e = .returned (.bool (sameN x y)) ∧ Up w w' := by
  obtain ⟨A, c, rfl, h0, h1, h2, h3⟩ := hv
  obtain ⟨B, d, rfl, g0, g1, g2, g3⟩ := hu
  have U0 := Lib.hid (show Up w ((w.alloc (.cells #[.int .i64 x.n, .int .i64 x.p, .slice A x.fs.length c] 100)).alloc (.cells #[.int .i64 y.n, .int .i64 y.p, .slice B y.fs.length d] 100)) from (by repeat (first | exact Chg.refl _ _ | apply Chg.drew | apply Chg.drewN | refine Chg.alloc ?_ _)))
  have H0 := Lib.hid (h0.up U0.out)
  have G0 := Lib.hid (g0.up U0.out)
  obtain ⟨hla0, hca0⟩ := h1
  obtain ⟨hlb0, hcb0⟩ := g1
  clear h0 h2 h3 g0 g2 g3
  have q0 := Chg.cell ((Chg.refl Nowhere (w.alloc (.cells #[.int .i64 x.n, .int .i64 x.p, .slice A x.fs.length c] 100))).alloc (.cells #[.int .i64 y.n, .int .i64 y.p, .slice B y.fs.length d] 100)) (show (w.alloc (.cells #[.int .i64 x.n, .int .i64 x.p, .slice A x.fs.length c] 100)).cell? ⟨w.heap.size, 0, none⟩ = some (.int .i64 x.n) from cell_new _ _ _ _) id
  have q1 := Chg.cell ((Chg.refl Nowhere (w.alloc (.cells #[.int .i64 x.n, .int .i64 x.p, .slice A x.fs.length c] 100))).alloc (.cells #[.int .i64 y.n, .int .i64 y.p, .slice B y.fs.length d] 100)) (show (w.alloc (.cells #[.int .i64 x.n, .int .i64 x.p, .slice A x.fs.length c] 100)).cell? ⟨w.heap.size, 1, none⟩ = some (.int .i64 x.p) from cell_new _ _ _ _) id
  have q2 := Chg.cell ((Chg.refl Nowhere (w.alloc (.cells #[.int .i64 x.n, .int .i64 x.p, .slice A x.fs.length c] 100))).alloc (.cells #[.int .i64 y.n, .int .i64 y.p, .slice B y.fs.length d] 100)) (show (w.alloc (.cells #[.int .i64 x.n, .int .i64 x.p, .slice A x.fs.length c] 100)).cell? ⟨w.heap.size, 2, none⟩ = some (.slice A x.fs.length c) from cell_new _ _ _ _) id
  have p0 := (show ((w.alloc (.cells #[.int .i64 x.n, .int .i64 x.p, .slice A x.fs.length c] 100)).alloc (.cells #[.int .i64 y.n, .int .i64 y.p, .slice B y.fs.length d] 100)).cell? ⟨w.heap.size + 1, 0, none⟩ = some (.int .i64 y.n) from (cellF_at (by simp) rfl).1)
  have p1 := (show ((w.alloc (.cells #[.int .i64 x.n, .int .i64 x.p, .slice A x.fs.length c] 100)).alloc (.cells #[.int .i64 y.n, .int .i64 y.p, .slice B y.fs.length d] 100)).cell? ⟨w.heap.size + 1, 1, none⟩ = some (.int .i64 y.p) from (cellF_at (by simp) rfl).1)
  have p2 := (show ((w.alloc (.cells #[.int .i64 x.n, .int .i64 x.p, .slice A x.fs.length c] 100)).alloc (.cells #[.int .i64 y.n, .int .i64 y.p, .slice B y.fs.length d] 100)).cell? ⟨w.heap.size + 1, 2, none⟩ = some (.slice B y.fs.length d) from (cellF_at (by simp) rfl).1)
  by_cases e0 : x.n = y.n
  rotate_left
  · have b0 : ((x.n : Int) == y.n) = false := by simpa using e0
    have HB := Lib.hid (show sameN x y = false from decide_eq_false fun e => e0 (by rw [e]))
    clear e0
    go_enter Try.func127, Try.ntmps127
    go_wp2
    go_ret
    exact ⟨ret_bool HB.out.symm, Chg.trans U0.out (by repeat (first | exact Chg.refl _ _ | apply Chg.drew | apply Chg.drewN | refine Chg.alloc ?_ _))⟩
  have b0 : ((x.n : Int) == y.n) = true := by simp [e0]
  have E0 := Lib.hid e0
  clear e0
  by_cases e1 : x.p = y.p
  rotate_left
  · have b1 : ((x.p : Int) == y.p) = false := by simpa using e1
    have HB := Lib.hid (show sameN x y = false from decide_eq_false fun e => e1 (by rw [e]))
    clear e1
    go_enter Try.func127, Try.ntmps127
    go_wp2
    go_ret
    exact ⟨ret_bool HB.out.symm, Chg.trans U0.out (by repeat (first | exact Chg.refl _ _ | apply Chg.drew | apply Chg.drewN | refine Chg.alloc ?_ _))⟩
  have b1 : ((x.p : Int) == y.p) = true := by simp [e1]
  have E1 := Lib.hid e1
  clear e1
  have HB := Lib.hid (show sameN x y = sameL x.fs y.fs by rw [sameN_and, decide_eq_true E0.out, decide_eq_true E1.out]; rfl)
  go_enter Try.func127, Try.ntmps127
  go_wp2_with fail
  refine (eqfInts_any _ M H L M' H' L' _ _ x.fs y.fs (H0.out.up (by repeat (first | exact Chg.refl _ _ | apply Chg.drew | apply Chg.drewN | refine Chg.alloc ?_ _))) (G0.out.up (by repeat (first | exact Chg.refl _ _ | apply Chg.drew | apply Chg.drewN | refine Chg.alloc ?_ _)))).mono ?_
  rintro e w1 ⟨rfl, g1⟩
  have GX := Lib.hid (Chg.trans U0.out (Chg.trans (by repeat (first | exact Chg.refl _ _ | apply Chg.drew | apply Chg.drewN | refine Chg.alloc ?_ _)) g1))
  clear g1
  go_wp2
  go_ret
  exact ⟨ret_bool HB.out.symm, GX.out⟩
end Go.Proofs.Ytplabnjdhkmmkaa
end
section
set_option maxRecDepth 100000
set_option maxHeartbeats 1000000
set_option linter.unusedSimpArgs false
set_option linter.unusedVariables false
namespace Go.Proofs.Ytplabnjdhkmmkaa
open Go.ChangeShapes Go.WideShapes Go.ChangeAt Go.RowKit
theorem callS {f : FuncId} {args : Array Value} {w : World} {b c : Bool} (h : Calls Try.prog f args w fun e w' => e = .returned (.bool b) ∧ w = w') (hb : b = c) : Calls Try.prog f args w fun e w' => e = .returned (.bool c) ∧ w = w' := hb ▸ h
theorem Ints.pre {w : World} {S : Nat → Prop} {A : Option Addr} {c : Nat} {xs : List Int} (h : Ints w S (.slice A xs.length c) xs) {k : Nat} (hk : k ≤ xs.length) : Ints w S (.slice A k c) (xs.take k) := by
  obtain ⟨A', c', he, h1, h2, h3, hr, h5⟩ := h
  obtain ⟨rfl, rfl⟩ : A = A' ∧ c = c' := by simpa using he
  have hl : (xs.take k).length = k := by rw [List.length_take]; omega
  refine ⟨A, c, by rw [hl], by omega, h2, fun x hx => h3 x (List.mem_of_mem_take hx), fun hp => ?_, h5⟩
  obtain ⟨b, o, hA, hs, hbl, hc⟩ := hr (by omega)
  refine ⟨b, o, hA, hs, hbl, fun j hj => ?_⟩
  rw [hl] at hj
  rw [List.getElem_take]
  exact hc j (by omega)
def Seen (w : World) (g : Nat) (p : List Int) (j : Nat) : Prop := ∀ k : Nat, k < 12 → w.cell? ⟨g, k, none⟩ = some (.bool (decide ((k : Int) ∈ p.take j))) ∧ w.frozen? ⟨g, k, none⟩ = false
theorem Seen.next {w : World} {g : Nat} {p : List Int} {j k : Nat} (h : Seen w g p j) (hj : j < p.length) (hk : p[j] = k) (hk2 : k < 12) : Seen (w.setCell ⟨g, k, none⟩ (.bool true)) g p (j + 1) := fun t ht => by
  obtain ⟨h1, h2⟩ := h t ht
  have e : p.take (j + 1) = p.take j ++ [p[j]] := List.take_succ_eq_append_getElem hj
  by_cases ek : t = k
  · subst ek
    refine ⟨?_, by simpa using h2⟩
    rw [World.cell?_setCell_same _ _ _ h1, e, decide_eq_true (by simp [hk])]
  · refine ⟨?_, by simpa using h2⟩
    rw [World.cell?_setCell_other _ _ _ _ (fun h => ek (by injection h with _ h _; omega)), h1, e]
    congr 2
    rw [decide_eq_decide]
    simp only [List.mem_append, List.mem_singleton]
    constructor
    · exact .inl
    · rintro (h | h)
      · exact h
      · exact absurd (by rw [hk] at h; omega) ek
def riseTo (xs : List Int) : Nat → List Int
  | 0 => xs
  | j + 1 => (riseTo xs j).set j (ix xs j + 1)
theorem riseTo_length (xs : List Int) : ∀ j, (riseTo xs j).length = xs.length
  | 0 => rfl
  | j + 1 => by rw [riseTo, List.length_set, riseTo_length xs j]
theorem riseTo_get (xs : List Int) : ∀ (j t : Nat) (h : t < (riseTo xs j).length), (riseTo xs j)[t] = if t < j then ix xs t + 1 else ix xs t
  | 0, t, h => by simp [riseTo, ix_eq (show t < xs.length from h)]
  | j + 1, t, h => by
    have hn : t < (riseTo xs j).length := by rw [riseTo_length] at *; exact h
    simp only [riseTo]
    rw [List.getElem_set]
    by_cases e : j = t
    · subst e
      rw [if_pos rfl, if_pos (by omega)]
    · rw [if_neg e, riseTo_get xs j t hn]
      by_cases h2 : t < j
      · rw [if_pos h2, if_pos (by omega)]
      · rw [if_neg h2, if_neg (by omega)]
theorem riseTo_all (xs : List Int) : riseTo xs xs.length = xs.map (· + 1) := by
  refine List.ext_getElem (by rw [riseTo_length, List.length_map]) fun t h1 h2 => ?_
  rw [riseTo_get]
  rw [riseTo_length] at h1
  rw [if_pos h1, List.getElem_map, ix_eq h1]
theorem startLetters_any (w : World) (S : Nat → Prop) (v : Value) (p : List Int) (h : Ints w S v p) (hl : p.length ≤ 1000) :
    Calls Try.prog 138 #[v] w fun e w' => ∃ u, e = .returned u ∧ Ints w' (New w.heap.size w'.heap.size) u (startM p) ∧ Up w w' := by
  obtain ⟨A, c, rfl, hlc, hcm, -⟩ := h.shape
  have H := Lib.hid h
  have HBD := Lib.hid (descTo_bd p (p.length - 1))
  have HLD := Lib.hid (descTo_length p (p.length - 1))
  clear h
  go_enter Try.func138, Try.ntmps138
  go_wp2_with fail
  refine (descents_any _ S _ p H.out hl).mono ?_
  rintro e w1 ⟨v, rfl, k1, g1⟩
  obtain ⟨B, d, rfl, hld, hdm, -⟩ := k1.shape
  obtain ⟨xs, hxs⟩ : ∃ xs, xs = descM p := ⟨_, rfl⟩
  rw [← hxs] at k1 hld ⊢
  have K1 := Lib.hid k1
  have G1 := Lib.hid g1
  have HX := Lib.hid hxs
  have hxl : xs.length ≤ 1000 := by have := HLD.out; have := HX.out; unfold descM at this; rw [this]; omega
  have HXB : Hid (∀ j (hj : j < xs.length), 0 ≤ ix xs j ∧ ix xs j ≤ 1000) := Lib.hid fun j hj => by
    have := HBD.out (ix xs j) (by rw [ix_eq hj]; have h := List.getElem_mem hj; have e := HX.out; unfold descM at e; rw [← e]; exact h)
    omega
  clear k1 g1 hxs
  go_wp2
  go_loopw [4, 9] (fun _ i wr => ∃ j : Nat, j ≤ xs.length ∧ i = .int .i64 j ∧ Hid (Chg (New w.heap.size w1.heap.size) w1 wr) ∧ Hid (Ints wr (New w.heap.size w1.heap.size) (.slice B xs.length d) (riseTo xs j))) (fun _ i _ => xs.length - (intOf i).toNat)
  case atStart => exact ⟨0, by omega, rfl, Chg.refl _ _, K1.out⟩
  case round =>
    obtain ⟨j, hj, rfl, hg, hc⟩ := hrel
    by_cases hlt : j < xs.length
    · have hlen := riseTo_length xs j
      have hI2 : Ints wr (New w.heap.size w1.heap.size) (.slice B (riseTo xs j).length d) (riseTo xs j) := by rw [hlen]; exact hc.out
      obtain ⟨b, o, rfl, hbl, hcc⟩ := ints_ixf hI2 (i := j) (by omega)
      obtain ⟨f0, q0⟩ := hcc j (by omega)
      have hv : ix (riseTo xs j) j = ix xs j := by rw [ix_eq (by omega), riseTo_get, if_neg (by omega)]
      rw [hv] at f0
      obtain ⟨hb0, hb1⟩ := HXB.out j hlt
      have HS := Lib.hid (hI2.set (k := j) (by omega) (x := ix xs j + 1) (by unfold I64; omega))
      have HNB : Hid (New w.heap.size w1.heap.size b) := by
        obtain ⟨A', c', he, _, _, _, hr, _⟩ := hI2
        obtain ⟨b', o', hA, hs, _⟩ := hr (by omega)
        simp at he
        obtain ⟨rfl, -⟩ := he
        simp at hA
        rw [hA.1]
        exact hs
      clear hcc hI2 hlen hv
      go_wp2
      go_roundw
      case rel => exact ⟨j + 1, by omega, by go_num, Chg.setCell hg.out (p := ⟨b, o + j, none⟩) (.inl HNB.out) _, by have h := HS.out; rw [riseTo_length] at h; exact h⟩
      case measure => simp [intOf]; omega
    · obtain rfl : j = xs.length := by omega
      have HE := Lib.hid (riseTo_all xs)
      go_wp2
      go_ret
      exact ⟨_, rfl, by unfold startM; rw [← HX.out, ← HE.out]; exact hc.out.mono (fun b hb h => ⟨h.1, hb⟩), Chg.new G1.out hg.out (fun i hi h => by have := h.1; omega)⟩
end Go.Proofs.Ytplabnjdhkmmkaa
end
section
set_option maxRecDepth 100000
set_option maxHeartbeats 1000000
set_option linter.unusedSimpArgs false
set_option linter.unusedVariables false
namespace Go.Proofs.Ytplabnjdhkmmkaa
open Go.ChangeShapes Go.WideShapes Go.ChangeAt Go.RowKit
/-- sums of what a function is worth at the first places -/
def sumTo (f : Nat → Int) : Nat → Int
  | 0 => 0
  | n + 1 => sumTo f n + f n
theorem sumTo_same {f g : Nat → Int} : ∀ {n : Nat}, (∀ i, i < n → f i = g i) → sumTo f n = sumTo g n
  | 0, _ => rfl
  | n + 1, h => by rw [sumTo, sumTo, sumTo_same fun i hi => h i (by omega), h n (by omega)]
theorem sumTo_two {f g : Nat → Int} {k : Nat} (h : ∀ i, i ≠ k → i ≠ k + 1 → f i = g i) : ∀ {n : Nat}, k + 2 ≤ n → sumTo f n - sumTo g n = (f k - g k) + (f (k + 1) - g (k + 1)) := by
  intro n hn
  induction n with
  | zero => omega
  | succ n ih =>
    by_cases e : n = k + 1
    · subst e
      simp only [sumTo]
      have := sumTo_same (f := f) (g := g) (n := k) fun i hi => h i (by omega) (by omega)
      omega
    · have := ih (by omega)
      have := h n (by omega) (by omega)
      simp only [sumTo]
      omega
theorem sumTo_bd {f : Nat → Int} {a b : Int} : ∀ {n : Nat}, (∀ i, i < n → a ≤ f i ∧ f i ≤ b) → a * n ≤ sumTo f n ∧ sumTo f n ≤ b * n
  | 0, _ => by simp [sumTo]
  | n + 1, h => by
    have h1 := sumTo_bd (n := n) fun i hi => h i (by omega)
    have h2 := h n (by omega)
    rw [sumTo]
    have e1 : a * ((n + 1 : Nat) : Int) = a * n + a := by rw [Int.natCast_add, Int.mul_add]; simp
    have e2 : b * ((n + 1 : Nat) : Int) = b * n + b := by rw [Int.natCast_add, Int.mul_add]; simp
    omega
/-- two neighbours change places -/
def swapAt (p : List Int) (k : Nat) : List Int := (p.set k (ix p (k + 1))).set (k + 1) (ix p k)
theorem swapAt_length (p : List Int) (k : Nat) : (swapAt p k).length = p.length := by simp [swapAt]
theorem swapAt_ix {p : List Int} {k i : Nat} (hk : k + 1 < p.length) (hi : i < p.length) : ix (swapAt p k) i = if i = k + 1 then ix p k else if i = k then ix p (k + 1) else ix p i := by
  rw [ix_eq (by rw [swapAt_length]; exact hi)]
  unfold swapAt
  rw [List.getElem_set]
  by_cases h1 : k + 1 = i
  · rw [if_pos h1, if_pos h1.symm]
  · rw [if_neg h1, if_neg (fun h => h1 h.symm), List.getElem_set]
    by_cases h2 : k = i
    · rw [if_pos h2, if_pos h2.symm]
    · rw [if_neg h2, if_neg (fun h => h2 h.symm), ix_eq hi]
def wt (p : List Int) : Int := sumTo (fun i => (i : Int) * ix p i) p.length
theorem wt_swap {p : List Int} {k : Nat} (hk : k + 1 < p.length) (h : ix p (k + 1) < ix p k) : wt p < wt (swapAt p k) := by
  unfold wt
  rw [swapAt_length]
  have h1 := sumTo_two (f := fun i => (i : Int) * ix (swapAt p k) i) (g := fun i => (i : Int) * ix p i) (k := k) (fun i h1 h2 => by
    by_cases hi : i < p.length
    · rw [swapAt_ix hk hi, if_neg h2, if_neg h1]
    · have e1 : ix (swapAt p k) i = 0 := by unfold ix; rw [List.getD_eq_getElem?_getD, List.getElem?_eq_none (by rw [swapAt_length]; omega)]; rfl
      have e2 : ix p i = 0 := by unfold ix; rw [List.getD_eq_getElem?_getD, List.getElem?_eq_none (by omega)]; rfl
      rw [e1, e2]) (n := p.length) (by omega)
  rw [swapAt_ix hk (show k < p.length by omega), swapAt_ix hk hk, if_neg (by omega), if_pos rfl, if_pos rfl] at h1
  have e : ((k + 1 : Nat) : Int) = (k : Int) + 1 := by omega
  rw [e, Int.add_mul, Int.add_mul] at h1
  omega
/-- few things with small numbers -/
def Small12 (p : List Int) : Prop := p.length ≤ 12 ∧ ∀ i, i < p.length → 0 ≤ ix p i ∧ ix p i ≤ 11
theorem Small12.of_perm {p : List Int} (h : permB p = true) : Small12 p := ⟨permB_len h, fun i hi => by have h1 := permB_ix h hi; have h2 := permB_len h; omega⟩
theorem Small12.swap {p : List Int} {k : Nat} (h : Small12 p) (hk : k + 1 < p.length) : Small12 (swapAt p k) := ⟨by rw [swapAt_length]; exact h.1, fun i hi => by
  rw [swapAt_length] at hi
  rw [swapAt_ix hk hi]
  split
  · exact h.2 k (by omega)
  · split
    · exact h.2 (k + 1) hk
    · exact h.2 i hi⟩
theorem Small12.wt_bd {p : List Int} (h : Small12 p) : 0 ≤ wt p ∧ wt p ≤ 1452 := by
  have h1 := sumTo_bd (f := fun i => (i : Int) * ix p i) (a := 0) (b := 121) (n := p.length) (fun i hi => by
    have h2 := h.2 i hi
    have h3 := h.1
    refine ⟨Int.mul_nonneg (by omega) h2.1, ?_⟩
    have : (i : Int) * ix p i ≤ 11 * 11 := Int.mul_le_mul (by omega) h2.2 h2.1 (by omega)
    omega)
  have h3 := h.1
  unfold wt
  omega
/-- the place of the first inversion -/
theorem descTo_at (p : List Int) : ∀ j, ∀ x ∈ descTo p j, ∃ k : Nat, x = k ∧ k < j ∧ ix p (k + 1) < ix p k
  | 0 => by simp [descTo]
  | j + 1 => by
    intro x hx
    unfold descTo at hx
    split at hx
    · rcases List.mem_append.1 hx with h | h
      · obtain ⟨k, e, h1, h2⟩ := descTo_at p j x h
        exact ⟨k, e, by omega, h2⟩
      · simp at h
        exact ⟨j, h, by omega, by assumption⟩
    · obtain ⟨k, e, h1, h2⟩ := descTo_at p j x hx
      exact ⟨k, e, by omega, h2⟩
theorem desc_head {p : List Int} {x : Int} {r : List Int} (h : descM p = x :: r) : ∃ k : Nat, x = k ∧ k + 1 < p.length ∧ ix p (k + 1) < ix p k := by
  have hm : x ∈ descTo p (p.length - 1) := by unfold descM at h; rw [h]; simp
  obtain ⟨k, e, h1, h2⟩ := descTo_at p _ x hm
  exact ⟨k, e, by omega, h2⟩
/-- the letters that bring a permutation in order -/
def wordF : Nat → List Int → List Int
  | 0, _ => []
  | f + 1, p => match descM p with
    | [] => []
    | x :: _ => (x + 1) :: wordF f (swapAt p x.toNat)
def wordM (p : List Int) : List Int := wordF 2001 p
theorem wordF_none {p : List Int} {f : Nat} (h : descM p = []) : wordF f p = [] := by cases f <;> simp [wordF, h]
theorem wordF_some {p : List Int} {f : Nat} {x : Int} {r : List Int} (h : descM p = x :: r) : wordF (f + 1) p = (x + 1) :: wordF f (swapAt p x.toNat) := by simp [wordF, h]
theorem wordF_bd : ∀ (f : Nat) (p : List Int), p.length ≤ 12 → ∀ x ∈ wordF f p, 1 ≤ x ∧ x ≤ 11
  | 0, _, _ => by simp [wordF]
  | f + 1, p, hp => by
    cases h : descM p with
    | nil => rw [wordF_none h]; simp
    | cons x r =>
      rw [wordF_some h]
      intro y hy
      obtain ⟨k, rfl, h1, h2⟩ := desc_head h
      rcases List.mem_cons.1 hy with hy | hy
      · omega
      · exact wordF_bd f _ (by rw [swapAt_length]; exact hp) y hy
theorem wordM_bd {p : List Int} (hp : p.length ≤ 12) : ∀ x ∈ wordM p, 1 ≤ x ∧ x ≤ 11 := wordF_bd _ _ hp
/-- in the middle of spelling -/
def Spell (p out now : List Int) : Prop := Small12 now ∧ now.length = p.length ∧ ∃ f : Nat, wordM p = out ++ wordF f now ∧ 2000 - wt now < f ∧ f + out.length ≤ 2001
theorem Spell.start {p : List Int} (h : permB p = true) : Spell p [] p := ⟨Small12.of_perm h, rfl, 2001, rfl, by have := (Small12.of_perm h).wt_bd; omega, by simp⟩
theorem Spell.done {p out now : List Int} (h : Spell p out now) (hd : descM now = []) : wordM p = out := by
  obtain ⟨-, -, f, h1, -, -⟩ := h
  rw [h1, wordF_none hd, List.append_nil]
theorem Spell.next {p out now r : List Int} {k : Nat} (h : Spell p out now) (hd : descM now = (k : Int) :: r) : Spell p (out ++ [(k : Int) + 1]) (swapAt now k) ∧ wt now < wt (swapAt now k) := by
  obtain ⟨h0, hl, f, h1, h2, h3⟩ := h
  obtain ⟨k', hk, h4, h5⟩ := desc_head hd
  obtain rfl : k = k' := by omega
  have hw := wt_swap h4 h5
  have hb := (h0.swap h4).wt_bd
  obtain ⟨g, rfl⟩ : ∃ g, f = g + 1 := ⟨f - 1, by have := h0.wt_bd; omega⟩
  refine ⟨⟨h0.swap h4, by rw [swapAt_length, hl], g, ?_, by omega, by simp; omega⟩, hw⟩
  rw [h1, wordF_some hd]
  simp
theorem Spell.bd {p out now : List Int} (h : Spell p out now) : out.length ≤ 2001 := by
  obtain ⟨-, -, f, -, -, h3⟩ := h
  omega
end Go.Proofs.Ytplabnjdhkmmkaa
end
section
set_option maxRecDepth 100000
set_option maxHeartbeats 4000000
set_option linter.unusedSimpArgs false
set_option linter.unusedVariables false
namespace Go.Proofs.Ytplabnjdhkmmkaa
open Go.ChangeShapes Go.WideShapes Go.ChangeAt Go.RowKit
def lenOf : Value → Nat
  | .slice _ n _ => n
  | _ => 0
theorem OwnI.lenOf {w : World} {base : Nat} {v : Value} {xs : List Int} (h : OwnI w base v xs) : Go.Proofs.Ytplabnjdhkmmkaa.lenOf v = xs.length := by
  obtain ⟨A, c, rfl, -⟩ := h.ints.shape
  rfl
end Go.Proofs.Ytplabnjdhkmmkaa
end
section
set_option maxRecDepth 100000
set_option maxHeartbeats 4000000
set_option linter.unusedSimpArgs false
set_option linter.unusedVariables false
namespace Go.Proofs.Ytplabnjdhkmmkaa
open Go.ChangeShapes Go.WideShapes Go.ChangeAt Go.RowKit
end Go.Proofs.Ytplabnjdhkmmkaa
end
section
set_option maxRecDepth 100000
set_option maxHeartbeats 4000000
set_option linter.unusedSimpArgs false
set_option linter.unusedVariables false
namespace Go.Proofs.Ytplabnjdhkmmkaa
open Go.ChangeShapes Go.WideShapes Go.ChangeAt Go.RowKit
/-- the first k letters of a word from behind, turned round -/
def negTo (ws : List Int) (k : Nat) : List Int := (List.range k).map fun i : Nat => -(ix ws (ws.length - 1 - i))
def negL (ws : List Int) : List Int := negTo ws ws.length
theorem negTo_succ (ws : List Int) (k : Nat) : negTo ws (k + 1) = negTo ws k ++ [-(ix ws (ws.length - 1 - k))] := by simp [negTo, List.range_succ]
theorem negTo_length (ws : List Int) (k : Nat) : (negTo ws k).length = k := by simp [negTo]
def Lett (ws : List Int) : Prop := ∀ x ∈ ws, (1 ≤ x ∧ x ≤ 11) ∨ (-11 ≤ x ∧ x ≤ -1)
theorem Lett.ix {ws : List Int} (h : Lett ws) {i : Nat} (hi : i < ws.length) : (1 ≤ Go.Proofs.Ytplabnjdhkmmkaa.ix ws i ∧ Go.Proofs.Ytplabnjdhkmmkaa.ix ws i ≤ 11) ∨ (-11 ≤ Go.Proofs.Ytplabnjdhkmmkaa.ix ws i ∧ Go.Proofs.Ytplabnjdhkmmkaa.ix ws i ≤ -1) := by rw [ix_eq hi]; exact h _ (List.getElem_mem hi)
theorem Lett.word {p : List Int} (h : permB p = true) : Lett (wordM p) := fun x hx => .inl (wordM_bd (permB_len h) x hx)
theorem l03Inverse_any (w : World) (S : Nat → Prop) (v : Value) (ws : List Int) (h : Ints w S v ws) (hL : Lett ws) (hl : ws.length ≤ 100000) :
    Calls Try.prog 121 #[v] w fun e w' => ∃ u, e = .returned u ∧ Ints w' (New w.heap.size w'.heap.size) u (negL ws) ∧ Up w w' := by
  obtain ⟨A, c, rfl, hlc, hcm, -⟩ := h.shape
  have H := Lib.hid h
  have HLT := Lib.hid hL
  clear h hL
  go_enter Try.func121, Try.ntmps121
  go_wp2
  go_loopw [3, 4] (fun v i wr => ∃ j : Nat, j ≤ ws.length ∧ i = .int .i64 ((ws.length : Int) - 1 - j) ∧ Hid (OwnI wr w.heap.size v (negTo ws j)) ∧ Hid (Up w wr)) (fun _ i _ => (intOf i + 1).toNat)
  case atStart => exact ⟨0, by omega, by simp, OwnI.made w _ (Nat.le_refl _), (Chg.refl _ _).alloc _⟩
  case round =>
    obtain ⟨j, hj, rfl, ho, hg⟩ := hrel
    by_cases hlt : j < ws.length
    · have hbd := HLT.out.ix (show ws.length - 1 - j < ws.length by omega)
      have HI := Lib.hid (show I64 (-(ix ws (ws.length - 1 - j))) by unfold I64; omega)
      have HL := Lib.hid (show (negTo ws j).length ≤ 1099511627776 by rw [negTo_length]; omega)
      obtain ⟨b1, o1, rfl, -, hc1⟩ := (H.out.up hg.out).ix (show ws.length - 1 - j < ws.length by omega)
      have f1 := hc1 (ws.length - 1 - j) (by omega)
      have hbd1 : -11 ≤ ix ws (ws.length - 1 - j) := by omega
      have hbd2 : ix ws (ws.length - 1 - j) ≤ 11 := by omega
      have hidx : (ws.length : Int) - 1 - j = ((ws.length - 1 - j : Nat) : Int) := by omega
      have hsz := hg.out.size
      have hlt2 : ws.length - 1 - j < ws.length := by omega
      have HJ := Lib.hid hidx
      obtain ⟨t, ht⟩ : ∃ t : Nat, t = ws.length - 1 - j := ⟨_, rfl⟩
      rw [hidx]
      rw [← ht] at f1 hbd1 hbd2 hlt2 HI HJ ⊢
      have HT := Lib.hid ht
      clear hbd hc1 hidx ht
      go_wp2_with (first | (at_builtin; refine wp_append_int rfl _ _ rfl w.heap.size _ (negTo ws j) rfl (ho.out.alloc _) _ (-(ix ws t)) rfl (cell_new _ _ _ _) HI.out HL.out ?_ ?_; (simp; omega); intro v' w' h1 h2 h3; have HO := Lib.hid h1; have HG := Lib.hid h3; clear h1 h2 h3; go_wp2))
      go_roundw
      case rel => exact ⟨j + 1, by omega, by have := HJ.out; simp only [Value.int.injEq, true_and]; omega, by rw [negTo_succ, ← HT.out]; exact HO.out, Chg.new (hg.out.alloc _) HG.out (fun i hi => by omega)⟩
      case measure => first | (simp [intOf]; done) | (have := HJ.out; simp [intOf]; omega)
    · obtain rfl : j = ws.length := by omega
      have hge : ¬ (0 : Int) ≤ (ws.length : Int) - 1 - ws.length := by omega
      go_wp2
      go_ret
      exact ⟨_, rfl, ho.out.ints, hg.out⟩
def absK (k : Int) : Int := if k < 0 then -k else k
theorem size_any (w : World) (k : Int) (h : -11 ≤ k ∧ k ≤ 11) : Calls Try.prog 41 #[.int .i64 k] w fun e w' => e = .returned (.int .i64 (absK k)) ∧ w = w' := by
  obtain ⟨h0, h1⟩ := h
  have hw : IntKind.i64.wrap (-k) = -k := IntWalk.i64_in _ (by omega)
  go_enter Try.func41, Try.ntmps41
  go_wp2
  all_goals (go_ret; exact ⟨ret_int (by unfold absK; split <;> omega), rfl⟩)
end Go.Proofs.Ytplabnjdhkmmkaa
end
section
set_option maxRecDepth 100000
set_option maxHeartbeats 1000000
set_option linter.unusedSimpArgs false
set_option linter.unusedVariables false
namespace Go.Proofs.Ytplabnjdhkmmkaa
open Go.ChangeShapes Go.WideShapes Go.ChangeAt Go.RowKit
def IdxPost (x : Int) (xs : List Int) (w : World) (e : Ending) (w' : World) : Prop := ∃ n : Int, decide (0 ≤ n) = decide (x ∈ xs) ∧ e = .returned (.int .i64 n) ∧ w = w'
theorem index_p (w : World) (S : Nat → Prop) (v : Value) (xs : List Int) (x : Int) (h : Ints w S v xs) :
    Calls Try.prog 73 #[v, .int .i64 x] w (IdxPost x xs w) := by
  obtain ⟨A, c, rfl, hlc, hcm, -⟩ := h.shape
  have H := Lib.hid h
  clear h
  go_enter Try.func73, Try.ntmps73
  go_wp2
  go_loop [5, 8] (fun _ i => ∃ j : Nat, j ≤ xs.length ∧ i = .int .i64 j ∧ Hid (x ∉ xs.take j)) (fun _ i => xs.length - (intOf i).toNat)
  case atStart => exact ⟨0, by omega, rfl, by simp [Hid]⟩
  case round =>
    obtain ⟨j, hj, rfl, hno⟩ := hrel
    by_cases hlt : j < xs.length
    · obtain ⟨b1, o1, rfl, -, hc⟩ := H.out.ix hlt
      have f1 := hc j hlt
      rw [ix_eq hlt] at f1
      clear hc
      by_cases he : xs[j] = x
      · have HM := Lib.hid (show decide (x ∈ xs) = true from decide_eq_true (he ▸ List.getElem_mem hlt))
        rw [he] at f1
        have e1 : (x == x) = true := by simp
        clear he
        go_wp2
        go_ret
        exact ⟨j, by rw [HM.out]; exact decide_eq_true (by omega), rfl, rfl⟩
      · have e1 : (x == xs[j]) = false := by rw [beq_eq_false_iff_ne]; exact fun h => he h.symm
        have HE := Lib.hid he
        clear he
        go_wp2
        go_round
        case rel => exact ⟨j + 1, by omega, by go_num, by show x ∉ _; rw [List.take_succ_eq_append_getElem hlt]; intro hm; rcases List.mem_append.1 hm with hm | hm; exact hno.out hm; exact HE.out (by simpa [eq_comm] using hm)⟩
        case measure => simp [intOf]; omega
    · obtain rfl : j = xs.length := by omega
      have HM := Lib.hid (show decide (x ∈ xs) = false from decide_eq_false (by have := hno.out; rwa [List.take_length] at this))
      go_wp2
      go_ret
      exact ⟨-1, by rw [HM.out]; exact decide_eq_false (by omega), rfl, rfl⟩
theorem contains_p (w : World) (S : Nat → Prop) (v : Value) (xs : List Int) (x : Int) (h : Ints w S v xs) :
    Calls Try.prog 39 #[v, .int .i64 x] w fun e w' => e = .returned (.bool (decide (x ∈ xs))) ∧ w = w' := by
  obtain ⟨A, c, rfl, hlc, hcm, -⟩ := h.shape
  have H := Lib.hid h
  clear h
  go_enter Try.func39, Try.ntmps39
  go_wp2_with fail
  refine (index_p _ _ _ _ _ H.out).mono ?_
  rintro e w' ⟨n, hn, rfl, rfl⟩
  have HN := Lib.hid hn
  clear hn
  go_wp2
  go_ret
  exact ⟨ret_bool HN.out, rfl⟩
theorem invM_len {p : List Int} (h : permB p = true) : (invM p).length ≤ 1000 := by
  have := permB_len h
  unfold invM
  rw [invTo_length]
  omega
theorem l04Finish_any (w : World) (S : Nat → Prop) (v : Value) (p : List Int) (h : Ints w S v p) (hp : permB p = true) :
    Calls Try.prog 131 #[v] w fun e w' => ∃ u, e = .returned u ∧ Ints w' (New w.heap.size w'.heap.size) u (startM (invM p)) ∧ Up w w' := by
  obtain ⟨A, c, rfl, hlc, hcm, -⟩ := h.shape
  have H := Lib.hid h
  have HP := Lib.hid hp
  have HL := Lib.hid (invM_len hp)
  clear h hp
  go_enter Try.func131, Try.ntmps131
  go_wp2_with fail
  refine (l04Inverse_any _ _ _ p H.out HP.out).mono ?_
  rintro e w1 ⟨v1, rfl, k1, g1⟩
  obtain ⟨A1, c1, rfl, hl1, hc1, -⟩ := k1.shape
  have K1 := Lib.hid k1
  have G1 := Lib.hid g1
  clear k1 g1
  go_wp2_with fail
  refine (l04Start_any _ _ _ (invM p) K1.out HL.out).mono ?_
  rintro e w2 ⟨v2, rfl, k2, g2⟩
  have K2 := Lib.hid k2
  have G2 := Lib.hid g2
  have hz := G1.out.size
  clear k2 g2
  go_wp2
  go_ret
  exact ⟨_, rfl, K2.out.mono (fun b _ h => ⟨Nat.le_trans hz h.1, h.2⟩), Chg.trans G1.out G2.out⟩
theorem l04Extra_any (w : World) (S T : Nat → Prop) (v u : Value) (p q : List Int) (h : Ints w S v p) (h2 : Ints w T u q) (hp : permB p = true) (hq : q.length ≤ 1000) :
    Calls Try.prog 123 #[v, u] w fun e w' => e = .returned (.int .i64 (extraM p q)) ∧ Up w w' := by
  obtain ⟨A, c, rfl, hlc, hcm, -⟩ := h.shape
  obtain ⟨B, d, rfl, hld, hdm, -⟩ := h2.shape
  have H := Lib.hid h
  have H2 := Lib.hid h2
  have HP := Lib.hid hp
  have HL := Lib.hid (invM_len hp)
  clear h h2 hp
  go_enter Try.func123, Try.ntmps123
  go_wp2_with fail
  refine (l04Finish_any _ _ _ p H.out HP.out).mono ?_
  rintro e w2 ⟨v2, rfl, k2, g2⟩
  obtain ⟨A2, c2, rfl, hl2, hc2, -⟩ := k2.shape
  have K2 := Lib.hid k2
  have G2 := Lib.hid g2
  clear k2 g2
  go_wp2_with fail
  refine (l04Start_any _ _ _ q (H2.out.up G2.out) hq).mono ?_
  rintro e w3 ⟨v3, rfl, k3, g3⟩
  obtain ⟨A3, c3, rfl, hl3, hc3, -⟩ := k3.shape
  have K3 := Lib.hid k3
  have G3 := Lib.hid g3
  clear k3 g3
  have U3 := Lib.hid (Chg.trans G2.out G3.out)
  have KE := Lib.hid (K2.out.up G3.out)
  have HQ : Hid (∀ i (hi : i < (startM q).length), I64 (startM q)[i]) := Lib.hid fun i hi => by have := startM_bd q _ (List.getElem_mem hi); unfold I64; omega
  go_wp2
  go_loop [7] (fun i => ∃ j : Nat, j ≤ (startM q).length ∧ i = .int .i64 j ∧ Hid (extraFrom p q j)) (fun i => (startM q).length - (intOf i).toNat)
  case atStart => exact ⟨0, by omega, rfl, extraFrom.start p q⟩
  case round =>
    obtain ⟨j, hj, rfl, hp⟩ := hrel
    by_cases hlt : j < (startM q).length
    · obtain ⟨b, o, rfl, -, hc⟩ := K3.out.ix hlt
      have f0 := hc j hlt
      rw [ix_eq hlt] at f0
      clear hc
      by_cases hm : (startM q)[j] ∈ startM (invM p)
      · have HM := Lib.hid (decide_eq_true hm)
        have HN := Lib.hid (hp.out.next hlt hm)
        clear hm
        go_wp2_with fail
        refine (has_any _ _ _ _ _ KE.out).mono ?_
        rintro e w' ⟨rfl, rfl⟩
        rw [HM.out]
        go_wp2
        go_round
        case rel => exact ⟨j + 1, by omega, by go_num, HN.out⟩
        case measure => first | (simp [intOf]; done) | (simp [intOf]; omega)
      · have HM := Lib.hid (decide_eq_false hm)
        have HB := Lib.hid (hp.out.at_ hlt hm)
        clear hm
        go_wp2_with fail
        refine (has_any _ _ _ _ _ KE.out).mono ?_
        rintro e w' ⟨rfl, rfl⟩
        rw [HM.out]
        go_wp2
        go_ret
        exact ⟨ret_int HB.out.symm, U3.out⟩
    · obtain rfl : j = (startM q).length := by omega
      have HB := Lib.hid hp.out.all
      go_wp2
      go_ret
      exact ⟨ret_int HB.out.symm, U3.out⟩
theorem missing_any (w : World) (S T : Nat → Prop) (v u : Value) (p q : List Int) (h : Ints w S v p) (h2 : Ints w T u q) (hp : permB p = true) (hq : q.length ≤ 1000) :
    Calls Try.prog 128 #[v, u] w fun e w' => e = .returned (.int .i64 (extraM p q)) ∧ Up w w' := by
  obtain ⟨A, c, rfl, hlc, hcm, -⟩ := h.shape
  obtain ⟨B, d, rfl, hld, hdm, -⟩ := h2.shape
  have H := Lib.hid h
  have H2 := Lib.hid h2
  have HP := Lib.hid hp
  have HL := Lib.hid (invM_len hp)
  clear h h2 hp
  go_enter Try.func128, Try.ntmps128
  go_wp2_with fail
  refine (invert_any _ _ _ p H.out HP.out).mono ?_
  rintro e w1 ⟨v1, rfl, k1, g1⟩
  obtain ⟨A1, c1, rfl, hl1, hc1, -⟩ := k1.shape
  have K1 := Lib.hid k1
  have G1 := Lib.hid g1
  clear k1 g1
  go_wp2_with fail
  refine (startLetters_any _ _ _ (invM p) K1.out HL.out).mono ?_
  rintro e w2 ⟨v2, rfl, k2, g2⟩
  obtain ⟨A2, c2, rfl, hl2, hc2, -⟩ := k2.shape
  have K2 := Lib.hid k2
  have G2 := Lib.hid g2
  clear k2 g2
  have U := Lib.hid (Chg.trans G1.out G2.out)
  go_wp2_with fail
  refine (startLetters_any _ _ _ q (H2.out.up U.out) hq).mono ?_
  rintro e w3 ⟨v3, rfl, k3, g3⟩
  obtain ⟨A3, c3, rfl, hl3, hc3, -⟩ := k3.shape
  have K3 := Lib.hid k3
  have G3 := Lib.hid g3
  clear k3 g3
  have U3 := Lib.hid (Chg.trans U.out G3.out)
  have KE := Lib.hid (K2.out.up G3.out)
  have HQ : Hid (∀ i (hi : i < (startM q).length), I64 (startM q)[i]) := Lib.hid fun i hi => by have := startM_bd q _ (List.getElem_mem hi); unfold I64; omega
  go_wp2
  go_loop [7, 14] (fun _ i => ∃ j : Nat, j ≤ (startM q).length ∧ i = .int .i64 j ∧ Hid (extraFrom p q j)) (fun _ i => (startM q).length - (intOf i).toNat)
  case atStart => exact ⟨0, by omega, rfl, extraFrom.start p q⟩
  case round =>
    obtain ⟨j, hj, rfl, hp⟩ := hrel
    by_cases hlt : j < (startM q).length
    · obtain ⟨b, o, rfl, -, hc⟩ := K3.out.ix hlt
      have f0 := hc j hlt
      rw [ix_eq hlt] at f0
      clear hc
      by_cases hm : (startM q)[j] ∈ startM (invM p)
      · have HM := Lib.hid (decide_eq_true hm)
        have HN := Lib.hid (hp.out.next hlt hm)
        clear hm
        go_wp2_with fail
        refine (contains_p _ _ _ _ _ KE.out).mono ?_
        rintro e w' ⟨rfl, rfl⟩
        rw [HM.out]
        go_wp2
        go_round
        case rel => exact ⟨j + 1, by omega, by go_num, HN.out⟩
        case measure => first | (simp [intOf]; done) | (simp [intOf]; omega)
      · have HM := Lib.hid (decide_eq_false hm)
        have HB := Lib.hid (hp.out.at_ hlt hm)
        clear hm
        go_wp2_with fail
        refine (contains_p _ _ _ _ _ KE.out).mono ?_
        rintro e w' ⟨rfl, rfl⟩
        rw [HM.out]
        go_wp2
        go_ret
        exact ⟨ret_int HB.out.symm, U3.out⟩
    · obtain rfl : j = (startM q).length := by omega
      have HB := Lib.hid hp.out.all
      go_wp2
      go_ret
      exact ⟨ret_int HB.out.symm, U3.out⟩
end Go.Proofs.Ytplabnjdhkmmkaa
end
