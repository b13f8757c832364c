/- The letters of rows, and the operations of their crossings, on both sides. No condition but room. -/
import Derived.Test.YtmimbnpcokfnlaaRow6
import Derived.Test.YtmimbnpcokfnlaaLetM
import Derived.Test.YtmimbnpcokfnlaaCross
import Derived.Test.YtmimbnpcokfnlaaStepO
import Derived.Deep.RegionHeld3
namespace Go.Proofs.Ytmimbnpcokfnlaa
open Go.ChangeShapes Go.WideShapes Go.ChangeAt Go.RowKit
theorem Ints.lit {w : World} {g : Nat} {arr : Array Value} {e : TypeId} {xs : List Int} (hh : w.heap[g]? = some (.cells arr e (0, 0))) (ha : arr.toList = xs.map (Value.int .i64)) (hx : ∀ x ∈ xs, I64 x) (hl : xs.length ≤ 1000) :
    Ints w (fun b => b = g) (.slice (some ⟨g, 0, none⟩) xs.length xs.length) xs := by
  refine Ints.of_cells rfl (Array.getElem?_eq_some_iff.1 hh).1 (Nat.le_refl _) (by omega) hx fun t ht => ?_
  have h1 := cell_of_row w g t arr e (0, 0) hh
  refine ⟨?_, by simp [World.frozen?, hh]⟩
  rw [h1, ← Array.getElem?_toList, ha, List.getElem?_map, List.getElem?_eq_getElem ht]
  rfl
theorem sAbs_any (k : Int) (w : World) (h : -1000000 ≤ k ∧ k ≤ 1000000) :
    Calls Try.prog 138 #[.int .i64 k] w fun e w' => e = .returned (.int .i64 (absI k)) ∧ w = w' := by
  obtain ⟨h0, h1⟩ := h
  by_cases hk : k < 0
  · have HV := Lib.hid (show absI k = -k from if_pos hk)
    go_enter Try.func138, Try.ntmps138
    go_wp2
    go_ret
    exact ⟨ret_int HV.out.symm, rfl⟩
  · have HV := Lib.hid (show absI k = k from if_neg hk)
    go_enter Try.func138, Try.ntmps138
    go_wp2
    go_ret
    exact ⟨ret_int HV.out.symm, rfl⟩
theorem size_any (k : Int) (w : World) (h : -1000000 ≤ k ∧ k ≤ 1000000) :
    Calls Try.prog 145 #[.int .i64 k] w fun e w' => e = .returned (.int .i64 (absI k)) ∧ w = w' := by
  obtain ⟨h0, h1⟩ := h
  by_cases hk : k < 0
  · have HV := Lib.hid (show absI k = -k from if_pos hk)
    go_enter Try.func145, Try.ntmps145
    go_wp2
    go_ret
    exact ⟨ret_int (by rw [HV.out]), rfl⟩
  · have HV := Lib.hid (show absI k = k from if_neg hk)
    go_enter Try.func145, Try.ntmps145
    go_wp2
    go_ret
    exact ⟨ret_int (by rw [HV.out]), rfl⟩
theorem letAt_8 (c : Int) : letAt 8 c = [c + 1] := rfl
theorem letAt_9 (c : Int) : letAt 9 c = [-c - 1] := rfl
theorem letAt_5 (c : Int) : letAt 5 c = [-c - 1] := rfl
theorem letAt_10 (c : Int) : letAt 10 c = [c + 2, c + 1, c + 3, c + 2] := rfl
theorem letAt_11 (c : Int) : letAt 11 c = [-c - 2, -c - 1, -c - 3, -c - 2] := rfl
theorem letAt_no {k c : Int} (h : ¬ k = 8 ∧ ¬ k = 9 ∧ ¬ k = 5 ∧ ¬ k = 10 ∧ ¬ k = 11) : letAt k c = [] := by
  unfold letAt
  rw [if_neg h.1, if_neg (fun hh => hh.elim h.2.1 h.2.2.1), if_neg h.2.2.2.1, if_neg h.2.2.2.2]
set_option maxHeartbeats 4000000 in
theorem l18Stitch_any (w : World) (k c : Int) (hc : 0 ≤ c ∧ c ≤ 1000) :
    Calls Try.prog 216 #[.int .i64 k, .int .i64 c] w fun e w' => ∃ v, e = .returned v ∧ Ints w' (New w.heap.size w'.heap.size) v (letAt k c) ∧ Up w w' := by
  obtain ⟨hc0, hc1⟩ := hc
  have hsh : k = 8 ∨ k = 9 ∨ k = 5 ∨ k = 10 ∨ k = 11 ∨ (¬ k = 8 ∧ ¬ k = 9 ∧ ¬ k = 5 ∧ ¬ k = 10 ∧ ¬ k = 11) := by omega
  rcases hsh with rfl | rfl | rfl | rfl | rfl | h
  · have HX := Lib.hid (letAt_8 c)
    go_enter Try.func216, Try.ntmps216
    go_wp2
    go_ret
    refine ⟨_, rfl, ?_, (Chg.refl _ _).alloc _⟩
    rw [HX.out]
    exact (Ints.lit (xs := [c + 1]) (heap_new_at rfl) rfl (by intro x hx; simp at hx; unfold I64; omega) (by simp)).mono (fun b _ hb => by subst hb; exact ⟨Nat.le_refl _, by simp⟩)
  · have HX := Lib.hid (letAt_9 c)
    go_enter Try.func216, Try.ntmps216
    go_wp2
    go_ret
    refine ⟨_, rfl, ?_, (Chg.refl _ _).alloc _⟩
    rw [HX.out]
    exact (Ints.lit (xs := [-c - 1]) (heap_new_at rfl) rfl (by intro x hx; simp at hx; unfold I64; omega) (by simp)).mono (fun b _ hb => by subst hb; exact ⟨Nat.le_refl _, by simp⟩)
  · have HX := Lib.hid (letAt_5 c)
    go_enter Try.func216, Try.ntmps216
    go_wp2
    go_ret
    refine ⟨_, rfl, ?_, (Chg.refl _ _).alloc _⟩
    rw [HX.out]
    exact (Ints.lit (xs := [-c - 1]) (heap_new_at rfl) rfl (by intro x hx; simp at hx; unfold I64; omega) (by simp)).mono (fun b _ hb => by subst hb; exact ⟨Nat.le_refl _, by simp⟩)
  · have HX := Lib.hid (letAt_10 c)
    go_enter Try.func216, Try.ntmps216
    go_wp2
    go_ret
    refine ⟨_, rfl, ?_, (Chg.refl _ _).alloc _⟩
    rw [HX.out]
    exact (Ints.lit (xs := [c + 2, c + 1, c + 3, c + 2]) (heap_new_at rfl) rfl (by intro x hx; simp at hx; unfold I64; omega) (by simp)).mono (fun b _ hb => by subst hb; exact ⟨Nat.le_refl _, by simp⟩)
  · have HX := Lib.hid (letAt_11 c)
    go_enter Try.func216, Try.ntmps216
    go_wp2
    go_ret
    refine ⟨_, rfl, ?_, (Chg.refl _ _).alloc _⟩
    rw [HX.out]
    exact (Ints.lit (xs := [-c - 2, -c - 1, -c - 3, -c - 2]) (heap_new_at rfl) rfl (by intro x hx; simp at hx; unfold I64; omega) (by simp)).mono (fun b _ hb => by subst hb; exact ⟨Nat.le_refl _, by simp⟩)
  · have HX := Lib.hid (letAt_no (c := c) h)
    obtain ⟨h1, h2, h3, h4, h5⟩ := h
    have e1 : (k == 8) = false := by simpa using h1
    have e2 : (k == 9) = false := by simpa using h2
    have e3 : (k == 5) = false := by simpa using h3
    have e4 : (k == 10) = false := by simpa using h4
    have e5 : (k == 11) = false := by simpa using h5
    clear h1 h2 h3 h4 h5
    go_enter Try.func216, Try.ntmps216
    go_wp2
    go_ret
    refine ⟨_, rfl, ?_, Chg.refl _ _⟩
    rw [HX.out]
    exact Ints.nil _ _ _ _ (by omega)
set_option maxHeartbeats 4000000 in
theorem l18Letters_any (w : World) (S : Nat → Prop) (b o : Nat) (r : RowM) (h : RowAt w S b o r) (hs : stB r.xs = true) :
    Calls Try.prog 175 #[.pointer (some ⟨b, o, none⟩)] w fun e w' => ∃ v, e = .returned v ∧ Ints w' (New w.heap.size w'.heap.size) v (letL 0 r.xs) ∧ Up w w' := by
  obtain ⟨A, c, -, -, f2, h4, h5, h6⟩ := h.open_
  have HI := Lib.hid h4
  have hl := stB_len hs
  have HK := Lib.hid (stB_kind hs)
  obtain ⟨_, _, _, _, _, _, _, _, _, hbw⟩ := h
  clear h4 hs
  go_enter Try.func175, Try.ntmps175
  go_wp2
  go_loopw [3, 4, 5] (fun v a i wr => ∃ j : Nat, j ≤ r.xs.length ∧ i = .int .i64 j ∧ a = .int .i64 (sumF takenK (r.xs.take j)) ∧ Hid (OwnI wr w.heap.size v (letL 0 (r.xs.take j))) ∧ Hid (Up w wr)) (fun _ _ i _ => r.xs.length - (intOf i).toNat)
  case atStart => exact ⟨0, by omega, rfl, rfl, OwnI.made w _ (Nat.le_refl _), (Chg.refl _ _).alloc _⟩
  case round =>
    obtain ⟨j, hj, rfl, rfl, ho, hg⟩ := hrel
    have g2 := Chg.cell hg.out f2 id
    by_cases hlt : j < r.xs.length
    · obtain ⟨b1, o1, rfl, -, hc⟩ := HI.out.ix hlt
      have f1 := Chg.cell hg.out (hc j hlt) id
      rw [ix_eq hlt] at f1
      have HC := Lib.hid (show w.cell? ⟨b1, o1 + j, none⟩ = some (.int .i64 r.xs[j]) by have := hc j hlt; rwa [ix_eq hlt] at this)
      have HT := Lib.hid (sumF_take takenK hlt)
      have HX := Lib.hid (letL_take hlt)
      have HV := Lib.hid (takenOf_ok (HK.out _ (List.getElem_mem hlt)))
      have hll := letL_length (r.xs.take j) 0
      have hl4 := letAt_length r.xs[j] (sumF takenK (r.xs.take j))
      rw [List.length_take] at hll
      have HLL := Lib.hid (show (letL 0 (r.xs.take j)).length + (letAt r.xs[j] (sumF takenK (r.xs.take j))).length ≤ 1099511627776 by omega)
      have hb1 := takenK_bd r.xs[j]
      have hb2 := sumF_bd takenK 0 4 (by omega) (fun x => by have := takenK_bd x; omega) (r.xs.take j)
      rw [List.length_take, Nat.min_eq_left hj] at hb2
      have hsz := hg.out.size
      have hub : b1 < w.heap.size := World.block_lt_of_cell? w _ HC.out
      generalize hsv : sumF takenK (r.xs.take j) = sv at *
      have HSV := Lib.hid hsv
      clear hc hll hl4 hsv
      have G_1 := Lib.hid (Chg.refl Nowhere wr)
      have O_2 := Lib.hid (ho.out)
      go_wp2_with fail
      refine (l18Stitch_any _ _ _ ⟨by omega, by omega⟩).mono ?_
      rintro e w3 ⟨v3, rfl, k1, g1⟩
      obtain ⟨A3, c3, rfl, hl3, hc3, -⟩ := k1.shape
      have K1 := Lib.hid k1
      clear k1
      have G1 := Lib.hid g1
      obtain ⟨hy3, hz3⟩ := up_pre (show Up wr _ from (by repeat (first | exact Chg.refl _ _ | apply Chg.drew | apply Chg.drewN | refine Chg.alloc ?_ _))) G1.out
      clear g1
      have U_4 := Lib.hid (Chg.trans hg.out (Chg.trans (by repeat (first | exact Chg.refl _ _ | apply Chg.drew | apply Chg.drewN | refine Chg.alloc ?_ _)) G1.out))
      clear hg
      have G_5 := Lib.hid (Chg.trans G_1.out (Chg.trans (by repeat (first | exact Chg.refl _ _ | apply Chg.drew | apply Chg.drewN | refine Chg.alloc ?_ _)) G1.out))
      clear G_1
      have O_6 := Lib.hid (O_2.out.up (Chg.trans (by repeat (first | exact Chg.refl _ _ | apply Chg.drew | apply Chg.drewN | refine Chg.alloc ?_ _)) G1.out))
      clear O_2
      have f1_7 := Chg.cell (Chg.trans (by repeat (first | exact Chg.refl _ _ | apply Chg.drew | apply Chg.drewN | refine Chg.alloc ?_ _)) G1.out) f1 id
      clear f1
      have g2_8 := Chg.cell (Chg.trans (by repeat (first | exact Chg.refl _ _ | apply Chg.drew | apply Chg.drewN | refine Chg.alloc ?_ _)) G1.out) g2 id
      clear g2
      clear G1
      have K_9 := Lib.hid (K1.out)
      clear K1
      go_wp2_with (first | (at_builtin; refine wp_append_ints rfl _ _ rfl w.heap.size _ (letL 0 (r.xs.take j)) rfl (O_6.out.up (by repeat (first | exact Chg.refl _ _ | apply Chg.drew | apply Chg.drewN | refine Chg.alloc ?_ _))) _ _ (letAt r.xs[j] sv) rfl (K_9.out.up (by repeat (first | exact Chg.refl _ _ | apply Chg.drew | apply Chg.drewN | refine Chg.alloc ?_ _))) HLL.out (by omega) ?_; intro v' w9 ho1 _ _ hg1; have HO := Lib.hid ho1; have HG := Lib.hid (Chg.new (Chg.trans U_4.out (by repeat (first | exact Chg.refl _ _ | apply Chg.drew | apply Chg.drewN | refine Chg.alloc ?_ _))) hg1 (fun i hi => by omega)); have f8 := Chg.cell HG.out HC.out id; have f9 := Chg.cell HG.out f2 id; clear ho1 hg1))
      refine (sColumnsTaken_any _ _).mono ?_
      rintro e w10 ⟨rfl, g1⟩
      rw [HV.out]
      have G1 := Lib.hid g1
      clear g1 f8 f9
      go_wp2
      go_roundw
      case rel => exact ⟨j + 1, by omega, by go_num, by rw [HT.out], by rw [HX.out]; exact HO.out.up G1.out, Chg.trans HG.out G1.out⟩
      case measure => simp [intOf]; omega
    · obtain rfl : j = r.xs.length := by omega
      have HX := Lib.hid (show letL 0 (r.xs.take r.xs.length) = letL 0 r.xs by rw [List.take_length])
      go_wp2
      go_ret
      exact ⟨_, rfl, by have := ho.out.ints; rw [HX.out] at this; exact this, hg.out⟩
set_option maxHeartbeats 8000000 in
theorem letters_any (w : World) (S : Nat → Prop) (v : Value) (r : RowM) (h : RowV w S v r) (hs : stB r.xs = true) :
    Calls Try.prog 228 #[v] w fun e w' => ∃ v, e = .returned v ∧ Ints w' (New w.heap.size w'.heap.size) v (letL 0 r.xs) ∧ Up w w' := by
  obtain ⟨A, c, rfl, h4, h5, h6⟩ := openRow h
  have HI := Lib.hid h4
  have hl := stB_len hs
  have HK := Lib.hid (stB_kind hs)
  have HW := Lib.hid ((Chg.refl Nowhere w).alloc (.cells #[.int .i64 r.d, .int .i64 r.c, .slice A r.xs.length c] 66))
  have HM := Lib.hid (OwnI.made (w.alloc (.cells #[.int .i64 r.d, .int .i64 r.c, .slice A r.xs.length c] 66)) (w.heap.size + 1) (by simp))
  clear h h4 hs
  go_enter Try.func228, Try.ntmps228
  go_wp2
  go_loopw [3, 4, 6, 11] (fun v a _ i wr => ∃ j : Nat, j ≤ r.xs.length ∧ i = .int .i64 j ∧ a = .int .i64 (sumF takenK (r.xs.take j)) ∧ Hid (OwnI wr (w.heap.size + 1) v (letL 0 (r.xs.take j))) ∧ Hid (Up (w.alloc (.cells #[.int .i64 r.d, .int .i64 r.c, .slice A r.xs.length c] 66)) wr)) (fun _ _ _ i _ => r.xs.length - (intOf i).toNat)
  case atStart => exact ⟨0, by omega, rfl, rfl, by simpa [Hid, letL] using HM.out, (Chg.refl _ _).alloc _⟩
  clear HM
  case round =>
    obtain ⟨j, hj, rfl, rfl, ho, hg⟩ := hrel
    by_cases hlt : j < r.xs.length
    · obtain ⟨b1, o1, rfl, -, hc⟩ := HI.out.ix hlt
      have f1 := Chg.cell (HW.out.trans hg.out) (hc j hlt) id
      rw [ix_eq hlt] at f1
      have HT := Lib.hid (sumF_take takenK hlt)
      have HX := Lib.hid (letL_take hlt)
      have HV := Lib.hid (takenOf_ok (HK.out _ (List.getElem_mem hlt)))
      have hll := letL_length (r.xs.take j) 0
      rw [List.length_take] at hll
      have hb1 := takenK_bd r.xs[j]
      have hb2 := sumF_bd takenK 0 4 (by omega) (fun x => by have := takenK_bd x; omega) (r.xs.take j)
      rw [List.length_take, Nat.min_eq_left hj] at hb2
      have hsz : w.heap.size + 1 ≤ wr.heap.size := by have := hg.out.size; simp at this; exact this
      generalize hsv : sumF takenK (r.xs.take j) = sv at *
      clear hc hsv
      generalize hx : r.xs[j] = x at *
      have HXX := Lib.hid hx
      have hsh : x = 8 ∨ x = 9 ∨ x = 5 ∨ x = 10 ∨ x = 11 ∨ (¬ x = 8 ∧ ¬ x = 9 ∧ ¬ x = 5 ∧ ¬ x = 10 ∧ ¬ x = 11) := by omega
      clear hx
      have hxeq : ∃ y : Int, y = x := ⟨x, rfl⟩
      obtain ⟨y, hy⟩ := hxeq
      rcases hsh with h | h | h | h | h | h
      · rw [h] at HX f1 HT hb1
        have HV := Lib.hid (show takenOf 8 = takenK 8 by have := HV.out; rwa [h] at this)
        have HE := Lib.hid (letAt_8 sv)
        have HLL := Lib.hid (show (letL 0 (r.xs.take j)).length + ([sv + 1]).length ≤ 1099511627776 by simp; omega)
        have HL := Lib.hid (show ∀ (W : World) (arr : Array Value) (e : TypeId) (g : Nat), W.heap[g]? = some (.cells arr e (0, 0)) → arr.toList = ([sv + 1]).map (Value.int .i64) → Ints W (fun b => b = g) (.slice (some ⟨g, 0, none⟩) ([sv + 1]).length ([sv + 1]).length) ([sv + 1]) from fun W arr e g h1 h2 => Ints.lit h1 h2 (by intro x hx; simp at hx; unfold I64; omega) (by simp))
        clear h hy
        go_wp2_with (first | (at_builtin; refine wp_append_ints rfl _ _ rfl (w.heap.size + 1) _ (letL 0 (r.xs.take j)) rfl (ho.out.alloc _) _ _ ([sv + 1]) rfl (HL.out _ _ _ _ (heap_new_at rfl) rfl) HLL.out (by simp; omega) ?_; intro v' w9 ho1 _ _ hg1; have HO := Lib.hid ho1; have HG := Lib.hid (Chg.new (hg.out.alloc _) hg1 (fun i hi => by simp at hi; omega)); clear ho1 hg1))
        refine (ColumnsTaken_any _ _).mono ?_
        rintro e w10 ⟨rfl, rfl⟩
        rw [HV.out]
        go_wp2
        go_roundw
        case rel => exact ⟨j + 1, by omega, by go_num, by rw [HT.out], by rw [HX.out, HE.out]; exact HO.out, HG.out⟩
        case measure => simp [intOf]; omega
      · rw [h] at HX f1 HT hb1
        have HV := Lib.hid (show takenOf 9 = takenK 9 by have := HV.out; rwa [h] at this)
        have HE := Lib.hid (letAt_9 sv)
        have HLL := Lib.hid (show (letL 0 (r.xs.take j)).length + ([-sv - 1]).length ≤ 1099511627776 by simp; omega)
        have HL := Lib.hid (show ∀ (W : World) (arr : Array Value) (e : TypeId) (g : Nat), W.heap[g]? = some (.cells arr e (0, 0)) → arr.toList = ([-sv - 1]).map (Value.int .i64) → Ints W (fun b => b = g) (.slice (some ⟨g, 0, none⟩) ([-sv - 1]).length ([-sv - 1]).length) ([-sv - 1]) from fun W arr e g h1 h2 => Ints.lit h1 h2 (by intro x hx; simp at hx; unfold I64; omega) (by simp))
        clear h hy
        go_wp2_with (first | (at_builtin; refine wp_append_ints rfl _ _ rfl (w.heap.size + 1) _ (letL 0 (r.xs.take j)) rfl (ho.out.alloc _) _ _ ([-sv - 1]) rfl (HL.out _ _ _ _ (heap_new_at rfl) rfl) HLL.out (by simp; omega) ?_; intro v' w9 ho1 _ _ hg1; have HO := Lib.hid ho1; have HG := Lib.hid (Chg.new (hg.out.alloc _) hg1 (fun i hi => by simp at hi; omega)); clear ho1 hg1))
        refine (ColumnsTaken_any _ _).mono ?_
        rintro e w10 ⟨rfl, rfl⟩
        rw [HV.out]
        go_wp2
        go_roundw
        case rel => exact ⟨j + 1, by omega, by go_num, by rw [HT.out], by rw [HX.out, HE.out]; exact HO.out, HG.out⟩
        case measure => simp [intOf]; omega
      · rw [h] at HX f1 HT hb1
        have HV := Lib.hid (show takenOf 5 = takenK 5 by have := HV.out; rwa [h] at this)
        have HE := Lib.hid (letAt_5 sv)
        have HLL := Lib.hid (show (letL 0 (r.xs.take j)).length + ([-sv - 1]).length ≤ 1099511627776 by simp; omega)
        have HL := Lib.hid (show ∀ (W : World) (arr : Array Value) (e : TypeId) (g : Nat), W.heap[g]? = some (.cells arr e (0, 0)) → arr.toList = ([-sv - 1]).map (Value.int .i64) → Ints W (fun b => b = g) (.slice (some ⟨g, 0, none⟩) ([-sv - 1]).length ([-sv - 1]).length) ([-sv - 1]) from fun W arr e g h1 h2 => Ints.lit h1 h2 (by intro x hx; simp at hx; unfold I64; omega) (by simp))
        clear h hy
        go_wp2_with (first | (at_builtin; refine wp_append_ints rfl _ _ rfl (w.heap.size + 1) _ (letL 0 (r.xs.take j)) rfl (ho.out.alloc _) _ _ ([-sv - 1]) rfl (HL.out _ _ _ _ (heap_new_at rfl) rfl) HLL.out (by simp; omega) ?_; intro v' w9 ho1 _ _ hg1; have HO := Lib.hid ho1; have HG := Lib.hid (Chg.new (hg.out.alloc _) hg1 (fun i hi => by simp at hi; omega)); clear ho1 hg1))
        refine (ColumnsTaken_any _ _).mono ?_
        rintro e w10 ⟨rfl, rfl⟩
        rw [HV.out]
        go_wp2
        go_roundw
        case rel => exact ⟨j + 1, by omega, by go_num, by rw [HT.out], by rw [HX.out, HE.out]; exact HO.out, HG.out⟩
        case measure => simp [intOf]; omega
      · rw [h] at HX f1 HT hb1
        have HV := Lib.hid (show takenOf 10 = takenK 10 by have := HV.out; rwa [h] at this)
        have HE := Lib.hid (letAt_10 sv)
        have HLL := Lib.hid (show (letL 0 (r.xs.take j)).length + ([sv + 2, sv + 1, sv + 3, sv + 2]).length ≤ 1099511627776 by simp; omega)
        have HL := Lib.hid (show ∀ (W : World) (arr : Array Value) (e : TypeId) (g : Nat), W.heap[g]? = some (.cells arr e (0, 0)) → arr.toList = ([sv + 2, sv + 1, sv + 3, sv + 2]).map (Value.int .i64) → Ints W (fun b => b = g) (.slice (some ⟨g, 0, none⟩) ([sv + 2, sv + 1, sv + 3, sv + 2]).length ([sv + 2, sv + 1, sv + 3, sv + 2]).length) ([sv + 2, sv + 1, sv + 3, sv + 2]) from fun W arr e g h1 h2 => Ints.lit h1 h2 (by intro x hx; simp at hx; unfold I64; omega) (by simp))
        clear h hy
        go_wp2_with (first | (at_builtin; refine wp_append_ints rfl _ _ rfl (w.heap.size + 1) _ (letL 0 (r.xs.take j)) rfl (ho.out.alloc _) _ _ ([sv + 2, sv + 1, sv + 3, sv + 2]) rfl (HL.out _ _ _ _ (heap_new_at rfl) rfl) HLL.out (by simp; omega) ?_; intro v' w9 ho1 _ _ hg1; have HO := Lib.hid ho1; have HG := Lib.hid (Chg.new (hg.out.alloc _) hg1 (fun i hi => by simp at hi; omega)); clear ho1 hg1))
        refine (ColumnsTaken_any _ _).mono ?_
        rintro e w10 ⟨rfl, rfl⟩
        rw [HV.out]
        go_wp2
        go_roundw
        case rel => exact ⟨j + 1, by omega, by go_num, by rw [HT.out], by rw [HX.out, HE.out]; exact HO.out, HG.out⟩
        case measure => simp [intOf]; omega
      · rw [h] at HX f1 HT hb1
        have HV := Lib.hid (show takenOf 11 = takenK 11 by have := HV.out; rwa [h] at this)
        have HE := Lib.hid (letAt_11 sv)
        have HLL := Lib.hid (show (letL 0 (r.xs.take j)).length + ([-sv - 2, -sv - 1, -sv - 3, -sv - 2]).length ≤ 1099511627776 by simp; omega)
        have HL := Lib.hid (show ∀ (W : World) (arr : Array Value) (e : TypeId) (g : Nat), W.heap[g]? = some (.cells arr e (0, 0)) → arr.toList = ([-sv - 2, -sv - 1, -sv - 3, -sv - 2]).map (Value.int .i64) → Ints W (fun b => b = g) (.slice (some ⟨g, 0, none⟩) ([-sv - 2, -sv - 1, -sv - 3, -sv - 2]).length ([-sv - 2, -sv - 1, -sv - 3, -sv - 2]).length) ([-sv - 2, -sv - 1, -sv - 3, -sv - 2]) from fun W arr e g h1 h2 => Ints.lit h1 h2 (by intro x hx; simp at hx; unfold I64; omega) (by simp))
        clear h hy
        go_wp2_with (first | (at_builtin; refine wp_append_ints rfl _ _ rfl (w.heap.size + 1) _ (letL 0 (r.xs.take j)) rfl (ho.out.alloc _) _ _ ([-sv - 2, -sv - 1, -sv - 3, -sv - 2]) rfl (HL.out _ _ _ _ (heap_new_at rfl) rfl) HLL.out (by simp; omega) ?_; intro v' w9 ho1 _ _ hg1; have HO := Lib.hid ho1; have HG := Lib.hid (Chg.new (hg.out.alloc _) hg1 (fun i hi => by simp at hi; omega)); clear ho1 hg1))
        refine (ColumnsTaken_any _ _).mono ?_
        rintro e w10 ⟨rfl, rfl⟩
        rw [HV.out]
        go_wp2
        go_roundw
        case rel => exact ⟨j + 1, by omega, by go_num, by rw [HT.out], by rw [HX.out, HE.out]; exact HO.out, HG.out⟩
        case measure => simp [intOf]; omega
      · have HE := Lib.hid (letAt_no (c := sv) h)
        obtain ⟨h1, h2, h3, h4, h5⟩ := h
        have e1 : (x == 8) = false := by simpa using h1
        have e2 : (x == 9) = false := by simpa using h2
        have e3 : (x == 5) = false := by simpa using h3
        have e4 : (x == 10) = false := by simpa using h4
        have e5 : (x == 11) = false := by simpa using h5
        clear h1 h2 h3 h4 h5 hy
        go_wp2_with fail
        refine (ColumnsTaken_any _ _).mono ?_
        rintro e w10 ⟨rfl, rfl⟩
        rw [HV.out]
        go_wp2
        go_roundw
        case rel => exact ⟨j + 1, by omega, by go_num, by rw [HT.out], by rw [HX.out, HE.out, List.append_nil]; exact ho, hg⟩
        case measure => simp [intOf]; omega
    · obtain rfl : j = r.xs.length := by omega
      have HX := Lib.hid (show letL 0 (r.xs.take r.xs.length) = letL 0 r.xs by rw [List.take_length])
      go_wp2
      go_ret
      exact ⟨_, rfl, by have := ho.out.ints; rw [HX.out] at this; exact this.mono (fun b _ hb => ⟨by have := hb.1; omega, hb.2⟩), HW.out.trans hg.out⟩
end Go.Proofs.Ytmimbnpcokfnlaa
